/- Several texts of this claim in one file: YtgnmledjkamojaaDoorPSpecValidTree, YtgnmledjkamojaaDoorPSpecDiff, YtgnmledjkamojaaDoorPSpecL5Set, YtgnmledjkamojaaDoorPLawsHeldEntryS, YtgnmledjkamojaaDoorPLawsHeldTree. -/
import Derived.Test.YtgnmledjkamojaaDoorM2
import Derived.Test.YtgnmledjkamojaaDoorM3
import Derived.Test.YtgnmledjkamojaaDoorM5
import Derived.Test.YtgnmledjkamojaaDoorM4
namespace Go.Proofs.YtgnmledjkamojaaDoor.P
open Go.RowKit Go.Proofs.YtgnmledjkamojaaDoorW.PrintWords Go.Proofs.YtgnmledjkamojaaDoorW.PrintLast Go.Proofs.YtgnmledjkamojaaDoorW.PrintMore
attribute [local go_sem] max2_int min2_int max_two min_two max_three min_three max_four min_four
set_option linter.unusedVariables false
set_option linter.unusedSimpArgs false

/-! ### spec_ValidTree: function 48 -/
mutual
def spec_ValidTree.l0 : Nat → Int → List (S37) → Option (Bool)
 | 0, _, _ => none
 | k + 1, x3, a7 => if x3 < (a7.length : Int) then (if 0 ≤ x3 then ((spec_ValidPath.f k ((rd_T37 a7 x3).f0)).bind fun az => (if az = true then (if (((rd_T37 a7 x3).f1).size : Int) > 1500 then (spec_ValidTree.j1 k x3 true a7 ((rd_T37 a7 x3).f0) ((rd_T37 a7 x3).f1) ((rd_T37 a7 x3).f2)) else (if x3 > 0 then (if 0 ≤ (wrap64 (x3 - 1)) then (if (wrap64 (x3 - 1)) < (a7.length : Int) then (spec_ValidTree.j1 k x3 (!(Op.bytesLess (((rd_T37 a7 (wrap64 (x3 - 1))).f0).toList) (((rd_T37 a7 x3).f0).toList))) a7 ((rd_T37 a7 x3).f0) ((rd_T37 a7 x3).f1) ((rd_T37 a7 x3).f2)) else (none)) else (none)) else (spec_ValidTree.j1 k x3 false a7 ((rd_T37 a7 x3).f0) ((rd_T37 a7 x3).f1) ((rd_T37 a7 x3).f2)))) else (spec_ValidTree.j1 k x3 true a7 ((rd_T37 a7 x3).f0) ((rd_T37 a7 x3).f1) ((rd_T37 a7 x3).f2)))) else (none)) else (some true)
def spec_ValidTree.j1 : Nat → Int → Bool → List (S37) → ByteArray → ByteArray → Bool → Option (Bool)
 | 0, _, _, _, _, _, _ => none
 | k + 1, x3, x47, a7, aA, aK, aL => if x47 = true then (some false) else (spec_ValidTree.l1 k x3 0 a7 aA aK aL)
def spec_ValidTree.l1 : Nat → Int → Int → List (S37) → ByteArray → ByteArray → Bool → Option (Bool)
 | 0, _, _, _, _, _, _ => none
 | k + 1, x3, x5, a7, aA, aK, aL => if x5 < x3 then (if 0 ≤ x5 then (if x5 < (a7.length : Int) then ((spec_l5Begins.f ((rd_T37 a7 x5).f0) aA).bind fun aB => (if aB = true then (some false) else (spec_ValidTree.l1 k x3 (wrap64 (x5 + 1)) a7 aA aK aL))) else (none)) else (none)) else (spec_ValidTree.l0 k (wrap64 (x3 + 1)) a7)
end
def spec_ValidTree.f (k : Nat) (a1 : List (S37)) : Option (Bool) := if (a1.length : Int) > 100 then (some false) else (spec_ValidTree.l0 k 0 a1)
theorem spec_ValidTree.mono_l : ∀ k, (∀ y0 y1, LeO (spec_ValidTree.l0 k y0 y1) (spec_ValidTree.l0 (k + 1) y0 y1)) ∧ (∀ y0 y1 y2 y3 y4 y5, LeO (spec_ValidTree.j1 k y0 y1 y2 y3 y4 y5) (spec_ValidTree.j1 (k + 1) y0 y1 y2 y3 y4 y5)) ∧ (∀ y0 y1 y2 y3 y4 y5, LeO (spec_ValidTree.l1 k y0 y1 y2 y3 y4 y5) (spec_ValidTree.l1 (k + 1) y0 y1 y2 y3 y4 y5))
 | 0 => ⟨fun _ _ r h => by simp [spec_ValidTree.l0] at h, fun _ _ _ _ _ _ r h => by simp [spec_ValidTree.j1] at h, fun _ _ _ _ _ _ r h => by simp [spec_ValidTree.l1] at h⟩
 | k + 1 => by
  obtain ⟨ih0, ih1, ih2⟩ := spec_ValidTree.mono_l k; refine ⟨?_, ?_, ?_⟩
  ·intro y0 y1
   unfold spec_ValidTree.l0
   repeat' first
   | (with_reducible exact ih0 _ _)
   | (with_reducible exact ih1 _ _ _ _ _ _)
   | (with_reducible exact ih2 _ _ _ _ _ _)
   | (with_reducible exact spec_ValidPath.mono _ _)
   | (with_reducible exact LeO.refl _)
   | (with_reducible exact LeO.none _)
   | (with_reducible refine LeO.ite ?_ ?_)
   | (with_reducible refine LeO.bind ?_ (fun _ => ?_))
   | exact ih0 _ _
   | exact ih1 _ _ _ _ _ _
   | exact ih2 _ _ _ _ _ _
   | exact spec_ValidPath.mono _ _
   | exact LeO.none _
   | refine LeO.ite ?_ ?_
   | refine LeO.bind ?_ (fun _ => ?_)
  ·intro y0 y1 y2 y3 y4 y5
   unfold spec_ValidTree.j1
   repeat' first
   | (with_reducible exact ih0 _ _)
   | (with_reducible exact ih1 _ _ _ _ _ _)
   | (with_reducible exact ih2 _ _ _ _ _ _)
   | (with_reducible exact spec_ValidPath.mono _ _)
   | (with_reducible exact LeO.refl _)
   | (with_reducible exact LeO.none _)
   | (with_reducible refine LeO.ite ?_ ?_)
   | (with_reducible refine LeO.bind ?_ (fun _ => ?_))
   | exact ih0 _ _
   | exact ih1 _ _ _ _ _ _
   | exact ih2 _ _ _ _ _ _
   | exact spec_ValidPath.mono _ _
   | exact LeO.none _
   | refine LeO.ite ?_ ?_
   | refine LeO.bind ?_ (fun _ => ?_)
  ·intro y0 y1 y2 y3 y4 y5
   unfold spec_ValidTree.l1
   repeat' first
   | (with_reducible exact ih0 _ _)
   | (with_reducible exact ih1 _ _ _ _ _ _)
   | (with_reducible exact ih2 _ _ _ _ _ _)
   | (with_reducible exact spec_ValidPath.mono _ _)
   | (with_reducible exact LeO.refl _)
   | (with_reducible exact LeO.none _)
   | (with_reducible refine LeO.ite ?_ ?_)
   | (with_reducible refine LeO.bind ?_ (fun _ => ?_))
   | exact ih0 _ _
   | exact ih1 _ _ _ _ _ _
   | exact ih2 _ _ _ _ _ _
   | exact spec_ValidPath.mono _ _
   | exact LeO.none _
   | refine LeO.ite ?_ ?_
   | refine LeO.bind ?_ (fun _ => ?_)
theorem spec_ValidTree.mono : ∀ a0 k, LeO (spec_ValidTree.f k a0) (spec_ValidTree.f (k + 1) a0) := by
 intro a0 k; obtain ⟨ih0, ih1, ih2⟩ := spec_ValidTree.mono_l k
 unfold spec_ValidTree.f
 repeat' first
   | (with_reducible exact ih0 _ _)
   | (with_reducible exact ih1 _ _ _ _ _ _)
   | (with_reducible exact ih2 _ _ _ _ _ _)
   | (with_reducible exact spec_ValidPath.mono _ _)
   | (with_reducible exact LeO.refl _)
   | (with_reducible exact LeO.none _)
   | (with_reducible refine LeO.ite ?_ ?_)
   | (with_reducible refine LeO.bind ?_ (fun _ => ?_))
   | exact ih0 _ _
   | exact ih1 _ _ _ _ _ _
   | exact ih2 _ _ _ _ _ _
   | exact spec_ValidPath.mono _ _
   | exact LeO.none _
   | refine LeO.ite ?_ ?_
   | refine LeO.bind ?_ (fun _ => ?_)
def spec_ValidTree.T7 : Bool × List (List Nat × List Nat) := (true, [([], []), ([0], [0]), ([1], [1]), ([2], [2]), ([3, 2], [3]), ([4], [4]), ([5, 4], [4, 5]), ([6, 4], [4, 6]), ([7, 4], [4, 7]), ([4, 8], [4, 8]), ([9, 4], [9]), ([10], [10]), ([11, 10], [10, 11]), ([12, 10, 10], [10, 12]), ([13], [13]), ([14, 13], [13, 14]), ([13], [13]), ([16, 13], [13, 16]), ([15, 17, 13], [13, 15, 17]), ([18, 13], [13, 18]), ([19, 13], [13, 19]), ([13], [13]), ([21, 13], [13, 21]), ([20, 22, 13], [13, 20, 22]), ([13, 23, 10], [10, 13, 23]), ([10, 24], [10, 24])])
def spec_ValidTree.B7 : List Nat := [0, 1, 3, 7, 15, 31, 63, 127, 255, 511, 1023, 2047, 4095, 8191, 16383, 32767, 16383, 81919, 262143, 524287, 1048575, 16383, 2113535, 8388607, 16777215, 33554431]
theorem spec_ValidTree.tab7 : rtab .any (opsOf Tryd.f48 7) = spec_ValidTree.T7 := by kernel_rfl
theorem spec_ValidTree.bits7 : waitsOk spec_ValidTree.T7.2 spec_ValidTree.B7 = true := by kernel_rfl
def spec_ValidTree.T12 : Bool × List (List Nat × List Nat) := (true, [([], []), ([0], [0]), ([], []), ([1, 2], [1, 2]), ([3], [3]), ([4], [4]), ([], []), ([6], [6]), ([5, 7], [5, 7])])
def spec_ValidTree.B12 : List Nat := [0, 1, 0, 7, 15, 31, 0, 64, 255]
theorem spec_ValidTree.tab12 : rtab .any (opsOf Tryd.f48 12) = spec_ValidTree.T12 := by kernel_rfl
theorem spec_ValidTree.bits12 : waitsOk spec_ValidTree.T12.2 spec_ValidTree.B12 = true := by kernel_rfl
set_option maxHeartbeats 8000000 in
set_option maxRecDepth 100000 in
theorem spec_ValidTree.calls (k : Nat) (au : Option Addr) (ae : Nat) (a1 : List (S37)) (r : Bool) (w : World) (aV : Kd.C k37 w au a1.length a1) (aW : a1.length ≤ ae) (h : spec_ValidTree.f k a1 = some r) :
  Calls Tryd.prog 48 #[.agg #[.slice au a1.length ae]] w fun e w' => e = .returned (.bool r) ∧ Below w.heap.size w w' := by
 have hu28 := Tryd.underlying28; have hu37 := Tryd.underlying37; have aC := Aside0.mk aV; have HC0_0 := Aside0.mk aW; clear aV aW; have HB := Aside0.mk (Below.refl w.heap.size w); have H : (if (a1.length : Int) > 100 then (some false) else (spec_ValidTree.l0 k 0 a1)) = some r := h; clear h
 by_cases c2 : (a1.length : Int) > 100
 ·rw [if_pos c2] at H
  have aX : decide (100 < (a1.length : Int)) = true := decide_eq_true c2; have aY : decide (100 < a1.length) = true := decide_eq_true (by omega); clear c2; obtain rfl := Option.some.inj H
  go_enter Tryd.func48, Tryd.ntmps48
  go_wp2_with (first | ((with_reducible refine gd 1 rfl ?_); (try (refine gate_guard (by rfl) ?_; dsimp only)); refine bx 1 28 (#[.slice au a1.length ae]) ?_; intro af hg w3 hbox hb; refine Ya4 (below_step (be HB.out) hb) (hbox) (bs hg (be HB.out)) (bs hg (be HB.out)) ?_; clear HB; intro HB a4 b1 b2; clear hb hbox hg; have ⟨b3, b4⟩ := Yc1 a4.out))
  go_ret
  exact ⟨Ye2, (bf HB.out)⟩
 ·rw [if_neg c2] at H
  have aX : decide (100 < (a1.length : Int)) = false := decide_eq_false c2; have aY : decide (100 < a1.length) = false := decide_eq_false (by omega); clear c2; have H' := Aside0.mk H; clear H
  go_enter Tryd.func48, Tryd.ntmps48
  go_wp2_with (first | ((with_reducible refine gd 1 rfl ?_); (try (refine gate_guard (by rfl) ?_; dsimp only)); refine bx 1 28 (#[.slice au a1.length ae]) ?_; intro af hg w5 hbox hb; refine Ya4 (below_step (be HB.out) hb) (hbox) (bs hg (be HB.out)) (bs hg (be HB.out)) ?_; clear HB; intro HB a4 b1 b2; clear hb hbox hg; have ⟨b5, b6⟩ := Yc1 a4.out))
  go_loopg [3] k (fun kq v3 w' => ∃ (a2 : Int), v3 = .int .i64 a2 ∧ Aside0 (spec_ValidTree.l0 kq a2 a1 = some r) ∧ Aside0 (kq ≤ k) ∧ Aside0 (w'.heap[af]? = some (.cells #[(.slice au a1.length ae)] 28 (0, 0))) ∧ Aside0 (Below w.heap.size w w'))
  case atStart => exact ⟨(0), Ye1, H', ⟨Nat.le_refl _⟩, ⟨bk a4.out⟩, ⟨bf HB.out⟩⟩
  case round =>
   clear H'; (try clear c2); (try clear aX); (try clear aY); (try clear p2); (try clear c4); (try clear b3); (try clear b5); (try clear b4); (try clear b6); obtain ⟨a2, rfl, HA, HK1, a4, HB⟩ := hrel
   cases gk with
   | zero => exact absurd HA.out (by simp [spec_ValidTree.l0])
   | succ k1 =>
    have H := HA.out; clear HA; simp only [spec_ValidTree.l0] at H
    by_cases c7 : a2 < (a1.length : Int)
    ·rw [if_pos c7] at H
     have b7 : decide (a2 < (a1.length : Int)) = true := decide_eq_true c7; clear c7
     by_cases c8 : 0 ≤ a2
     ·rw [if_pos c8] at H
      have c8b0 : decide (0 ≤ a2) = true := decide_eq_true c8; clear c8; have aM := Aside0.mk H; clear H; have ⟨bi, bj⟩ := Yc1 a4.out; have aN : 0 ≤ (a2 : Int) := oda; have aO : a2 < (a1.length : Int) := oda; obtain ⟨a8, b8, bm, bn, bo⟩ := at_T37 (Kd.C_below aC.out HB.out) a2 aN aO
      cases b8
      replace aN := eq_true aN; replace aO := eq_true aO
      go_upto_region 7 with (first | ((with_reducible refine gd 4 rfl ?_); (try (refine gate_guard (by rfl) ?_; dsimp only)); refine bx 4 37 (#[.string (⟨#[]⟩ : ByteArray), .string (⟨#[]⟩ : ByteArray), .bool false]) ?_; intro a5 hg aa hbox hb; refine Ya7 (bb a4 hb) (below_step (bf HB.out) hb) (hbox) (bs hg (bf HB.out)) (bs hg (bf HB.out)) (bl hg a4) (br hg a4) ?_; clear a4 HB; intro a4 HB a3 GW124 GE124 av b9; clear hb hbox hg; have hnb12 := b9.out; have hnc12 := av.out; have ⟨bq, bu, bv, bw, bz, bA⟩ := Yc3 a3.out))
      (try simp only [Act.put, List.setIfInBounds_toArray, List.set_cons_zero, List.set_cons_succ])
      go_cut [47] (fun v47 wc => ∃ (kq : Nat) (aD : Bool), v47 = .bool aD ∧ Aside0 (spec_ValidTree.j1 kq a2 aD a1 ((rd_T37 a1 a2).f0) ((rd_T37 a1 a2).f1) ((rd_T37 a1 a2).f2) = some r) ∧ Aside0 (kq ≤ k1) ∧ Aside0 (wc.heap[af]? = some (.cells #[(.slice (some a8) a1.length ae)] 28 (0, 0))) ∧ Aside0 (wc.heap[a5]? = some (.cells #[.string ((rd_T37 a1 a2).f0), .string ((rd_T37 a1 a2).f1), .bool ((rd_T37 a1 a2).f2)] 37 (0, 0))) ∧ Aside0 (Below w.heap.size w wc))
      case first =>
       have H := aM.out; clear aM; replace H := Option.bind_eq_some_iff.mp H; obtain ⟨az, aZ, H⟩ := H; replace H : (if az = true then (if (((rd_T37 a1 a2).f1).size : Int) > 1500 then (spec_ValidTree.j1 k1 a2 true a1 ((rd_T37 a1 a2).f0) ((rd_T37 a1 a2).f1) ((rd_T37 a1 a2).f2)) else (if a2 > 0 then (if 0 ≤ (wrap64 (a2 - 1)) then (if (wrap64 (a2 - 1)) < (a1.length : Int) then (spec_ValidTree.j1 k1 a2 (!(Op.bytesLess (((rd_T37 a1 (wrap64 (a2 - 1))).f0).toList) (((rd_T37 a1 a2).f0).toList))) a1 ((rd_T37 a1 a2).f0) ((rd_T37 a1 a2).f1) ((rd_T37 a1 a2).f2)) else (none)) else (none)) else (spec_ValidTree.j1 k1 a2 false a1 ((rd_T37 a1 a2).f0) ((rd_T37 a1 a2).f1) ((rd_T37 a1 a2).f2)))) else (spec_ValidTree.j1 k1 a2 true a1 ((rd_T37 a1 a2).f0) ((rd_T37 a1 a2).f1) ((rd_T37 a1 a2).f2))) = some r := H; have aw := Aside0.mk aZ; clear aZ
       by_cases an : az = true
       ·subst an
        have H1 : (if (((rd_T37 a1 a2).f1).size : Int) > 1500 then (spec_ValidTree.j1 k1 a2 true a1 ((rd_T37 a1 a2).f0) ((rd_T37 a1 a2).f1) ((rd_T37 a1 a2).f2)) else (if a2 > 0 then (if 0 ≤ (wrap64 (a2 - 1)) then (if (wrap64 (a2 - 1)) < (a1.length : Int) then (spec_ValidTree.j1 k1 a2 (!(Op.bytesLess (((rd_T37 a1 (wrap64 (a2 - 1))).f0).toList) (((rd_T37 a1 a2).f0).toList))) a1 ((rd_T37 a1 a2).f0) ((rd_T37 a1 a2).f1) ((rd_T37 a1 a2).f2)) else (none)) else (none)) else (spec_ValidTree.j1 k1 a2 false a1 ((rd_T37 a1 a2).f0) ((rd_T37 a1 a2).f1) ((rd_T37 a1 a2).f2)))) = some r := by rw [if_pos rfl] at H; exact H
        clear H; have H := H1; clear H1
        by_cases ao : (((rd_T37 a1 a2).f1).size : Int) > 1500
        ·rw [if_pos ao] at H
         have ax : decide (1500 < (((rd_T37 a1 a2).f1).size : Int)) = true := decide_eq_true ao; have ba : decide (1500 < ((rd_T37 a1 a2).f1).size) = true := decide_eq_true (by omega); clear ao; (first | rw [ax] | (simp only [i64_w, i32_w]; rw [ax]) | skip); have H' := Aside0.mk H; clear H
         try go_wp2
         have ab : Aside0 ((((aa.setCell ⟨a5, 0, none⟩ (.string ((rd_T37 a1 a2).f0))).setCell ⟨a5, 1, none⟩ (.string ((rd_T37 a1 a2).f1))).setCell ⟨a5, 2, none⟩ (.bool ((rd_T37 a1 a2).f2))).heap[af]? = some (.cells #[.slice (some a8) a1.length ae] 28 (0, 0))) := ⟨bkf a4.out av.out⟩
         have ac : Aside0 ((((aa.setCell ⟨a5, 0, none⟩ (.string ((rd_T37 a1 a2).f0))).setCell ⟨a5, 1, none⟩ (.string ((rd_T37 a1 a2).f1))).setCell ⟨a5, 2, none⟩ (.bool ((rd_T37 a1 a2).f2))).heap[a5]? = some (.cells #[.string ((rd_T37 a1 a2).f0), .string ((rd_T37 a1 a2).f1), .bool ((rd_T37 a1 a2).f2)] 37 (0, 0))) := ⟨bp a3.out⟩
         have ad : Aside0 (Below w.heap.size w (((aa.setCell ⟨a5, 0, none⟩ (.string ((rd_T37 a1 a2).f0))).setCell ⟨a5, 1, none⟩ (.string ((rd_T37 a1 a2).f1))).setCell ⟨a5, 2, none⟩ (.bool ((rd_T37 a1 a2).f2)))) := ⟨bf HB.out⟩
         (try clear a4); (try clear a3); (try clear HB); generalize (((aa.setCell ⟨a5, 0, none⟩ (.string ((rd_T37 a1 a2).f0))).setCell ⟨a5, 1, none⟩ (.string ((rd_T37 a1 a2).f1))).setCell ⟨a5, 2, none⟩ (.bool ((rd_T37 a1 a2).f2))) = w17 at ab ac ad ⊢; have a4 := ab; have a3 := ac; have HB := ad; clear ab ac ad; refine Ya3 (blk_drew a4.out) (blk_drew a3.out) (below_drew1 HB.out) ?_; clear a4 a3 HB; intro a4 a3 HB; refine start_ (n := 26) (S := fun w' => w'.cell? ⟨a5, 0, none⟩ = some (.string ((rd_T37 a1 a2).f0)) ∧ w'.cell? ⟨a5, 1, none⟩ = some (.string ((rd_T37 a1 a2).f1)) ∧ w'.cell? ⟨a5, 2, none⟩ = some (.bool ((rd_T37 a1 a2).f2))) (ds := []) (fb 26 0) (by kernel_rfl) rfl rfl ⟨bc a3 0, bc a3 1, bc a3 2⟩ (fun hHeld => ?_); refine with_tabW spec_ValidTree.tab7 spec_ValidTree.bits7 (fun HT_ HW_ => ?_); generalize w17.drew = w18 at a4 a3 HB hHeld ⊢; refine pu 0 22 (fb 26 1) HT_ ?_; refine tk 1 23 (fb 26 3) HT_ HW_ hHeld ?_; refine o1 2 (some 24) (fb 26 7) HT_ (fun K hK => ?_); refine gs _ (#[.string ((rd_T37 a1 a2).f0)]) Tryd.func30 ?_; (with_reducible refine (spec_ValidPath.calls k1 ((rd_T37 a1 a2).f0) true _ aw.out).mono ?_); rintro e w19 ⟨rfl, hb⟩; refine ⟨_, rfl, ?_⟩; refine Ya3 (bb a4 hb) (bb a3 hb) (below_step (bf HB.out) hb) ?_; clear a4 a3 HB; intro a4 a3 HB; (try clear hb); (try clear hb2); (try clear hk); (try clear hi); refine hK.out _ _ ⟨bc a3 0, bc a3 1, bc a3 2⟩ (fun hHeld => ?_); clear hK K; refine nm 24 ?_; refine pu 3 25 (fb 26 15) HT_ ?_; refine pu 4 26 (fb 26 31) HT_ ?_; refine pu 5 27 (fb 26 63) HT_ ?_; refine tk 6 28 (fb 26 127) HT_ HW_ hHeld ?_; refine pu 7 29 (fb 26 255) HT_ ?_; refine pu 8 30 (fb 26 511) HT_ ?_; refine pu 9 31 (fb 26 1023) HT_ ?_; refine pu 10 32 (fb 26 2047) HT_ ?_; refine pn 11 33 (fb 26 4095) HT_ ?_; refine pn 12 34 (fb 26 8191) HT_ ?_; refine pn 13 35 (fb 26 16383) HT_ ?_; refine pn 14 36 (fb 26 32767) HT_ ?_; refine pn 15 37 (fb 26 65535) HT_ ?_; refine pn 16 38 (fb 26 131071) HT_ ?_; refine pn 17 39 (fb 26 262143) HT_ ?_; refine pn 18 40 (fb 26 524287) HT_ ?_; refine pn 19 41 (fb 26 1048575) HT_ ?_; refine pn 20 42 (fb 26 2097151) HT_ ?_; refine pn 21 43 (fb 26 4194303) HT_ ?_; refine pn 22 44 (fb 26 8388607) HT_ ?_; refine pn 23 45 (fb 26 16777215) HT_ ?_; refine pn 24 46 (fb 26 33554431) HT_ ?_; refine pu 25 47 (fb 26 67108863) HT_ ?_; refine done_ (done_of HT_.out (by kernel_rfl)) ?_
         try go_wp2
         go_meet
         case rel => exact ⟨_, (true), Ye1, H', ⟨by have := HK1.out; first | omega | exact Nat.le_refl _⟩, ⟨bk a4.out⟩, ⟨bk a3.out⟩, ⟨bf HB.out⟩⟩
        ·rw [if_neg ao] at H
         have ax : decide (1500 < (((rd_T37 a1 a2).f1).size : Int)) = false := decide_eq_false ao; have ba : decide (1500 < ((rd_T37 a1 a2).f1).size) = false := decide_eq_false (by omega); clear ao; (first | rw [ax] | (simp only [i64_w, i32_w]; rw [ax]) | skip)
         by_cases aj : a2 > 0
         ·rw [if_pos aj] at H
          have aP : decide (0 < a2) = true := decide_eq_true aj; clear aj
          obtain ⟨a9, ak⟩ : ∃ j_ : Int, (wrap64 (a2 - 1)) = j_ := ⟨_, rfl⟩
          replace H : (if 0 ≤ (a9) then (if (a9) < (a1.length : Int) then (spec_ValidTree.j1 k1 a2 (!(Op.bytesLess (((rd_T37 a1 (a9)).f0).toList) (((rd_T37 a1 a2).f0).toList))) a1 ((rd_T37 a1 a2).f0) ((rd_T37 a1 a2).f1) ((rd_T37 a1 a2).f2)) else (none)) else (none)) = some r := by first | (rw [ak] at H; exact H) | (simp only [ak] at H ⊢; exact H)
          (try rw [ak] at aw); have hji21w : (IntKind.i64.wrap (a2 - 1)) = a9 := (i64_w _).trans ak
          by_cases ap : 0 ≤ (a9)
          ·rw [if_pos ap] at H
           have c22b0 : decide (0 ≤ (a9)) = true := decide_eq_true ap; clear ap
           by_cases aq : (a9) < (a1.length : Int)
           ·rw [if_pos aq] at H
            have c23b0 : decide ((a9) < (a1.length : Int)) = true := decide_eq_true aq; clear aq; have H' := Aside0.mk H; clear H
            try go_wp2
            have ab : Aside0 ((((aa.setCell ⟨a5, 0, none⟩ (.string ((rd_T37 a1 a2).f0))).setCell ⟨a5, 1, none⟩ (.string ((rd_T37 a1 a2).f1))).setCell ⟨a5, 2, none⟩ (.bool ((rd_T37 a1 a2).f2))).heap[af]? = some (.cells #[.slice (some a8) a1.length ae] 28 (0, 0))) := ⟨bkf a4.out av.out⟩
            have ac : Aside0 ((((aa.setCell ⟨a5, 0, none⟩ (.string ((rd_T37 a1 a2).f0))).setCell ⟨a5, 1, none⟩ (.string ((rd_T37 a1 a2).f1))).setCell ⟨a5, 2, none⟩ (.bool ((rd_T37 a1 a2).f2))).heap[a5]? = some (.cells #[.string ((rd_T37 a1 a2).f0), .string ((rd_T37 a1 a2).f1), .bool ((rd_T37 a1 a2).f2)] 37 (0, 0))) := ⟨bp a3.out⟩
            have ad : Aside0 (Below w.heap.size w (((aa.setCell ⟨a5, 0, none⟩ (.string ((rd_T37 a1 a2).f0))).setCell ⟨a5, 1, none⟩ (.string ((rd_T37 a1 a2).f1))).setCell ⟨a5, 2, none⟩ (.bool ((rd_T37 a1 a2).f2)))) := ⟨bf HB.out⟩
            (try clear a4); (try clear a3); (try clear HB); generalize (((aa.setCell ⟨a5, 0, none⟩ (.string ((rd_T37 a1 a2).f0))).setCell ⟨a5, 1, none⟩ (.string ((rd_T37 a1 a2).f1))).setCell ⟨a5, 2, none⟩ (.bool ((rd_T37 a1 a2).f2))) = w24 at ab ac ad ⊢; have a4 := ab; have a3 := ac; have HB := ad; clear ab ac ad; refine Ya3 (blk_drew a4.out) (blk_drew a3.out) (below_drew1 HB.out) ?_; clear a4 a3 HB; intro a4 a3 HB; have aQ : 0 ≤ ((a9) : Int) := oda; have aR : (a9) < (a1.length : Int) := oda; obtain ⟨bd, bg, aE, aF, aG⟩ := at_T37 aC.out (a9) aQ aR; have hw126_2 := aG; have hw126_1 := aF; have hw126_0 := aE
            obtain rfl : a8 = bd := (by injection bg)
            replace aE := pw_cell_below HB.out aE; replace aF := pw_cell_below HB.out aF; replace aG := pw_cell_below HB.out aG; replace aQ := eq_true aQ; replace aR := eq_true aR; refine start_ (n := 26) (S := fun w' => w'.cell? ⟨a5, 0, none⟩ = some (.string ((rd_T37 a1 a2).f0)) ∧ w'.cell? ⟨a5, 1, none⟩ = some (.string ((rd_T37 a1 a2).f1)) ∧ w'.cell? ⟨a5, 2, none⟩ = some (.bool ((rd_T37 a1 a2).f2)) ∧ w'.cell? ⟨af, 0, none⟩ = some (.slice (some a8) a1.length ae) ∧ w'.cell? (a8.add (((a9)).toNat * 3)) = some (.string ((rd_T37 a1 (a9)).f0)) ∧ w'.cell? ⟨(a8.add (((a9)).toNat * 3)).block, (a8.add (((a9)).toNat * 3)).off + 1, none⟩ = some (.string ((rd_T37 a1 (a9)).f1)) ∧ w'.cell? ⟨(a8.add (((a9)).toNat * 3)).block, (a8.add (((a9)).toNat * 3)).off + 2, none⟩ = some (.bool ((rd_T37 a1 (a9)).f2))) (ds := []) (fb 26 0) (by kernel_rfl) rfl rfl ⟨bc a3 0, bc a3 1, bc a3 2, bc a4 0, (pw_cell_below HB.out hw126_0), (pw_cell_below HB.out hw126_1), (pw_cell_below HB.out hw126_2)⟩ (fun hHeld => ?_); refine with_tabW spec_ValidTree.tab7 spec_ValidTree.bits7 (fun HT_ HW_ => ?_); generalize w24.drew = w25 at a4 a3 HB aE aF aG hHeld ⊢; refine pu 0 22 (fb 26 1) HT_ ?_; refine tk 1 23 (fb 26 3) HT_ HW_ hHeld ?_; refine o1 2 (some 24) (fb 26 7) HT_ (fun K hK => ?_); refine gs _ (#[.string ((rd_T37 a1 a2).f0)]) Tryd.func30 ?_; (with_reducible refine (spec_ValidPath.calls k1 ((rd_T37 a1 a2).f0) true _ aw.out).mono ?_); rintro e w26 ⟨rfl, hb⟩; refine ⟨_, rfl, ?_⟩; refine Ya3 (bb a4 hb) (bb a3 hb) (below_step (bf HB.out) hb) ?_; clear a4 a3 HB; intro a4 a3 HB; (try clear hb); (try clear hb2); (try clear hk); (try clear hi); refine hK.out _ _ ⟨bc a3 0, bc a3 1, bc a3 2, bc a4 0, (pw_cell_below HB.out hw126_0), (pw_cell_below HB.out hw126_1), (pw_cell_below HB.out hw126_2)⟩ (fun hHeld => ?_); clear hK K; refine nm 24 ?_; refine pu 3 25 (fb 26 15) HT_ ?_; refine pu 4 26 (fb 26 31) HT_ ?_; refine pu 5 27 (fb 26 63) HT_ ?_; refine tk 6 28 (fb 26 127) HT_ HW_ hHeld ?_; refine pu 7 29 (fb 26 255) HT_ ?_; refine pu 8 30 (fb 26 511) HT_ ?_; refine pu 9 31 (fb 26 1023) HT_ ?_; refine pu 10 32 (fb 26 2047) HT_ ?_; refine pu 11 33 (fb 26 4095) HT_ ?_; refine pu 12 34 (fb 26 8191) HT_ ?_; refine pu 13 35 (fb 26 16383) HT_ ?_; refine pu 14 36 (fb 26 32767) HT_ ?_; refine pu 16 38 (fb 26 98303) HT_ ?_; refine pu 17 39 (fb 26 229375) HT_ ?_; refine pu 21 43 (fb 26 2326527) HT_ ?_; refine tk 15 37 (fb 26 2359295) HT_ HW_ hHeld ?_; refine pu 18 40 (fb 26 2621439) HT_ ?_; refine pu 19 41 (fb 26 3145727) HT_ ?_; refine tk 20 42 (fb 26 4194303) HT_ HW_ hHeld ?_; refine tk 22 44 (fb 26 8388607) HT_ HW_ hHeld ?_; refine pu 23 45 (fb 26 16777215) HT_ ?_; refine pu 24 46 (fb 26 33554431) HT_ ?_; refine pu 25 47 (fb 26 67108863) HT_ ?_; refine done_ (done_of HT_.out (by kernel_rfl)) ?_
            try go_wp2
            go_meet
            case rel => exact ⟨_, (!(Op.bytesLess (((rd_T37 a1 (a9)).f0).toList) (((rd_T37 a1 a2).f0).toList))), (by first | rfl | (simp; done) | (simp only [← ak] <;> (first | rfl | simp)) | (simp [*]; done)), (by first | exact H' | (subst ak; exact H') | (simp only [← ak] at H' ⊢; exact H')), ⟨by have := HK1.out; first | omega | exact Nat.le_refl _⟩, ⟨bk a4.out⟩, ⟨bk a3.out⟩, ⟨bf HB.out⟩⟩
           ·rw [if_neg aq] at H
            exact absurd H (by simp)
          ·rw [if_neg ap] at H
           exact absurd H (by simp)
         ·rw [if_neg aj] at H
          have aP : decide (0 < a2) = false := decide_eq_false aj; clear aj; have H' := Aside0.mk H; clear H
          try go_wp2
          have ab : Aside0 ((((aa.setCell ⟨a5, 0, none⟩ (.string ((rd_T37 a1 a2).f0))).setCell ⟨a5, 1, none⟩ (.string ((rd_T37 a1 a2).f1))).setCell ⟨a5, 2, none⟩ (.bool ((rd_T37 a1 a2).f2))).heap[af]? = some (.cells #[.slice (some a8) a1.length ae] 28 (0, 0))) := ⟨bkf a4.out av.out⟩
          have ac : Aside0 ((((aa.setCell ⟨a5, 0, none⟩ (.string ((rd_T37 a1 a2).f0))).setCell ⟨a5, 1, none⟩ (.string ((rd_T37 a1 a2).f1))).setCell ⟨a5, 2, none⟩ (.bool ((rd_T37 a1 a2).f2))).heap[a5]? = some (.cells #[.string ((rd_T37 a1 a2).f0), .string ((rd_T37 a1 a2).f1), .bool ((rd_T37 a1 a2).f2)] 37 (0, 0))) := ⟨bp a3.out⟩
          have ad : Aside0 (Below w.heap.size w (((aa.setCell ⟨a5, 0, none⟩ (.string ((rd_T37 a1 a2).f0))).setCell ⟨a5, 1, none⟩ (.string ((rd_T37 a1 a2).f1))).setCell ⟨a5, 2, none⟩ (.bool ((rd_T37 a1 a2).f2)))) := ⟨bf HB.out⟩
          (try clear a4); (try clear a3); (try clear HB); generalize (((aa.setCell ⟨a5, 0, none⟩ (.string ((rd_T37 a1 a2).f0))).setCell ⟨a5, 1, none⟩ (.string ((rd_T37 a1 a2).f1))).setCell ⟨a5, 2, none⟩ (.bool ((rd_T37 a1 a2).f2))) = w27 at ab ac ad ⊢; have a4 := ab; have a3 := ac; have HB := ad; clear ab ac ad; refine Ya3 (blk_drew a4.out) (blk_drew a3.out) (below_drew1 HB.out) ?_; clear a4 a3 HB; intro a4 a3 HB; refine start_ (n := 26) (S := fun w' => w'.cell? ⟨a5, 0, none⟩ = some (.string ((rd_T37 a1 a2).f0)) ∧ w'.cell? ⟨a5, 1, none⟩ = some (.string ((rd_T37 a1 a2).f1)) ∧ w'.cell? ⟨a5, 2, none⟩ = some (.bool ((rd_T37 a1 a2).f2))) (ds := []) (fb 26 0) (by kernel_rfl) rfl rfl ⟨bc a3 0, bc a3 1, bc a3 2⟩ (fun hHeld => ?_); refine with_tabW spec_ValidTree.tab7 spec_ValidTree.bits7 (fun HT_ HW_ => ?_); generalize w27.drew = w28 at a4 a3 HB hHeld ⊢; refine pu 0 22 (fb 26 1) HT_ ?_; refine tk 1 23 (fb 26 3) HT_ HW_ hHeld ?_; refine o1 2 (some 24) (fb 26 7) HT_ (fun K hK => ?_); refine gs _ (#[.string ((rd_T37 a1 a2).f0)]) Tryd.func30 ?_; (with_reducible refine (spec_ValidPath.calls k1 ((rd_T37 a1 a2).f0) true _ aw.out).mono ?_); rintro e w29 ⟨rfl, hb⟩; refine ⟨_, rfl, ?_⟩; refine Ya3 (bb a4 hb) (bb a3 hb) (below_step (bf HB.out) hb) ?_; clear a4 a3 HB; intro a4 a3 HB; (try clear hb); (try clear hb2); (try clear hk); (try clear hi); refine hK.out _ _ ⟨bc a3 0, bc a3 1, bc a3 2⟩ (fun hHeld => ?_); clear hK K; refine nm 24 ?_; refine pu 3 25 (fb 26 15) HT_ ?_; refine pu 4 26 (fb 26 31) HT_ ?_; refine pu 5 27 (fb 26 63) HT_ ?_; refine tk 6 28 (fb 26 127) HT_ HW_ hHeld ?_; refine pu 7 29 (fb 26 255) HT_ ?_; refine pu 8 30 (fb 26 511) HT_ ?_; refine pu 9 31 (fb 26 1023) HT_ ?_; refine pu 10 32 (fb 26 2047) HT_ ?_; refine pu 11 33 (fb 26 4095) HT_ ?_; refine pu 12 34 (fb 26 8191) HT_ ?_; refine pu 13 35 (fb 26 16383) HT_ ?_; refine pn 14 36 (fb 26 32767) HT_ ?_; refine pn 15 37 (fb 26 65535) HT_ ?_; refine pn 16 38 (fb 26 131071) HT_ ?_; refine pn 17 39 (fb 26 262143) HT_ ?_; refine pn 18 40 (fb 26 524287) HT_ ?_; refine pn 19 41 (fb 26 1048575) HT_ ?_; refine pn 20 42 (fb 26 2097151) HT_ ?_; refine pn 21 43 (fb 26 4194303) HT_ ?_; refine pn 22 44 (fb 26 8388607) HT_ ?_; refine pn 23 45 (fb 26 16777215) HT_ ?_; refine pu 24 46 (fb 26 33554431) HT_ ?_; refine pu 25 47 (fb 26 67108863) HT_ ?_; refine done_ (done_of HT_.out (by kernel_rfl)) ?_
          try go_wp2
          go_meet
          case rel => exact ⟨_, (false), Ye1, H', ⟨by have := HK1.out; first | omega | exact Nat.le_refl _⟩, ⟨bk a4.out⟩, ⟨bk a3.out⟩, ⟨bf HB.out⟩⟩
       ·replace an := Bool.eq_false_iff.mpr an; subst an
        have H1 : (spec_ValidTree.j1 k1 a2 true a1 ((rd_T37 a1 a2).f0) ((rd_T37 a1 a2).f1) ((rd_T37 a1 a2).f2)) = some r := by rw [if_neg (show ¬ (false = true) by decide)] at H; exact H
        clear H; have H := H1; clear H1; have H' := Aside0.mk H; clear H
        try go_wp2
        have ab : Aside0 ((((aa.setCell ⟨a5, 0, none⟩ (.string ((rd_T37 a1 a2).f0))).setCell ⟨a5, 1, none⟩ (.string ((rd_T37 a1 a2).f1))).setCell ⟨a5, 2, none⟩ (.bool ((rd_T37 a1 a2).f2))).heap[af]? = some (.cells #[.slice (some a8) a1.length ae] 28 (0, 0))) := ⟨bkf a4.out av.out⟩
        have ac : Aside0 ((((aa.setCell ⟨a5, 0, none⟩ (.string ((rd_T37 a1 a2).f0))).setCell ⟨a5, 1, none⟩ (.string ((rd_T37 a1 a2).f1))).setCell ⟨a5, 2, none⟩ (.bool ((rd_T37 a1 a2).f2))).heap[a5]? = some (.cells #[.string ((rd_T37 a1 a2).f0), .string ((rd_T37 a1 a2).f1), .bool ((rd_T37 a1 a2).f2)] 37 (0, 0))) := ⟨bp a3.out⟩
        have ad : Aside0 (Below w.heap.size w (((aa.setCell ⟨a5, 0, none⟩ (.string ((rd_T37 a1 a2).f0))).setCell ⟨a5, 1, none⟩ (.string ((rd_T37 a1 a2).f1))).setCell ⟨a5, 2, none⟩ (.bool ((rd_T37 a1 a2).f2)))) := ⟨bf HB.out⟩
        (try clear a4); (try clear a3); (try clear HB); generalize (((aa.setCell ⟨a5, 0, none⟩ (.string ((rd_T37 a1 a2).f0))).setCell ⟨a5, 1, none⟩ (.string ((rd_T37 a1 a2).f1))).setCell ⟨a5, 2, none⟩ (.bool ((rd_T37 a1 a2).f2))) = w30 at ab ac ad ⊢; have a4 := ab; have a3 := ac; have HB := ad; clear ab ac ad; refine Ya3 (blk_drew a4.out) (blk_drew a3.out) (below_drew1 HB.out) ?_; clear a4 a3 HB; intro a4 a3 HB; refine start_ (n := 26) (S := fun w' => w'.cell? ⟨a5, 0, none⟩ = some (.string ((rd_T37 a1 a2).f0)) ∧ w'.cell? ⟨a5, 1, none⟩ = some (.string ((rd_T37 a1 a2).f1)) ∧ w'.cell? ⟨a5, 2, none⟩ = some (.bool ((rd_T37 a1 a2).f2))) (ds := []) (fb 26 0) (by kernel_rfl) rfl rfl ⟨bc a3 0, bc a3 1, bc a3 2⟩ (fun hHeld => ?_); refine with_tabW spec_ValidTree.tab7 spec_ValidTree.bits7 (fun HT_ HW_ => ?_); generalize w30.drew = w31 at a4 a3 HB hHeld ⊢; refine pu 0 22 (fb 26 1) HT_ ?_; refine tk 1 23 (fb 26 3) HT_ HW_ hHeld ?_; refine o1 2 (some 24) (fb 26 7) HT_ (fun K hK => ?_); refine gs _ (#[.string ((rd_T37 a1 a2).f0)]) Tryd.func30 ?_; (with_reducible refine (spec_ValidPath.calls k1 ((rd_T37 a1 a2).f0) false _ aw.out).mono ?_); rintro e w32 ⟨rfl, hb⟩; refine ⟨_, rfl, ?_⟩; refine Ya3 (bb a4 hb) (bb a3 hb) (below_step (bf HB.out) hb) ?_; clear a4 a3 HB; intro a4 a3 HB; (try clear hb); (try clear hb2); (try clear hk); (try clear hi); refine hK.out _ _ ⟨bc a3 0, bc a3 1, bc a3 2⟩ (fun hHeld => ?_); clear hK K; refine nm 24 ?_; refine pu 3 25 (fb 26 15) HT_ ?_; refine pu 4 26 (fb 26 31) HT_ ?_; refine pn 5 27 (fb 26 63) HT_ ?_; refine pn 6 28 (fb 26 127) HT_ ?_; refine pn 7 29 (fb 26 255) HT_ ?_; refine pn 8 30 (fb 26 511) HT_ ?_; refine pu 9 31 (fb 26 1023) HT_ ?_; refine pu 10 32 (fb 26 2047) HT_ ?_; refine pn 11 33 (fb 26 4095) HT_ ?_; refine pn 12 34 (fb 26 8191) HT_ ?_; refine pn 13 35 (fb 26 16383) HT_ ?_; refine pn 14 36 (fb 26 32767) HT_ ?_; refine pn 15 37 (fb 26 65535) HT_ ?_; refine pn 16 38 (fb 26 131071) HT_ ?_; refine pn 17 39 (fb 26 262143) HT_ ?_; refine pn 18 40 (fb 26 524287) HT_ ?_; refine pn 19 41 (fb 26 1048575) HT_ ?_; refine pn 20 42 (fb 26 2097151) HT_ ?_; refine pn 21 43 (fb 26 4194303) HT_ ?_; refine pn 22 44 (fb 26 8388607) HT_ ?_; refine pn 23 45 (fb 26 16777215) HT_ ?_; refine pn 24 46 (fb 26 33554431) HT_ ?_; refine pu 25 47 (fb 26 67108863) HT_ ?_; refine done_ (done_of HT_.out (by kernel_rfl)) ?_
        try go_wp2
        go_meet
        case rel => exact ⟨_, (true), Ye1, H', ⟨by have := HK1.out; first | omega | exact Nat.le_refl _⟩, ⟨bk a4.out⟩, ⟨bk a3.out⟩, ⟨bf HB.out⟩⟩
      case rest =>
       clear aM; (try clear c1); (try clear c2); (try clear p2); (try clear c3); (try clear an); (try clear aj); (try clear aP); (try clear ap); (try clear aq); (try clear c30); obtain ⟨kq, aD, rfl, HA, HJ8, a4, a3, HB⟩ := hcut
       cases kq with
       | zero => exact absurd HA.out (by simp [spec_ValidTree.j1])
       | succ aS =>
        have H := HA.out; clear HA; simp only [spec_ValidTree.j1] at H
        by_cases ay : aD = true
        ·subst ay
         have H1 : (some false) = some r := by rw [if_pos rfl] at H; exact H
         clear H; have H := H1; clear H1; obtain rfl := Option.some.inj H
         go_wp2
         go_ret
         exact ⟨Ye2, (bf HB.out)⟩
        ·replace ay := Bool.eq_false_iff.mpr ay; subst ay
         have H1 : (spec_ValidTree.l1 aS a2 0 a1 ((rd_T37 a1 a2).f0) ((rd_T37 a1 a2).f1) ((rd_T37 a1 a2).f2)) = some r := by rw [if_neg (show ¬ (false = true) by decide)] at H; exact H
         clear H; have H := H1; clear H1; have H' := Aside0.mk H; clear H
         go_wp2
         go_loopg [5] aS (fun kq v5 w' => ∃ (a6 : Int), v5 = .int .i64 a6 ∧ Aside0 (spec_ValidTree.l1 kq a2 a6 a1 ((rd_T37 a1 a2).f0) ((rd_T37 a1 a2).f1) ((rd_T37 a1 a2).f2) = some r) ∧ Aside0 (kq ≤ aS) ∧ Aside0 (w'.heap[af]? = some (.cells #[(.slice (some a8) a1.length ae)] 28 (0, 0))) ∧ Aside0 (w'.heap[a5]? = some (.cells #[.string ((rd_T37 a1 a2).f0), .string ((rd_T37 a1 a2).f1), .bool ((rd_T37 a1 a2).f2)] 37 (0, 0))) ∧ Aside0 (Below w.heap.size w w'))
         case atStart => exact ⟨(0), Ye1, H', ⟨Nat.le_refl _⟩, ⟨bk a4.out⟩, ⟨bk a3.out⟩, ⟨bf HB.out⟩⟩
         case round =>
          clear H'; (try clear c1); (try clear c2); (try clear p2); (try clear c3); (try clear an); (try clear aj); (try clear aP); (try clear ap); (try clear aq); (try clear c30); (try clear ay); (try clear p2); obtain ⟨a6, rfl, HA, HK3, a4, a3, HB⟩ := hrel
          cases gk with
          | zero => exact absurd HA.out (by simp [spec_ValidTree.l1])
          | succ k3 =>
           have H := HA.out; clear HA; simp only [spec_ValidTree.l1] at H
           by_cases ar : a6 < a2
           ·rw [if_pos ar] at H
            have bh : decide (a6 < a2) = true := decide_eq_true ar; clear ar
            by_cases aH : 0 ≤ a6
            ·rw [if_pos aH] at H
             have c35b0 : decide (0 ≤ a6) = true := decide_eq_true aH; clear aH
             by_cases aI : a6 < (a1.length : Int)
             ·rw [if_pos aI] at H
              have c36b0 : decide (a6 < (a1.length : Int)) = true := decide_eq_true aI; clear aI; replace H := Option.bind_eq_some_iff.mp H; obtain ⟨aB, b0, H⟩ := H; replace H : (if aB = true then (some false) else (spec_ValidTree.l1 k3 a2 (wrap64 (a6 + 1)) a1 ((rd_T37 a1 a2).f0) ((rd_T37 a1 a2).f1) ((rd_T37 a1 a2).f2))) = some r := H; have A37 := Aside0.mk b0; clear b0
              by_cases aJ : aB = true
              ·subst aJ
               have H1 : (some false) = some r := by rw [if_pos rfl] at H; exact H
               clear H; have H := H1; clear H1; obtain rfl := Option.some.inj H
               try go_wp2
               refine Ya3 (blk_drew a4.out) (blk_drew a3.out) (below_drew1 HB.out) ?_; clear a4 a3 HB; intro a4 a3 HB; have al : 0 ≤ (a6 : Int) := oda; have am : a6 < (a1.length : Int) := oda; obtain ⟨aT, aU, ag, ah, ai⟩ := at_T37 aC.out a6 al am; have hw127_2 := ai; have hw127_1 := ah; have hw127_0 := ag
               obtain rfl : a8 = aT := (by injection aU)
               replace ag := pw_cell_below HB.out ag; replace ah := pw_cell_below HB.out ah; replace ai := pw_cell_below HB.out ai; replace al := eq_true al; replace am := eq_true am; refine start_ (n := 9) (S := fun w' => w'.cell? ⟨af, 0, none⟩ = some (.slice (some a8) a1.length ae) ∧ w'.cell? ⟨a5, 0, none⟩ = some (.string ((rd_T37 a1 a2).f0)) ∧ w'.cell? ⟨a5, 1, none⟩ = some (.string ((rd_T37 a1 a2).f1)) ∧ w'.cell? ⟨a5, 2, none⟩ = some (.bool ((rd_T37 a1 a2).f2)) ∧ w'.cell? (a8.add ((a6).toNat * 3)) = some (.string ((rd_T37 a1 a6).f0)) ∧ w'.cell? ⟨(a8.add ((a6).toNat * 3)).block, (a8.add ((a6).toNat * 3)).off + 1, none⟩ = some (.string ((rd_T37 a1 a6).f1)) ∧ w'.cell? ⟨(a8.add ((a6).toNat * 3)).block, (a8.add ((a6).toNat * 3)).off + 2, none⟩ = some (.bool ((rd_T37 a1 a6).f2))) (ds := []) (fb 9 0) (by kernel_rfl) rfl rfl ⟨bc a4 0, bc a3 0, bc a3 1, bc a3 2, (pw_cell_below HB.out hw127_0), (pw_cell_below HB.out hw127_1), (pw_cell_below HB.out hw127_2)⟩ (fun hHeld => ?_); refine with_tabW spec_ValidTree.tab12 spec_ValidTree.bits12 (fun HT_ HW_ => ?_); generalize wr.drew = w39 at a4 a3 HB ag ah ai hHeld ⊢; refine pu 0 53 (fb 9 1) HT_ ?_; refine pu 2 55 (fb 9 5) HT_ ?_; refine pu 6 59 (fb 9 69) HT_ ?_; refine tk 1 54 (fb 9 71) HT_ HW_ hHeld ?_; refine pu 3 56 (fb 9 79) HT_ ?_; refine pu 4 57 (fb 9 95) HT_ ?_; refine tk 5 58 (fb 9 127) HT_ HW_ hHeld ?_; refine tk 7 60 (fb 9 255) HT_ HW_ hHeld ?_; refine o1 8 (some 61) (fb 9 511) HT_ (fun K hK => ?_); refine gs _ (#[.string ((rd_T37 a1 a6).f0), .string ((rd_T37 a1 a2).f0)]) Tryd.func64 ?_; (with_reducible refine (spec_l5Begins.calls ((rd_T37 a1 a6).f0) ((rd_T37 a1 a2).f0) true _ A37.out).mono ?_); rintro e w' ⟨rfl, ⟨nd, rfl⟩⟩; refine ⟨_, rfl, ?_⟩; refine hK.out _ _ ⟨bc a4 0, bc a3 0, bc a3 1, bc a3 2, (pw_cell_below HB.out hw127_0), (pw_cell_below HB.out hw127_1), (pw_cell_below HB.out hw127_2)⟩ (fun hHeld => ?_); clear hK K; refine nm 61 ?_; refine done_ (done_of HT_.out (by kernel_rfl)) ?_
               try go_wp2
               go_ret
               exact ⟨Ye2, (bf HB.out)⟩
              ·replace aJ := Bool.eq_false_iff.mpr aJ; subst aJ
               have H1 : (spec_ValidTree.l1 k3 a2 (wrap64 (a6 + 1)) a1 ((rd_T37 a1 a2).f0) ((rd_T37 a1 a2).f1) ((rd_T37 a1 a2).f2)) = some r := by rw [if_neg (show ¬ (false = true) by decide)] at H; exact H
               clear H; have H := H1; clear H1; have H' := Aside0.mk H; clear H
               try go_wp2
               refine Ya3 (blk_drew a4.out) (blk_drew a3.out) (below_drew1 HB.out) ?_; clear a4 a3 HB; intro a4 a3 HB; have al : 0 ≤ (a6 : Int) := oda; have am : a6 < (a1.length : Int) := oda; obtain ⟨aT, aU, ag, ah, ai⟩ := at_T37 aC.out a6 al am; have hw127_2 := ai; have hw127_1 := ah; have hw127_0 := ag
               obtain rfl : a8 = aT := (by injection aU)
               replace ag := pw_cell_below HB.out ag; replace ah := pw_cell_below HB.out ah; replace ai := pw_cell_below HB.out ai; replace al := eq_true al; replace am := eq_true am; refine start_ (n := 9) (S := fun w' => w'.cell? ⟨af, 0, none⟩ = some (.slice (some a8) a1.length ae) ∧ w'.cell? ⟨a5, 0, none⟩ = some (.string ((rd_T37 a1 a2).f0)) ∧ w'.cell? ⟨a5, 1, none⟩ = some (.string ((rd_T37 a1 a2).f1)) ∧ w'.cell? ⟨a5, 2, none⟩ = some (.bool ((rd_T37 a1 a2).f2)) ∧ w'.cell? (a8.add ((a6).toNat * 3)) = some (.string ((rd_T37 a1 a6).f0)) ∧ w'.cell? ⟨(a8.add ((a6).toNat * 3)).block, (a8.add ((a6).toNat * 3)).off + 1, none⟩ = some (.string ((rd_T37 a1 a6).f1)) ∧ w'.cell? ⟨(a8.add ((a6).toNat * 3)).block, (a8.add ((a6).toNat * 3)).off + 2, none⟩ = some (.bool ((rd_T37 a1 a6).f2))) (ds := []) (fb 9 0) (by kernel_rfl) rfl rfl ⟨bc a4 0, bc a3 0, bc a3 1, bc a3 2, (pw_cell_below HB.out hw127_0), (pw_cell_below HB.out hw127_1), (pw_cell_below HB.out hw127_2)⟩ (fun hHeld => ?_); refine with_tabW spec_ValidTree.tab12 spec_ValidTree.bits12 (fun HT_ HW_ => ?_); generalize wr.drew = w40 at a4 a3 HB ag ah ai hHeld ⊢; refine pu 0 53 (fb 9 1) HT_ ?_; refine pu 2 55 (fb 9 5) HT_ ?_; refine pu 6 59 (fb 9 69) HT_ ?_; refine tk 1 54 (fb 9 71) HT_ HW_ hHeld ?_; refine pu 3 56 (fb 9 79) HT_ ?_; refine pu 4 57 (fb 9 95) HT_ ?_; refine tk 5 58 (fb 9 127) HT_ HW_ hHeld ?_; refine tk 7 60 (fb 9 255) HT_ HW_ hHeld ?_; refine o1 8 (some 61) (fb 9 511) HT_ (fun K hK => ?_); refine gs _ (#[.string ((rd_T37 a1 a6).f0), .string ((rd_T37 a1 a2).f0)]) Tryd.func64 ?_; (with_reducible refine (spec_l5Begins.calls ((rd_T37 a1 a6).f0) ((rd_T37 a1 a2).f0) false _ A37.out).mono ?_); rintro e w' ⟨rfl, ⟨nd, rfl⟩⟩; refine ⟨_, rfl, ?_⟩; refine hK.out _ _ ⟨bc a4 0, bc a3 0, bc a3 1, bc a3 2, (pw_cell_below HB.out hw127_0), (pw_cell_below HB.out hw127_1), (pw_cell_below HB.out hw127_2)⟩ (fun hHeld => ?_); clear hK K; refine nm 61 ?_; refine done_ (done_of HT_.out (by kernel_rfl)) ?_
               try go_wp2
               go_roundg k3
               case measure => have := HK1.out; have := HJ8.out; have := HK3.out; omega
               case rel => exact ⟨(wrap64 (a6 + 1)), Ye1, H', ⟨by have := HK1.out; have := HJ8.out; have := HK3.out; omega⟩, ⟨bk a4.out⟩, ⟨bk a3.out⟩, ⟨bf HB.out⟩⟩
             ·rw [if_neg aI] at H
              exact absurd H (by simp)
            ·rw [if_neg aH] at H
             exact absurd H (by simp)
           ·rw [if_neg ar] at H
            have bh : decide (a6 < a2) = false := decide_eq_false ar; clear ar; have H' := Aside0.mk H; clear H
            go_wp2
            go_roundg k3
            case measure => have := HK1.out; have := HJ8.out; have := HK3.out; omega
            case rel => exact ⟨(wrap64 (a2 + 1)), Ye1, H', ⟨by have := HK1.out; have := HJ8.out; have := HK3.out; omega⟩, ⟨bk a4.out⟩, ⟨bf HB.out⟩⟩
     ·rw [if_neg c8] at H
      exact absurd H (by simp)
    ·rw [if_neg c7] at H
     have b7 : decide (a2 < (a1.length : Int)) = false := decide_eq_false c7; clear c7; obtain rfl := Option.some.inj H; have ⟨bB, bC⟩ := Yc1 a4.out
     go_wp2
     go_ret
     exact ⟨Ye2, (bf HB.out)⟩

end Go.Proofs.YtgnmledjkamojaaDoor.P


namespace Go.Proofs.YtgnmledjkamojaaDoor.P
open Go.RowKit Go.Proofs.YtgnmledjkamojaaDoorW.PrintWords Go.Proofs.YtgnmledjkamojaaDoorW.PrintLast Go.Proofs.YtgnmledjkamojaaDoorW.PrintMore
attribute [local go_sem] max2_int min2_int max_two min_two max_three min_three max_four min_four
set_option linter.unusedVariables false
set_option linter.unusedSimpArgs false

attribute [local go_sem high] eqA122
/-! ### spec_Diff: function 35 -/
mutual
def spec_Diff.j0 : Nat → Bool → List (S37) → List (S37) → Option ((List (S125)))
 | 0, _, _, _ => none
 | k + 1, x18, bR, bS => if x18 = true then (some ([] : List (S125))) else ((spec_l6Paths.f k (([(⟨bR⟩ : S28), (⟨bS⟩ : S28)] : List (S28)))).bind fun ac => (spec_Diff.l0 k ac 0 bR bS ([] : List (S125))))
def spec_Diff.l0 : Nat → List ByteArray → Int → List (S37) → List (S37) → List (S125) → Option ((List (S125)))
 | 0, _, _, _, _, _ => none
 | k + 1, x6, x7, bR, bS, ck => if x7 < (x6.length : Int) then (if 0 ≤ x7 then ((spec_l6At.f k bR (rdOf ByteArray.empty x6 x7)).bind fun bt816 => ((spec_l6At.f k bS (rdOf ByteArray.empty x6 x7)).bind fun bt821 => (if (!(bt816.1 == bt821.1) || (!(bt816.2.1.toList == bt821.2.1.toList) || (!(bt816.2.2 == bt821.2.2)))) = true then (if ck.length < 1759218604441 then (spec_Diff.l0 k x6 (wrap64 (x7 + 1)) bR bS (ck ++ [(⟨rdOf ByteArray.empty x6 x7, (⟨bt816.1, bt816.2.1, bt816.2.2⟩ : S122), (⟨bt821.1, bt821.2.1, bt821.2.2⟩ : S122)⟩ : S125)])) else (none)) else (spec_Diff.l0 k x6 (wrap64 (x7 + 1)) bR bS ck)))) else (none)) else (some ck)
end
def spec_Diff.f (k : Nat) (ae : List (S37)) (af : List (S37)) : Option ((List (S125))) := (spec_ValidTree.f k ae).bind fun bT => (if bT = true then ((spec_ValidTree.f k af).bind fun bo => (spec_Diff.j0 k (!bo) ae af)) else (spec_Diff.j0 k true ae af))
theorem spec_Diff.mono_l : ∀ k, (∀ y0 y1 y2, LeO (spec_Diff.j0 k y0 y1 y2) (spec_Diff.j0 (k + 1) y0 y1 y2)) ∧ (∀ y0 y1 y2 y3 y4, LeO (spec_Diff.l0 k y0 y1 y2 y3 y4) (spec_Diff.l0 (k + 1) y0 y1 y2 y3 y4))
 | 0 => ⟨fun _ _ _ r h => by simp [spec_Diff.j0] at h, fun _ _ _ _ _ r h => by simp [spec_Diff.l0] at h⟩
 | k + 1 => by
  obtain ⟨ih0, ih1⟩ := spec_Diff.mono_l k; refine ⟨?_, ?_⟩
  ·intro y0 y1 y2
   unfold spec_Diff.j0
   repeat' first
   | (with_reducible exact ih0 _ _ _)
   | (with_reducible exact ih1 _ _ _ _ _)
   | (with_reducible exact spec_ValidTree.mono _ _)
   | (with_reducible exact spec_l6At.mono _ _ _)
   | (with_reducible exact spec_l6Paths.mono _ _)
   | (with_reducible exact LeO.refl _)
   | (with_reducible exact LeO.none _)
   | (with_reducible refine LeO.ite ?_ ?_)
   | (with_reducible refine LeO.bind ?_ (fun _ => ?_))
   | exact ih0 _ _ _
   | exact ih1 _ _ _ _ _
   | exact spec_ValidTree.mono _ _
   | exact spec_l6At.mono _ _ _
   | exact spec_l6Paths.mono _ _
   | exact LeO.none _
   | refine LeO.ite ?_ ?_
   | refine LeO.bind ?_ (fun _ => ?_)
  ·intro y0 y1 y2 y3 y4
   unfold spec_Diff.l0
   repeat' first
   | (with_reducible exact ih0 _ _ _)
   | (with_reducible exact ih1 _ _ _ _ _)
   | (with_reducible exact spec_ValidTree.mono _ _)
   | (with_reducible exact spec_l6At.mono _ _ _)
   | (with_reducible exact spec_l6Paths.mono _ _)
   | (with_reducible exact LeO.refl _)
   | (with_reducible exact LeO.none _)
   | (with_reducible refine LeO.ite ?_ ?_)
   | (with_reducible refine LeO.bind ?_ (fun _ => ?_))
   | exact ih0 _ _ _
   | exact ih1 _ _ _ _ _
   | exact spec_ValidTree.mono _ _
   | exact spec_l6At.mono _ _ _
   | exact spec_l6Paths.mono _ _
   | exact LeO.none _
   | refine LeO.ite ?_ ?_
   | refine LeO.bind ?_ (fun _ => ?_)
theorem spec_Diff.mono : ∀ a0 a1 k, LeO (spec_Diff.f k a0 a1) (spec_Diff.f (k + 1) a0 a1) := by
 intro a0 a1 k; obtain ⟨ih0, ih1⟩ := spec_Diff.mono_l k
 unfold spec_Diff.f
 repeat' first
   | (with_reducible exact ih0 _ _ _)
   | (with_reducible exact ih1 _ _ _ _ _)
   | (with_reducible exact spec_ValidTree.mono _ _)
   | (with_reducible exact spec_l6At.mono _ _ _)
   | (with_reducible exact spec_l6Paths.mono _ _)
   | (with_reducible exact LeO.refl _)
   | (with_reducible exact LeO.none _)
   | (with_reducible refine LeO.ite ?_ ?_)
   | (with_reducible refine LeO.bind ?_ (fun _ => ?_))
   | exact ih0 _ _ _
   | exact ih1 _ _ _ _ _
   | exact spec_ValidTree.mono _ _
   | exact spec_l6At.mono _ _ _
   | exact spec_l6Paths.mono _ _
   | exact LeO.none _
   | refine LeO.ite ?_ ?_
   | refine LeO.bind ?_ (fun _ => ?_)
def spec_Diff.T8 : Bool × List (List Nat × List Nat) := (true, [([], []), ([], []), ([], []), ([1, 2], [1, 2]), ([3], [3]), ([0, 4], [0, 4]), ([], []), ([6, 5, 5, 0, 1, 2, 3, 4, 5, 6], [5, 6])])
def spec_Diff.B8 : List Nat := [0, 0, 0, 6, 14, 31, 0, 127]
theorem spec_Diff.tab8 : rtab .any (opsOf Tryd.f35 8) = spec_Diff.T8 := by kernel_rfl
theorem spec_Diff.bits8 : waitsOk spec_Diff.T8.2 spec_Diff.B8 = true := by kernel_rfl
def spec_Diff.T9 : Bool × List (List Nat × List Nat) := (true, [([], []), ([], []), ([], []), ([1, 2], [1, 2]), ([3], [3]), ([0, 4], [0, 4]), ([], []), ([6, 5, 5, 0, 1, 2, 3, 4, 5, 6], [5, 6])])
def spec_Diff.B9 : List Nat := [0, 0, 0, 6, 14, 31, 0, 127]
theorem spec_Diff.tab9 : rtab .any (opsOf Tryd.f35 9) = spec_Diff.T9 := by kernel_rfl
theorem spec_Diff.bits9 : waitsOk spec_Diff.T9.2 spec_Diff.B9 = true := by kernel_rfl
def spec_Diff.T11 : Bool × List (List Nat × List Nat) := (true, [([], []), ([0], [0]), ([], []), ([], []), ([2, 3], [2, 3]), ([4], [4]), ([], []), ([], []), ([5, 6, 7], [5, 6, 7]), ([8], [8]), ([1, 9], [1, 9]), ([0, 1, 2, 3, 4, 5, 6, 7, 8, 9, 10], []), ([11, 10, 10, 0, 1, 2, 3, 4, 5, 6, 7, 8, 9, 10], [10, 11])])
def spec_Diff.B11 : List Nat := [0, 1, 0, 0, 12, 28, 0, 0, 252, 508, 1023, 2047, 4095]
theorem spec_Diff.tab11 : rtab .any (opsOf Tryd.f35 11) = spec_Diff.T11 := by kernel_rfl
theorem spec_Diff.bits11 : waitsOk spec_Diff.T11.2 spec_Diff.B11 = true := by kernel_rfl
set_option maxHeartbeats 8000000 in
set_option maxRecDepth 100000 in
theorem spec_Diff.calls (k : Nat) (P0_0_ : Nat → Prop) (au : Option Addr) (ar : Nat) (ae : List (S37)) (P1_0_ : Nat → Prop) (av : Option Addr) (aw : Nat) (af : List (S37)) (r : List (S125)) (w : World) (hs0_0 : Kd.V k37 37 w w.heap.size (fun k_ => P0_0_ k_) (.slice au ae.length ar) ae) (hs1_0 : Kd.V k37 37 w w.heap.size (fun k_ => P1_0_ k_) (.slice av af.length aw) af) (h : spec_Diff.f k ae af = some r) :
  Calls Tryd.prog 35 #[.agg #[.slice au ae.length ar], .agg #[.slice av af.length aw]] w fun e w' => ∃ v0_ : Value, e = .returned (.agg #[v0_]) ∧ Kd.R k125 125 w' w.heap.size (fun k_ => (w.heap.size ≤ k_)) v0_ r ∧ Below w.heap.size w w' := by
 have hu28 := Tryd.underlying28; have hu56 := Tryd.underlying56; have hu122 := Tryd.underlying122; have hu125 := Tryd.underlying125; have aA := Aside0.mk (show Kd.V k37 37 w w.heap.size (fun k_ => ((P0_0_ k_ ∨ P1_0_ k_) ∨ w.heap.size ≤ k_)) (.slice au ae.length ar) ae from Kd.V_mono hs0_0 (fun k_ hk => .inl (.inl hk))); have aC := Aside0.mk (show Kd.V k37 37 w w.heap.size (fun k_ => ((P0_0_ k_ ∨ P1_0_ k_) ∨ w.heap.size ≤ k_)) (.slice av af.length aw) af from Kd.V_mono hs1_0 (fun k_ hk => .inl (.inr hk))); have HB := Aside0.mk (Below.refl w.heap.size w); have H : ((spec_ValidTree.f k ae).bind fun bT => (if bT = true then ((spec_ValidTree.f k af).bind fun bo => (spec_Diff.j0 k (!bo) ae af)) else (spec_Diff.j0 k true ae af))) = some r := h; clear h; have ct := Aside0.mk H; clear H
 go_enter Tryd.func35, Tryd.ntmps35
 go_upto_region 2 with (first | ((with_reducible refine gd 2 rfl ?_); refine bx 2 28 (#[.slice au ae.length ar]) ?_; intro ai hg w4 hbox hb; refine Ya6 (Kd.V_below (Kd.V_elderB (by (with_reducible repeat (first | apply Kd.V_alloc | apply Kd.V_drewN | apply Kd.V_drew)); exact aA.out) ai (Nat.le_of_eq hg.symm)) hb) (Kd.V_below (Kd.V_elderB (by (with_reducible repeat (first | apply Kd.V_alloc | apply Kd.V_drewN | apply Kd.V_drew)); exact aC.out) ai (Nat.le_of_eq hg.symm)) hb) (below_step (be HB.out) hb) (hbox) (bs hg (be HB.out)) (bs hg (be HB.out)) ?_; clear aA aC HB; intro aA aC HB a3 GW803 GE803; clear hb hbox hg) | ((with_reducible refine gd 3 rfl ?_); refine bx 3 28 (#[.slice av af.length aw]) ?_; intro aj hg w5 hbox hb; refine Ya9 (Kd.V_below (Kd.V_elderB (by (with_reducible repeat (first | apply Kd.V_alloc | apply Kd.V_drewN | apply Kd.V_drew)); exact aA.out) aj (Nat.le_of_eq hg.symm)) hb) (Kd.V_below (Kd.V_elderB (by (with_reducible repeat (first | apply Kd.V_alloc | apply Kd.V_drewN | apply Kd.V_drew)); exact aC.out) aj (Nat.le_of_eq hg.symm)) hb) (bb a3 hb) (below_step (bf HB.out) hb) (hbox) (bs hg (bf HB.out)) (bs hg (bf HB.out)) (bl hg a3) (br hg a3) ?_; clear aA aC a3 HB; intro aA aC a3 HB a4 GW804 GE804 cu cv; clear hb hbox hg) | ((with_reducible refine gd 4 rfl ?_); refine bx 4 56 (#[.slice none 0 0]) ?_; intro ak hg w6 hbox hb; refine Ya12 (Kd.V_below (Kd.V_elderB (by (with_reducible repeat (first | apply Kd.V_alloc | apply Kd.V_drewN | apply Kd.V_drew)); exact aA.out) ak (Nat.le_of_eq hg.symm)) hb) (Kd.V_below (Kd.V_elderB (by (with_reducible repeat (first | apply Kd.V_alloc | apply Kd.V_drewN | apply Kd.V_drew)); exact aC.out) ak (Nat.le_of_eq hg.symm)) hb) (bb a3 hb) (bb a4 hb) (below_step (bf HB.out) hb) (hbox) (bs hg (bf HB.out)) (bs hg (bf HB.out)) (bl hg a3) (br hg a3) (bl hg a4) (br hg a4) ?_; clear aA aC a3 a4 HB; intro aA aC a3 a4 HB a6 GW805 GE805 bZ c0 cl cm; clear hb hbox hg) | ((with_reducible refine gd 5 rfl ?_); refine bx 5 56 (#[.slice none 0 0]) ?_; intro ag hg w7 hbox hb; refine Ya15 (Kd.V_below (Kd.V_elderB (by (with_reducible repeat (first | apply Kd.V_alloc | apply Kd.V_drewN | apply Kd.V_drew)); exact aA.out) ag (Nat.le_of_eq hg.symm)) hb) (Kd.V_below (Kd.V_elderB (by (with_reducible repeat (first | apply Kd.V_alloc | apply Kd.V_drewN | apply Kd.V_drew)); exact aC.out) ag (Nat.le_of_eq hg.symm)) hb) (bb a3 hb) (bb a4 hb) (bb a6 hb) (below_step (bf HB.out) hb) (hbox) (bs hg (bf HB.out)) (bs hg (bf HB.out)) (bl hg a3) (br hg a3) (bl hg a4) (br hg a4) (bl hg a6) (br hg a6) ?_; clear aA aC a3 a4 a6 HB; intro aA aC a3 a4 a6 HB a7 GW806 GE806 bE bL bF bU bM cn; clear hb hbox hg; have hnb8 := bL.out; have hnc8 := bE.out; have hnb9 := bU.out; have hnc9 := bF.out; have hnb10 := cn.out; have hnc10 := bM.out; have ⟨cG, cH⟩ := Yc1 a7.out))
 (try simp only [Act.put, List.setIfInBounds_toArray, List.set_cons_zero, List.set_cons_succ])
 go_cut [18] (fun v18 wc => ∃ (kq : Nat) (co : Bool), v18 = .bool co ∧ Aside0 (spec_Diff.j0 kq co ae af = some r) ∧ Aside0 (kq ≤ k) ∧ Aside0 (Kd.V k37 37 wc w.heap.size (fun k_ => ((P0_0_ k_ ∨ P1_0_ k_) ∨ w.heap.size ≤ k_) ∧ k_ ≠ ai ∧ k_ ≠ aj ∧ k_ ≠ ak ∧ k_ ≠ ag) (.slice au ae.length ar) ae) ∧ Aside0 (Kd.V k37 37 wc w.heap.size (fun k_ => ((P0_0_ k_ ∨ P1_0_ k_) ∨ w.heap.size ≤ k_) ∧ k_ ≠ ai ∧ k_ ≠ aj ∧ k_ ≠ ak ∧ k_ ≠ ag) (.slice av af.length aw) af) ∧ Aside0 (wc.heap[ai]? = some (.cells #[(.slice au ae.length ar)] 28 (0, 0))) ∧ Aside0 (wc.heap[aj]? = some (.cells #[(.slice av af.length aw)] 28 (0, 0))) ∧ Aside0 (wc.heap[ak]? = some (.cells #[(.slice none 0 0)] 56 (0, 0))) ∧ Aside0 (wc.heap[ag]? = some (.cells #[(.slice none 0 0)] 56 (0, 0))) ∧ Aside0 (Below w.heap.size w wc))
 case first =>
  have H := ct.out; clear ct; replace H := Option.bind_eq_some_iff.mp H; obtain ⟨bT, cI, H⟩ := H; replace H : (if bT = true then ((spec_ValidTree.f k af).bind fun bo => (spec_Diff.j0 k (!bo) ae af)) else (spec_Diff.j0 k true ae af)) = some r := H; have A12 := Aside0.mk cI; clear cI
  by_cases bV : bT = true
  ·subst bV
   have H1 : ((spec_ValidTree.f k af).bind fun bo => (spec_Diff.j0 k (!bo) ae af)) = some r := by rw [if_pos rfl] at H; exact H
   clear H; have H := H1; clear H1; replace H := Option.bind_eq_some_iff.mp H; obtain ⟨bo, cJ, H⟩ := H; replace H : (spec_Diff.j0 k (!bo) ae af) = some r := H; have A14 := Aside0.mk cJ; clear cJ; have H' := Aside0.mk H; clear H; have hnb15 := cu.out; have hnc15 := cv.out; have hnb16 := bZ.out; have hnc16 := c0.out; have hnb17 := bE.out; have hnc17 := bL.out; have ⟨cK, cL⟩ := Yc1 a3.out
   go_wp2_with (first | ((with_reducible refine gc 48 rfl ?_); refine gl (some 12) _ (#[.agg #[.slice au ae.length ar]]) Tryd.func48 ?_; (with_reducible refine (spec_ValidTree.calls k _ _ ae true _ ?side1 ?side2 A12.out).mono ?_); (case side1 => refine (Kd.V_reads' (e := 37) (base := w.heap.size) (ok := fun k_ => ((((((P0_0_ k_ ∨ P1_0_ k_) ∨ w.heap.size ≤ k_) ∧ k_ ≠ ai) ∧ k_ ≠ aj) ∧ k_ ≠ ak) ∧ k_ ≠ ag)) (n := ae.length) (c := ar) ?_).2.2; exact (by (with_reducible repeat (first | apply Kd.V_alloc | apply Kd.V_drewN | apply Kd.V_drew)); exact (Kd.V_mono (Kd.V_far (p := ⟨ag, 0, none⟩) (Kd.V_mono aA.out (fun k_ hk => (⟨hk, hk.2⟩ : _ ∧ k_ ≠ ag))) (fun _ hk => hk.2) (.slice none 0 0)) (fun _ h_ => h_.1)))); (case side2 => exact (Kd.V_reads' aA.out).2.1); rintro e w19 ⟨rfl, hb⟩; refine ⟨_, rfl, ?_⟩; refine Ya7 (Kd.V_below (by (with_reducible repeat (first | apply Kd.V_alloc | apply Kd.V_drewN | apply Kd.V_drew)); exact (Kd.V_mono (Kd.V_far (p := ⟨ag, 0, none⟩) (Kd.V_mono aA.out (fun k_ hk => (⟨hk, hk.2⟩ : _ ∧ k_ ≠ ag))) (fun _ hk => hk.2) (.slice none 0 0)) (fun _ h_ => h_.1))) hb) (Kd.V_below (by (with_reducible repeat (first | apply Kd.V_alloc | apply Kd.V_drewN | apply Kd.V_drew)); exact (Kd.V_mono (Kd.V_far (p := ⟨ag, 0, none⟩) (Kd.V_mono aC.out (fun k_ hk => (⟨hk, hk.2⟩ : _ ∧ k_ ≠ ag))) (fun _ hk => hk.2) (.slice none 0 0)) (fun _ h_ => h_.1))) hb) (bbf a3 bE hb) (bbf a4 bF hb) (bbf a6 bM hb) (blk_below (g := ag) (o := .cells #[.slice none 0 0] 56 (0, 0)) (bp a7.out) hb) (below_step (bf HB.out) hb) ?_; clear aA aC a3 a4 a6 a7 HB; intro aA aC a3 a4 a6 a7 HB; (try clear hb); (try clear hb2); (try clear hk); (try clear hi); have hnb20 := cl.out; have hnc20 := cm.out; have hnb21 := bF.out; have hnc21 := bU.out; have ⟨cM, cN⟩ := Yc1 a4.out) | (go_at_call 48; (with_reducible refine (spec_ValidTree.calls k _ _ af bo _ ?side1 ?side2 A14.out).mono ?_); (case side1 => repeat (first | exact (Kd.V_reads' aC.out).2.2 | (with_reducible refine Kd.C_alloc ?_ _) | (with_reducible refine Kd.C_drewN ?_ _) | (with_reducible refine Kd.C_drew ?_))); (case side2 => exact (Kd.V_reads' aC.out).2.1); rintro e w23 ⟨rfl, hb⟩; refine Ya7 (Kd.V_below (by (with_reducible repeat (first | apply Kd.V_alloc | apply Kd.V_drewN | apply Kd.V_drew)); exact aA.out) hb) (Kd.V_below (by (with_reducible repeat (first | apply Kd.V_alloc | apply Kd.V_drewN | apply Kd.V_drew)); exact aC.out) hb) (bb a3 hb) (bb a4 hb) (bb a6 hb) (bb a7 hb) (below_step (bf HB.out) hb) ?_; clear aA aC a3 a4 a6 a7 HB; intro aA aC a3 a4 a6 a7 HB; (try clear hb); (try clear hb2); (try clear hk); (try clear hi)))
   go_meet
   case rel => exact ⟨_, (!bo), Ye1, H', ⟨by first | omega | exact Nat.le_refl _⟩, ⟨by (with_reducible repeat (first | apply Kd.V_alloc | apply Kd.V_drewN | apply Kd.V_drew)); exact Kd.V_mono aA.out (fun _ hk => ⟨hk.1.1.1.1, ⟨hk.1.1.1.2, ⟨hk.1.1.2, ⟨hk.1.2, hk.2⟩⟩⟩⟩)⟩, ⟨by (with_reducible repeat (first | apply Kd.V_alloc | apply Kd.V_drewN | apply Kd.V_drew)); exact Kd.V_mono aC.out (fun _ hk => ⟨hk.1.1.1.1, ⟨hk.1.1.1.2, ⟨hk.1.1.2, ⟨hk.1.2, hk.2⟩⟩⟩⟩)⟩, ⟨bk a3.out⟩, ⟨bk a4.out⟩, ⟨bk a6.out⟩, ⟨bk a7.out⟩, ⟨bf HB.out⟩⟩
  ·replace bV := Bool.eq_false_iff.mpr bV; subst bV
   have H1 : (spec_Diff.j0 k true ae af) = some r := by rw [if_neg (show ¬ (false = true) by decide)] at H; exact H
   clear H; have H := H1; clear H1; have H' := Aside0.mk H; clear H; have hnb24 := cu.out; have hnc24 := cv.out; have hnb25 := bZ.out; have hnc25 := c0.out; have hnb26 := bE.out; have hnc26 := bL.out; have ⟨cO, cP⟩ := Yc1 a3.out
   go_wp2_with (first | ((with_reducible refine gc 48 rfl ?_); refine gl (some 12) _ (#[.agg #[.slice au ae.length ar]]) Tryd.func48 ?_; (with_reducible refine (spec_ValidTree.calls k _ _ ae false _ ?side1 ?side2 A12.out).mono ?_); (case side1 => refine (Kd.V_reads' (e := 37) (base := w.heap.size) (ok := fun k_ => ((((((P0_0_ k_ ∨ P1_0_ k_) ∨ w.heap.size ≤ k_) ∧ k_ ≠ ai) ∧ k_ ≠ aj) ∧ k_ ≠ ak) ∧ k_ ≠ ag)) (n := ae.length) (c := ar) ?_).2.2; exact (by (with_reducible repeat (first | apply Kd.V_alloc | apply Kd.V_drewN | apply Kd.V_drew)); exact (Kd.V_mono (Kd.V_far (p := ⟨ag, 0, none⟩) (Kd.V_mono aA.out (fun k_ hk => (⟨hk, hk.2⟩ : _ ∧ k_ ≠ ag))) (fun _ hk => hk.2) (.slice none 0 0)) (fun _ h_ => h_.1)))); (case side2 => exact (Kd.V_reads' aA.out).2.1); rintro e w28 ⟨rfl, hb⟩; refine ⟨_, rfl, ?_⟩; refine Ya7 (Kd.V_below (by (with_reducible repeat (first | apply Kd.V_alloc | apply Kd.V_drewN | apply Kd.V_drew)); exact (Kd.V_mono (Kd.V_far (p := ⟨ag, 0, none⟩) (Kd.V_mono aA.out (fun k_ hk => (⟨hk, hk.2⟩ : _ ∧ k_ ≠ ag))) (fun _ hk => hk.2) (.slice none 0 0)) (fun _ h_ => h_.1))) hb) (Kd.V_below (by (with_reducible repeat (first | apply Kd.V_alloc | apply Kd.V_drewN | apply Kd.V_drew)); exact (Kd.V_mono (Kd.V_far (p := ⟨ag, 0, none⟩) (Kd.V_mono aC.out (fun k_ hk => (⟨hk, hk.2⟩ : _ ∧ k_ ≠ ag))) (fun _ hk => hk.2) (.slice none 0 0)) (fun _ h_ => h_.1))) hb) (bbf a3 bE hb) (bbf a4 bF hb) (bbf a6 bM hb) (blk_below (g := ag) (o := .cells #[.slice none 0 0] 56 (0, 0)) (bp a7.out) hb) (below_step (bf HB.out) hb) ?_; clear aA aC a3 a4 a6 a7 HB; intro aA aC a3 a4 a6 a7 HB; (try clear hb); (try clear hb2); (try clear hk); (try clear hi)))
   go_meet
   case rel => exact ⟨_, (true), Ye1, H', ⟨by first | omega | exact Nat.le_refl _⟩, ⟨by (with_reducible repeat (first | apply Kd.V_alloc | apply Kd.V_drewN | apply Kd.V_drew)); exact Kd.V_mono aA.out (fun _ hk => ⟨hk.1.1.1.1, ⟨hk.1.1.1.2, ⟨hk.1.1.2, ⟨hk.1.2, hk.2⟩⟩⟩⟩)⟩, ⟨by (with_reducible repeat (first | apply Kd.V_alloc | apply Kd.V_drewN | apply Kd.V_drew)); exact Kd.V_mono aC.out (fun _ hk => ⟨hk.1.1.1.1, ⟨hk.1.1.1.2, ⟨hk.1.1.2, ⟨hk.1.2, hk.2⟩⟩⟩⟩)⟩, ⟨bk a3.out⟩, ⟨bk a4.out⟩, ⟨bk a6.out⟩, ⟨bk a7.out⟩, ⟨bf HB.out⟩⟩
 case rest =>
  clear ct; (try clear c1); (try clear c2); (try clear p2); (try clear c3); (try clear c4); (try clear c8); (try clear c9); (try clear c10); (try clear bV); (try clear c15); (try clear c16); (try clear c17); (try clear c20); (try clear c21); (try clear c24); (try clear c25); (try clear c26); (try clear cG); (try clear cK); (try clear cM); (try clear cO); (try clear cH); (try clear cL); (try clear cN); (try clear cP); obtain ⟨kq, co, rfl, HA, HJ2, aa, ab, a3, a4, a6, a7, HB⟩ := hcut
  cases kq with
  | zero => exact absurd HA.out (by simp [spec_Diff.j0])
  | succ bK =>
   have H := HA.out; clear HA; simp only [spec_Diff.j0] at H
   by_cases ca : co = true
   ·subst ca
    have H1 : (some ([] : List (S125))) = some r := by rw [if_pos rfl] at H; exact H
    clear H; have H := H1; clear H1; obtain rfl := Option.some.inj H; have hnb30 := bL.out; have hnc30 := bE.out; have hnb31 := bU.out; have hnc31 := bF.out; have hnb32 := cn.out; have hnc32 := bM.out; have ⟨cX, cY⟩ := Yc1 a7.out; have hnb34 := c0.out; have hnc34 := bZ.out; have hnb35 := cm.out; have hnc35 := cl.out; have ⟨cZ, d0⟩ := Yc1 a6.out
    go_wp2
    refine bodyPost_ret (results_cell_row rfl _ _ ak 56 #[.slice none 0 0] (0, 0) _ rfl (bp a6.out) Tryd.underlying56 rfl (by kernel_rfl)) rfl ?_; exact ⟨_, Ye2, nl, (bf HB.out)⟩
   ·replace ca := Bool.eq_false_iff.mpr ca; subst ca
    have H1 : ((spec_l6Paths.f bK (([(⟨ae⟩ : S28), (⟨af⟩ : S28)] : List (S28)))).bind fun ac => (spec_Diff.l0 bK ac 0 ae af ([] : List (S125)))) = some r := by rw [if_neg (show ¬ (false = true) by decide)] at H; exact H
    clear H; have H := H1; clear H1
    obtain ⟨cx, cc⟩ : ∃ y_ : List (S28), y_ = (([(⟨ae⟩ : S28), (⟨af⟩ : S28)] : List (S28))) := ⟨_, rfl⟩
    replace H : ((spec_l6Paths.f bK cx).bind fun ac => (spec_Diff.l0 bK ac 0 ae af ([] : List (S125)))) = some r := by first | (rw [cc]; with_reducible exact H) | (have H2_ := (Option.bind_some _ _).symm.trans H; rw [cc]; with_reducible exact H2_) | (have H2_ := (Option.bind_some _ _).symm.trans H; with_reducible exact H2_) | with_reducible exact H | (rw [cc]; exact H) | exact H
    have cQ := Aside0.mk cc; clear cc; replace H := Option.bind_eq_some_iff.mp H; obtain ⟨ac, cR, H⟩ := H; replace H : (spec_Diff.l0 bK ac 0 ae af ([] : List (S125))) = some r := H; have A37 := Aside0.mk cR; clear cR; have H' := Aside0.mk H; clear H; have hnb38 := cu.out; have hnc38 := cv.out; have hnb39 := bZ.out; have hnc39 := c0.out; have hnb40 := bE.out; have hnc40 := bL.out; have ⟨d1, d2⟩ := Yc1 a3.out; have hnb42 := cl.out; have hnc42 := cm.out; have hnb43 := bF.out; have hnc43 := bU.out; have ⟨d3, d4⟩ := Yc1 a4.out
    go_wp2_with (first | ((with_reducible refine gd 22 rfl ?_); refine Kd.N_lit k28 _ 28 ?hg (N' := 22) ?hd (xs := ([(⟨ae⟩ : S28), (⟨af⟩ : S28)] : List (S28))) (inner := [.slice au ae.length ar, .slice av af.length aw]) (ok := (fun k_ => ((P0_0_ k_ ∨ P1_0_ k_) ∨ w.heap.size ≤ k_) ∧ k_ ≠ ai ∧ k_ ≠ aj ∧ k_ ≠ ak ∧ k_ ≠ ag)) (okp := (fun k_ => ((P0_0_ k_ ∨ P1_0_ k_) ∨ w.heap.size ≤ k_) ∧ k_ ≠ ai ∧ k_ ≠ aj ∧ k_ ≠ ak ∧ k_ ≠ ag)) ?hr ?hp (fun _ hk => hk) ((show ∀ k_, wc.heap.size ≤ k_ → (fun k_ => ((P0_0_ k_ ∨ P1_0_ k_) ∨ w.heap.size ≤ k_) ∧ k_ ≠ ai ∧ k_ ≠ aj ∧ k_ ≠ ak ∧ k_ ≠ ag) k_ from fun k_ hk => ⟨(.inr (Nat.le_trans (below_size (bf HB.out)) hk)), Kd.freshB (g := ai) (o := .cells #[.slice au ae.length ar] 28 (0, 0)) (bk a3.out) k_ hk, Kd.freshB (g := aj) (o := .cells #[.slice av af.length aw] 28 (0, 0)) (bk a4.out) k_ hk, Kd.freshB (g := ak) (o := .cells #[.slice none 0 0] 56 (0, 0)) (bk a6.out) k_ hk, Kd.freshB (g := ag) (o := .cells #[.slice none 0 0] 56 (0, 0)) (bk a7.out) k_ hk⟩) _ (Nat.le_refl _)) (Below.refl _ _) (Nat.le_refl _) (by simp) ?_; (case hd => rfl); (case hg => rfl); (case hr => first | (go_simp; done) | (go_simp; rfl)); (case hp => exact (Reps.one (show Kd.FK k28 _ _ (⟨ae⟩ : S28) [.slice au ae.length ar] from (k28_mkF _ _ (⟨ae⟩ : S28) (Kd.V_reads' (Kd.V_mono (ok' := (fun k_ => ((P0_0_ k_ ∨ P1_0_ k_) ∨ w.heap.size ≤ k_) ∧ k_ ≠ ai ∧ k_ ≠ aj ∧ k_ ≠ ak ∧ k_ ≠ ag)) (aa.out) (fun k_ hk => ⟨hk.1, ⟨hk.2.1, ⟨hk.2.2.1, ⟨hk.2.2.2.1, hk.2.2.2.2⟩⟩⟩⟩))).2.1 (Kd.V_F (Kd.V_mono (ok' := (fun k_ => ((P0_0_ k_ ∨ P1_0_ k_) ∨ w.heap.size ≤ k_) ∧ k_ ≠ ai ∧ k_ ≠ aj ∧ k_ ≠ ak ∧ k_ ≠ ag)) (aa.out) (fun k_ hk => ⟨hk.1, ⟨hk.2.1, ⟨hk.2.2.1, ⟨hk.2.2.2.1, hk.2.2.2.2⟩⟩⟩⟩))))) (Reps.one (show Kd.FK k28 _ _ (⟨af⟩ : S28) [.slice av af.length aw] from (k28_mkF _ _ (⟨af⟩ : S28) (Kd.V_reads' (Kd.V_mono (ok' := (fun k_ => ((P0_0_ k_ ∨ P1_0_ k_) ∨ w.heap.size ≤ k_) ∧ k_ ≠ ai ∧ k_ ≠ aj ∧ k_ ≠ ak ∧ k_ ≠ ag)) (ab.out) (fun k_ hk => ⟨hk.1, ⟨hk.2.1, ⟨hk.2.2.1, ⟨hk.2.2.2.1, hk.2.2.2.2⟩⟩⟩⟩))).2.1 (Kd.V_F (Kd.V_mono (ok' := (fun k_ => ((P0_0_ k_ ∨ P1_0_ k_) ∨ w.heap.size ≤ k_) ∧ k_ ≠ ai ∧ k_ ≠ aj ∧ k_ ≠ ak ∧ k_ ≠ ag)) (ab.out) (fun k_ hk => ⟨hk.1, ⟨hk.2.1, ⟨hk.2.2.1, ⟨hk.2.2.2.1, hk.2.2.2.2⟩⟩⟩⟩))))) (Reps.none _ _)))); intro v810 w45 ho46 hb hg_ hnew_; clear hg_ hnew_; (first | rw [← cQ.out] at ho46 | (simp only [Int.reduceToNat] at ho46; rw [← cQ.out] at ho46)); refine Ya8 (Kd.V_elder' (by (with_reducible repeat (first | apply Kd.V_alloc | apply Kd.V_drewN | apply Kd.V_drew)); exact aa.out) (Kd.N_base ho46) hb) (Kd.V_elder' (by (with_reducible repeat (first | apply Kd.V_alloc | apply Kd.V_drewN | apply Kd.V_drew)); exact ab.out) (Kd.N_base ho46) hb) (Kd.N_lower ho46 (below_size (bf HB.out))) (bb a3 hb) (bb a4 hb) (bb a6 hb) (bb a7 hb) (below_step (bf HB.out) hb) ?_; clear aa ab a3 a4 a6 a7 HB; intro aa ab bW a3 a4 a6 a7 HB; clear hb ho46; obtain ⟨d5, d6, d7⟩ := Kd.N_slice bW.out; subst d7) | ((with_reducible refine gc 96 rfl ?_); refine gl (some 23) _ (#[.slice d5 cx.length d6]) Tryd.func96 ?_; (with_reducible refine (spec_l6Paths.calls bK _ _ cx ac _ ?side1 ?side2 A37.out).mono ?_); (case side1 => repeat (first | exact (Kd.N_reads' bW.out).2.2 | (with_reducible refine Kd.C_alloc ?_ _) | (with_reducible refine Kd.C_drewN ?_ _) | (with_reducible refine Kd.C_drew ?_))); (case side2 => exact (Kd.N_reads' bW.out).2.1); rintro e w48 ⟨cy, rfl, ho0, hb⟩; refine ⟨_, rfl, ?_⟩; refine Ya9 (Kd.V_elder' (by (with_reducible repeat (first | apply Kd.V_alloc | apply Kd.V_drewN | apply Kd.V_drew)); exact aa.out) (Kd.R_base ho0) hb) (Kd.V_elder' (by (with_reducible repeat (first | apply Kd.V_alloc | apply Kd.V_drewN | apply Kd.V_drew)); exact ab.out) (Kd.R_base ho0) hb) (Kd.N_elder' (by (with_reducible repeat (first | apply Kd.N_alloc | apply Kd.N_drewN | apply Kd.N_drew)); exact bW.out) (Kd.R_base ho0) hb) (Kd.R_lower (Kd.R_newM (M := fun k_ => (w.heap.size ≤ k_)) ho0 (below_size (bf HB.out)) (fun k_ h_ => h_)) (below_size (bf HB.out))) (bb a3 hb) (bb a4 hb) (bb a6 hb) (bb a7 hb) (below_step (bf HB.out) hb) ?_; clear aa ab bW a3 a4 a6 a7 HB; intro aa ab bW d8 a3 a4 a6 a7 HB; (try clear hb); (try clear hb2); (try clear hk); (try clear hi); (try clear ho0)))
    go_loopg [7] bK (fun kq v7 w' => ∃ (ah : Int) (aD : List (S125)) (am : Value), v7 = .int .i64 ah ∧ Aside0 (spec_Diff.l0 kq ac ah ae af aD = some r) ∧ Aside0 (kq ≤ bK) ∧ Aside0 (Kd.R Kd.string 9 w' w.heap.size (fun k_ => (w.heap.size ≤ k_)) cy ac) ∧ Aside0 (Kd.V k37 37 w' w.heap.size (fun k_ => ((P0_0_ k_ ∨ P1_0_ k_) ∨ w.heap.size ≤ k_) ∧ some k_ ≠ (cy : Value).ownBlock ∧ some k_ ≠ (am : Value).ownBlock ∧ k_ ≠ ai ∧ k_ ≠ aj ∧ k_ ≠ ak ∧ k_ ≠ ag) (.slice au ae.length ar) ae) ∧ Aside0 (Kd.V k37 37 w' w.heap.size (fun k_ => ((P0_0_ k_ ∨ P1_0_ k_) ∨ w.heap.size ≤ k_) ∧ some k_ ≠ (cy : Value).ownBlock ∧ some k_ ≠ (am : Value).ownBlock ∧ k_ ≠ ai ∧ k_ ≠ aj ∧ k_ ≠ ak ∧ k_ ≠ ag) (.slice av af.length aw) af) ∧ Aside0 (Kd.R k125 125 w' w.heap.size (fun k_ => (w.heap.size ≤ k_)) am aD) ∧ Aside0 (w'.heap[ai]? = some (.cells #[(.slice au ae.length ar)] 28 (0, 0))) ∧ Aside0 (w'.heap[aj]? = some (.cells #[(.slice av af.length aw)] 28 (0, 0))) ∧ Aside0 (w'.heap[ak]? = some (.cells #[(.slice none 0 0)] 56 (0, 0))) ∧ Aside0 (w'.heap[ag]? = some (.cells #[am] 56 (0, 0))) ∧ Aside0 (Below w.heap.size w w'))
    case atStart => exact ⟨(0), (([] : List (S125))), (.slice none 0 0), Ye1, H', ⟨Nat.le_refl _⟩, ⟨by (with_reducible repeat (first | apply Kd.R_alloc | apply Kd.R_drewN | apply Kd.R_drew)); exact Kd.R_mono d8.out (fun _ hk => hk.1)⟩, ⟨by (with_reducible repeat (first | apply Kd.V_alloc | apply Kd.V_drewN | apply Kd.V_drew)); exact Kd.V_mono aa.out (fun _ hk => ⟨hk.1.1.1, ⟨hk.2, ⟨(by simp [Value.ownBlock]), ⟨hk.1.1.2.1, ⟨hk.1.1.2.2.1, ⟨hk.1.1.2.2.2.1, hk.1.1.2.2.2.2⟩⟩⟩⟩⟩⟩)⟩, ⟨by (with_reducible repeat (first | apply Kd.V_alloc | apply Kd.V_drewN | apply Kd.V_drew)); exact Kd.V_mono ab.out (fun _ hk => ⟨hk.1.1.1, ⟨hk.2, ⟨(by simp [Value.ownBlock]), ⟨hk.1.1.2.1, ⟨hk.1.1.2.2.1, ⟨hk.1.1.2.2.2.1, hk.1.1.2.2.2.2⟩⟩⟩⟩⟩⟩)⟩, ⟨nl⟩, ⟨bk a3.out⟩, ⟨bk a4.out⟩, ⟨bk a6.out⟩, ⟨bk a7.out⟩, ⟨bf HB.out⟩⟩
    case round =>
     clear H'; (try clear c1); (try clear c2); (try clear p2); (try clear c3); (try clear c4); (try clear c8); (try clear c9); (try clear c10); (try clear bV); (try clear c15); (try clear c16); (try clear c17); (try clear c20); (try clear c21); (try clear c24); (try clear c25); (try clear c26); (try clear ca); (try clear c30); (try clear c31); (try clear c32); (try clear c34); (try clear c35); (try clear c38); (try clear c39); (try clear c40); (try clear c42); (try clear c43); (try clear c48); (try clear cG); (try clear cK); (try clear cM); (try clear cO); (try clear cX); (try clear cZ); (try clear d1); (try clear d3); (try clear cH); (try clear cL); (try clear cN); (try clear cP); (try clear cY); (try clear d0); (try clear d2); (try clear d4); (try clear p2); obtain ⟨ah, aD, am, rfl, HA, HK2, a5, aa, ab, ad, a3, a4, a6, a7, HB⟩ := hrel
     cases gk with
     | zero => exact absurd HA.out (by simp [spec_Diff.l0])
     | succ k2 =>
      have H := HA.out; clear HA; simp only [spec_Diff.l0] at H
      by_cases bX : ah < (ac.length : Int)
      ·rw [if_pos bX] at H
       have d9 : decide (ah < (ac.length : Int)) = true := decide_eq_true bX; clear bX
       by_cases cp : 0 ≤ ah
       ·rw [if_pos cp] at H
        have c50b0 : decide (0 ≤ ah) = true := decide_eq_true cp; clear cp; replace H := Option.bind_eq_some_iff.mp H; obtain ⟨⟨an, ao, ap⟩, cS, H⟩ := H; replace H : ((spec_l6At.f k2 af (rdOf ByteArray.empty ac ah)).bind fun bt821 => (if (!(an == bt821.1) || (!(ao.toList == bt821.2.1.toList) || (!(ap == bt821.2.2)))) = true then (if aD.length < 1759218604441 then (spec_Diff.l0 k2 ac (wrap64 (ah + 1)) ae af (aD ++ [(⟨rdOf ByteArray.empty ac ah, (⟨an, ao, ap⟩ : S122), (⟨bt821.1, bt821.2.1, bt821.2.2⟩ : S122)⟩ : S125)])) else (none)) else (spec_Diff.l0 k2 ac (wrap64 (ah + 1)) ae af aD))) = some r := H; have cq := Aside0.mk cS; clear cS; replace H := Option.bind_eq_some_iff.mp H; obtain ⟨⟨ax, ay, az⟩, cT, H⟩ := H; replace H : (if (!(an == ax) || (!(ao.toList == ay.toList) || (!(ap == az)))) = true then (if aD.length < 1759218604441 then (spec_Diff.l0 k2 ac (wrap64 (ah + 1)) ae af (aD ++ [(⟨rdOf ByteArray.empty ac ah, (⟨an, ao, ap⟩ : S122), (⟨ax, ay, az⟩ : S122)⟩ : S125)])) else (none)) else (spec_Diff.l0 k2 ac (wrap64 (ah + 1)) ae af aD)) = some r := H; have cr := Aside0.mk cT; clear cT
        by_cases bY : (!(an == ax) || (!(ao.toList == ay.toList) || (!(ap == az)))) = true
        ·rw [if_pos bY] at H
         have da : (!(an == ax) || (!(ao.toList == ay.toList) || (!(ap == az)))) = true := bY; clear bY
         by_cases cs : aD.length < 1759218604441
         ·rw [if_pos cs] at H
          have db := Aside0.mk cs; clear cs
          obtain ⟨cd, ce⟩ : ∃ y_ : List (S125), y_ = (aD ++ [(⟨rdOf ByteArray.empty ac ah, (⟨an, ao, ap⟩ : S122), (⟨ax, ay, az⟩ : S122)⟩ : S125)]) := ⟨_, rfl⟩
          replace H : (spec_Diff.l0 k2 ac (wrap64 (ah + 1)) ae af cd) = some r := by first | (rw [ce]; with_reducible exact H) | (have H2_ := (Option.bind_some _ _).symm.trans H; rw [ce]; with_reducible exact H2_) | (have H2_ := (Option.bind_some _ _).symm.trans H; with_reducible exact H2_) | with_reducible exact H | (rw [ce]; exact H) | exact H
          have dc := Aside0.mk ce; clear ce; have H' := Aside0.mk H; clear H; obtain ⟨Ao55, aY, dd⟩ := Kd.R_slice a5.out; subst dd
          try go_wp2
          refine Ya9 (Kd.R_drew a5.out) (Kd.V_drew aa.out) (Kd.V_drew ab.out) (Kd.R_drew ad.out) (blk_drew a3.out) (blk_drew a4.out) (blk_drew a6.out) (blk_drew a7.out) (below_drew1 HB.out) ?_; clear a5 aa ab ad a3 a4 a6 a7 HB; intro a5 aa ab ad a3 a4 a6 a7 HB; have bN : 0 ≤ (ah : Int) := oda; have bO : ah < (ac.length : Int) := oda; obtain ⟨aq, cz, cf⟩ := Kd.at_string (Kd.R_reads' a5.out).2.2 ah bN bO
          cases cz
          replace bN := eq_true bN; replace bO := eq_true bO; refine start_ (n := 8) (S := fun w' => w'.cell? ⟨ai, 0, none⟩ = some (.slice au ae.length ar) ∧ w'.cell? (aq.add (ah).toNat) = some (.string (rdOf ByteArray.empty ac ah))) (ds := []) (fb 8 0) (by kernel_rfl) rfl rfl ⟨bc a3 0, cf⟩ (fun hHeld => ?_); refine with_tabW spec_Diff.tab8 spec_Diff.bits8 (fun HT_ HW_ => ?_); generalize wr.drew = w56 at a5 aa ab ad a3 a4 a6 a7 HB cf hHeld ⊢; refine pu 1 31 (fb 8 2) HT_ ?_; refine pu 2 32 (fb 8 6) HT_ ?_; refine pu 3 33 (fb 8 14) HT_ ?_; refine tk 0 30 (fb 8 15) HT_ HW_ hHeld ?_; refine tk 4 34 (fb 8 31) HT_ HW_ hHeld ?_; refine join_ (σ := Nat) 1 (fb 8 127) (fun s_ => [(35, .agg #[.bool an, .string ao, .bool ap]), (8, .pointer (some ⟨s_, 0, none⟩))]) (fun s_ w' => (w'.cell? ⟨ai, 0, none⟩ = some (.slice au ae.length ar) ∧ w'.cell? (aq.add (ah).toNat) = some (.string (rdOf ByteArray.empty ac ah))) ∧ (Kd.R Kd.string 9 w' w.heap.size (fun k_ => (w.heap.size ≤ k_)) (.slice (some aq) ac.length aY) ac) ∧ (Kd.V k37 37 w' w.heap.size (fun k_ => ((P0_0_ k_ ∨ P1_0_ k_) ∨ w.heap.size ≤ k_) ∧ some k_ ≠ (.slice (some aq) ac.length aY : Value).ownBlock ∧ some k_ ≠ (am : Value).ownBlock ∧ k_ ≠ ai ∧ k_ ≠ aj ∧ k_ ≠ ak ∧ k_ ≠ ag ∧ k_ ≠ s_) (.slice au ae.length ar) ae) ∧ (Kd.V k37 37 w' w.heap.size (fun k_ => ((P0_0_ k_ ∨ P1_0_ k_) ∨ w.heap.size ≤ k_) ∧ some k_ ≠ (.slice (some aq) ac.length aY : Value).ownBlock ∧ some k_ ≠ (am : Value).ownBlock ∧ k_ ≠ ai ∧ k_ ≠ aj ∧ k_ ≠ ak ∧ k_ ≠ ag ∧ k_ ≠ s_) (.slice av af.length aw) af) ∧ (Kd.R k125 125 w' w.heap.size (fun k_ => (w.heap.size ≤ k_)) am aD) ∧ (w'.heap[ai]? = some (.cells #[.slice au ae.length ar] 28 (0, 0))) ∧ (w'.heap[aj]? = some (.cells #[.slice av af.length aw] 28 (0, 0))) ∧ (w'.heap[ak]? = some (.cells #[.slice none 0 0] 56 (0, 0))) ∧ (w'.heap[ag]? = some (.cells #[am] 56 (0, 0))) ∧ (w'.heap[s_]? = some (.cells #[.bool false, .string (⟨#[]⟩ : ByteArray), .bool false] 122 (0, 0))) ∧ (w.heap.size ≤ s_) ∧ (w.heap.size ≤ s_) ∧ (ai ≠ s_) ∧ (s_ ≠ ai) ∧ (aj ≠ s_) ∧ (s_ ≠ aj) ∧ (ak ≠ s_) ∧ (s_ ≠ ak) ∧ (ag ≠ s_) ∧ (s_ ≠ ag) ∧ (Below w.heap.size w w')) ?_ ?_; rotate_left
          ·intro hCont; refine two_ (i := 5) (j := 6) (Ni := some 35) (Nj := some 8) (fb 8 63) (fb 8 95) rfl rfl rfl rfl (two_of HT_.out (by kernel_rfl)) (by decide) (by decide) (fun K hK => ?_) (fun K hK => ?_)
           ·skip
            refine gs _ (#[.agg #[.slice au ae.length ar], .string (rdOf ByteArray.empty ac ah)]) Tryd.func97 ?_; (with_reducible refine (spec_l6At.calls k2 _ _ ae (rdOf ByteArray.empty ac ah) an ao ap _ ?side1 ?side2 cq.out).mono ?_); (case side1 => repeat (first | exact (Kd.V_reads' aa.out).2.2 | (with_reducible refine Kd.C_alloc ?_ _) | (with_reducible refine Kd.C_drewN ?_ _) | (with_reducible refine Kd.C_drew ?_))); (case side2 => exact (Kd.V_reads' aa.out).2.1); rintro e w57 ⟨rfl, hb⟩; have HS1_ := (hb.cell (World.block_lt_of_cell? _ _ (hHeld.2))).trans (hHeld.2); refine ⟨_, rfl, ?_⟩; refine Ya9 (Kd.R_below (kr a5.out) hb) (Kd.V_below (by (with_reducible repeat (first | apply Kd.V_alloc | apply Kd.V_drewN | apply Kd.V_drew)); exact aa.out) hb) (Kd.V_below (by (with_reducible repeat (first | apply Kd.V_alloc | apply Kd.V_drewN | apply Kd.V_drew)); exact ab.out) hb) (Kd.R_below (kr ad.out) hb) (bb a3 hb) (bb a4 hb) (bb a6 hb) (bb a7 hb) (below_step (bf HB.out) hb) ?_; clear a5 aa ab ad a3 a4 a6 a7 HB; intro a5 aa ab ad a3 a4 a6 a7 HB; (try clear hb); (try clear hb2); (try clear hk); (try clear hi); refine hK.out _ _ ⟨bc a3 0, HS1_⟩ (fun hHeld => ?_); clear hK K; refine nm 35 ?_; refine o1 6 (some 8) (fb 8 127) HT_ (fun K hK => ?_); refine bst 8 122 (#[.bool false, .string (⟨#[]⟩ : ByteArray), .bool false]) ?_; intro a2 hg w58 hbox hb; have HS1_ := (hb.cell (World.block_lt_of_cell? _ _ (hHeld.2))).trans (hHeld.2); refine Ya20 (Kd.R_below (kr a5.out) hb) (Kd.V_below (Kd.V_elderB (by (with_reducible repeat (first | apply Kd.V_alloc | apply Kd.V_drewN | apply Kd.V_drew)); exact aa.out) a2 (Nat.le_of_eq hg.symm)) hb) (Kd.V_below (Kd.V_elderB (by (with_reducible repeat (first | apply Kd.V_alloc | apply Kd.V_drewN | apply Kd.V_drew)); exact ab.out) a2 (Nat.le_of_eq hg.symm)) hb) (Kd.R_below (kr ad.out) hb) (bb a3 hb) (bb a4 hb) (bb a6 hb) (bb a7 hb) (below_step (bf HB.out) hb) (hbox) (bs hg (bf HB.out)) (bs hg (bf HB.out)) (bl hg a3) (br hg a3) (bl hg a4) (br hg a4) (bl hg a6) (br hg a6) (bl hg a7) (br hg a7) ?_; clear a5 aa ab ad a3 a4 a6 a7 HB; intro a5 aa ab ad a3 a4 a6 a7 HB a9 bG bH aW ba b1 bd b2 bg aZ b7; clear hb hbox hg; refine hK.out _ _ ⟨bc a3 0, HS1_⟩ (fun hHeld => ?_); clear hK K; refine nm 8 ?_; exact nc (hCont (a2) _ ⟨hHeld, (kr a5.out), (by (with_reducible repeat (first | apply Kd.V_alloc | apply Kd.V_drewN | apply Kd.V_drew)); exact Kd.V_mono aa.out (fun _ hk => ⟨hk.1.1, ⟨hk.1.2.1, ⟨hk.1.2.2.1, ⟨hk.1.2.2.2.1, ⟨hk.1.2.2.2.2.1, ⟨hk.1.2.2.2.2.2.1, ⟨hk.1.2.2.2.2.2.2, hk.2⟩⟩⟩⟩⟩⟩⟩)), (by (with_reducible repeat (first | apply Kd.V_alloc | apply Kd.V_drewN | apply Kd.V_drew)); exact Kd.V_mono ab.out (fun _ hk => ⟨hk.1.1, ⟨hk.1.2.1, ⟨hk.1.2.2.1, ⟨hk.1.2.2.2.1, ⟨hk.1.2.2.2.2.1, ⟨hk.1.2.2.2.2.2.1, ⟨hk.1.2.2.2.2.2.2, hk.2⟩⟩⟩⟩⟩⟩⟩)), (kr ad.out), (bk a3.out), (bk a4.out), (bk a6.out), (bk a7.out), (bk a9.out), bG.out, bH.out, aW.out, ba.out, b1.out, bd.out, b2.out, bg.out, aZ.out, b7.out, (bf HB.out)⟩)
           ·skip
            refine bst 8 122 (#[.bool false, .string (⟨#[]⟩ : ByteArray), .bool false]) ?_; intro a2 hg w57 hbox hb; have HS1_ := (hb.cell (World.block_lt_of_cell? _ _ (hHeld.2))).trans (hHeld.2); refine Ya20 (Kd.R_below (kr a5.out) hb) (Kd.V_below (Kd.V_elderB (by (with_reducible repeat (first | apply Kd.V_alloc | apply Kd.V_drewN | apply Kd.V_drew)); exact aa.out) a2 (Nat.le_of_eq hg.symm)) hb) (Kd.V_below (Kd.V_elderB (by (with_reducible repeat (first | apply Kd.V_alloc | apply Kd.V_drewN | apply Kd.V_drew)); exact ab.out) a2 (Nat.le_of_eq hg.symm)) hb) (Kd.R_below (kr ad.out) hb) (bb a3 hb) (bb a4 hb) (bb a6 hb) (bb a7 hb) (below_step (bf HB.out) hb) (hbox) (bs hg (bf HB.out)) (bs hg (bf HB.out)) (bl hg a3) (br hg a3) (bl hg a4) (br hg a4) (bl hg a6) (br hg a6) (bl hg a7) (br hg a7) ?_; clear a5 aa ab ad a3 a4 a6 a7 HB; intro a5 aa ab ad a3 a4 a6 a7 HB a9 bG bH aW ba b1 bd b2 bg aZ b7; clear hb hbox hg; refine hK.out _ _ ⟨bc a3 0, HS1_⟩ (fun hHeld => ?_); clear hK K; refine nm 8 ?_; refine o1 5 (some 35) (fb 8 127) HT_ (fun K hK => ?_); refine gs _ (#[.agg #[.slice au ae.length ar], .string (rdOf ByteArray.empty ac ah)]) Tryd.func97 ?_; (with_reducible refine (spec_l6At.calls k2 _ _ ae (rdOf ByteArray.empty ac ah) an ao ap _ ?side1 ?side2 cq.out).mono ?_); (case side1 => repeat (first | exact (Kd.V_reads' aa.out).2.2 | (with_reducible refine Kd.C_alloc ?_ _) | (with_reducible refine Kd.C_drewN ?_ _) | (with_reducible refine Kd.C_drew ?_))); (case side2 => exact (Kd.V_reads' aa.out).2.1); rintro e w58 ⟨rfl, hb⟩; have HS1_ := (hb.cell (World.block_lt_of_cell? _ _ (hHeld.2))).trans (hHeld.2); refine ⟨_, rfl, ?_⟩; refine Ya10 (Kd.R_below (kr a5.out) hb) (Kd.V_below (by (with_reducible repeat (first | apply Kd.V_alloc | apply Kd.V_drewN | apply Kd.V_drew)); exact aa.out) hb) (Kd.V_below (by (with_reducible repeat (first | apply Kd.V_alloc | apply Kd.V_drewN | apply Kd.V_drew)); exact ab.out) hb) (Kd.R_below (kr ad.out) hb) (bb a3 hb) (bb a4 hb) (bb a6 hb) (bb a7 hb) (bb a9 hb) (below_step (bf HB.out) hb) ?_; clear a5 aa ab ad a3 a4 a6 a7 a9 HB; intro a5 aa ab ad a3 a4 a6 a7 a9 HB; (try clear hb); (try clear hb2); (try clear hk); (try clear hi); refine hK.out _ _ ⟨bc a3 0, HS1_⟩ (fun hHeld => ?_); clear hK K; refine nm 35 ?_; exact nc (hCont (a2) _ ⟨hHeld, (kr a5.out), (by (with_reducible repeat (first | apply Kd.V_alloc | apply Kd.V_drewN | apply Kd.V_drew)); exact Kd.V_mono aa.out (fun _ hk => ⟨hk.1.1, ⟨hk.1.2.1, ⟨hk.1.2.2.1, ⟨hk.1.2.2.2.1, ⟨hk.1.2.2.2.2.1, ⟨hk.1.2.2.2.2.2.1, ⟨hk.1.2.2.2.2.2.2, hk.2⟩⟩⟩⟩⟩⟩⟩)), (by (with_reducible repeat (first | apply Kd.V_alloc | apply Kd.V_drewN | apply Kd.V_drew)); exact Kd.V_mono ab.out (fun _ hk => ⟨hk.1.1, ⟨hk.1.2.1, ⟨hk.1.2.2.1, ⟨hk.1.2.2.2.1, ⟨hk.1.2.2.2.2.1, ⟨hk.1.2.2.2.2.2.1, ⟨hk.1.2.2.2.2.2.2, hk.2⟩⟩⟩⟩⟩⟩⟩)), (kr ad.out), (bk a3.out), (bk a4.out), (bk a6.out), (bk a7.out), (bk a9.out), bG.out, bH.out, aW.out, ba.out, b1.out, bd.out, b2.out, bg.out, aZ.out, b7.out, (bf HB.out)⟩)
          rintro a2 aG ⟨hS_, h0_, h1_, h2_, h3_, h4_, h5_, h6_, h7_, h8_, h9_, h10_, h11_, h12_, h13_, h14_, h15_, h16_, h17_, h18_, h19_⟩
          have aH : Aside0 (Kd.R Kd.string 9 aG w.heap.size (fun k_ => (w.heap.size ≤ k_)) (.slice (some aq) ac.length aY) ac) := ⟨h0_⟩
          have aI : Aside0 (Kd.V k37 37 aG w.heap.size (fun k_ => ((P0_0_ k_ ∨ P1_0_ k_) ∨ w.heap.size ≤ k_) ∧ some k_ ≠ (.slice (some aq) ac.length aY : Value).ownBlock ∧ some k_ ≠ (am : Value).ownBlock ∧ k_ ≠ ai ∧ k_ ≠ aj ∧ k_ ≠ ak ∧ k_ ≠ ag ∧ k_ ≠ a2) (.slice au ae.length ar) ae) := ⟨h1_⟩
          have aJ : Aside0 (Kd.V k37 37 aG w.heap.size (fun k_ => ((P0_0_ k_ ∨ P1_0_ k_) ∨ w.heap.size ≤ k_) ∧ some k_ ≠ (.slice (some aq) ac.length aY : Value).ownBlock ∧ some k_ ≠ (am : Value).ownBlock ∧ k_ ≠ ai ∧ k_ ≠ aj ∧ k_ ≠ ak ∧ k_ ≠ ag ∧ k_ ≠ a2) (.slice av af.length aw) af) := ⟨h2_⟩
          have aK : Aside0 (Kd.R k125 125 aG w.heap.size (fun k_ => (w.heap.size ≤ k_)) am aD) := ⟨h3_⟩
          have aM : Aside0 (aG.heap[ai]? = some (.cells #[.slice au ae.length ar] 28 (0, 0))) := ⟨h4_⟩
          have aN : Aside0 (aG.heap[aj]? = some (.cells #[.slice av af.length aw] 28 (0, 0))) := ⟨h5_⟩
          have aQ : Aside0 (aG.heap[ak]? = some (.cells #[.slice none 0 0] 56 (0, 0))) := ⟨h6_⟩
          have aR : Aside0 (aG.heap[ag]? = some (.cells #[am] 56 (0, 0))) := ⟨h7_⟩
          have aT : Aside0 (aG.heap[a2]? = some (.cells #[.bool false, .string (⟨#[]⟩ : ByteArray), .bool false] 122 (0, 0))) := ⟨h8_⟩
          have aU : Aside0 (w.heap.size ≤ a2) := ⟨h9_⟩
          have b3 : Aside0 (w.heap.size ≤ a2) := ⟨h10_⟩
          have bq : Aside0 (ai ≠ a2) := ⟨h11_⟩
          have bu : Aside0 (a2 ≠ ai) := ⟨h12_⟩
          have bv : Aside0 (aj ≠ a2) := ⟨h13_⟩
          have bw : Aside0 (a2 ≠ aj) := ⟨h14_⟩
          have bz : Aside0 (ak ≠ a2) := ⟨h15_⟩
          have bA : Aside0 (a2 ≠ ak) := ⟨h16_⟩
          have bB : Aside0 (ag ≠ a2) := ⟨h17_⟩
          have bC : Aside0 (a2 ≠ ag) := ⟨h18_⟩
          have bD : Aside0 (Below w.heap.size w aG) := ⟨h19_⟩
          clear a5; clear aa; clear ab; clear ad; clear a3; clear a4; clear a6; clear a7; clear HB; clear h0_ h1_ h2_ h3_ h4_ h5_ h6_ h7_ h8_ h9_ h10_ h11_ h12_ h13_ h14_ h15_ h16_ h17_ h18_ h19_; have a5 := aH; have aa := aI; have ab := aJ; have ad := aK; have a3 := aM; have a4 := aN; have a6 := aQ; have a7 := aR; have a9 := aT; have bG := aU; have bH := b3; have aW := bq; have ba := bu; have b1 := bv; have bd := bw; have b2 := bz; have bg := bA; have aZ := bB; have b7 := bC; have HB := bD; clear aH aI aJ aK aM aN aQ aR aT aU b3 bq bu bv bw bz bA bB bC bD; have hHeld : aG.cell? ⟨ai, 0, none⟩ = some (.slice au ae.length ar) ∧ aG.cell? (aq.add (ah).toNat) = some (.string (rdOf ByteArray.empty ac ah)) := hS_; refine norm_ (a' := ?_) ?_ ?_; rotate_left
          ·simp only [putAll, Act.put, List.setIfInBounds_toArray, List.set_cons_zero, List.set_cons_succ]; rfl
          refine o1 7 none (fb 8 255) HT_ (fun K hK => ?_); have ⟨hs60, hs61, hs62, hfs60, hfs61, hfs62⟩ := Yc3 a9.out; have dl := aW.out; have dm := b1.out; have dn := b2.out; have dp := aZ.out; have dq := ba.out; have dr := bd.out; have dt := bg.out; have du := b7.out; refine skip_ (w1 := ?_) (by rfl) rfl ?_ ?_; rotate_left
          ·go_simp; rfl
          refine hK.out _ _ ⟨((cell_far (p := ⟨a2, _, none⟩) aW.out _).trans (((cell_far (p := ⟨a2, _, none⟩) aW.out _).trans (((cell_far (p := ⟨a2, _, none⟩) aW.out _).trans (hHeld.1)))))), ((cell_far (p := ⟨a2, _, none⟩) (by first | exact Kd.own_blk (Kd.R_ne a5.out a9.out (by decide)) | (rw [add_block]; exact Kd.own_blk (Kd.R_ne a5.out a9.out (by decide))) | (show (Addr.add _ _).block ≠ _; rw [add_block]; exact Kd.own_blk (Kd.R_ne a5.out a9.out (by decide))) | (dsimp only; exact Kd.own_blk (Kd.R_ne a5.out a9.out (by decide)))) _).trans (((cell_far (p := ⟨a2, _, none⟩) (by first | exact Kd.own_blk (Kd.R_ne a5.out a9.out (by decide)) | (rw [add_block]; exact Kd.own_blk (Kd.R_ne a5.out a9.out (by decide))) | (show (Addr.add _ _).block ≠ _; rw [add_block]; exact Kd.own_blk (Kd.R_ne a5.out a9.out (by decide))) | (dsimp only; exact Kd.own_blk (Kd.R_ne a5.out a9.out (by decide)))) _).trans (((cell_far (p := ⟨a2, _, none⟩) (by first | exact Kd.own_blk (Kd.R_ne a5.out a9.out (by decide)) | (rw [add_block]; exact Kd.own_blk (Kd.R_ne a5.out a9.out (by decide))) | (show (Addr.add _ _).block ≠ _; rw [add_block]; exact Kd.own_blk (Kd.R_ne a5.out a9.out (by decide))) | (dsimp only; exact Kd.own_blk (Kd.R_ne a5.out a9.out (by decide)))) _).trans (hHeld.2))))))⟩ (fun hHeld => ?_); clear hK K; refine done_ (done_of HT_.out (by kernel_rfl)) ?_
          try go_wp2
          have aH : Aside0 (Kd.R Kd.string 9 (((aG.setCell ⟨a2, 0, none⟩ (.bool an)).setCell ⟨a2, 1, none⟩ (.string ao)).setCell ⟨a2, 2, none⟩ (.bool ap)) w.heap.size (fun k_ => (w.heap.size ≤ k_)) (.slice (some aq) ac.length aY) ac) := ⟨rf a5 a9⟩
          have aI : Aside0 (Kd.V k37 37 (((aG.setCell ⟨a2, 0, none⟩ (.bool an)).setCell ⟨a2, 1, none⟩ (.string ao)).setCell ⟨a2, 2, none⟩ (.bool ap)) w.heap.size (fun k_ => ((P0_0_ k_ ∨ P1_0_ k_) ∨ w.heap.size ≤ k_) ∧ some k_ ≠ (.slice (some aq) ac.length aY : Value).ownBlock ∧ some k_ ≠ (am : Value).ownBlock ∧ k_ ≠ ai ∧ k_ ≠ aj ∧ k_ ≠ ak ∧ k_ ≠ ag ∧ k_ ≠ a2) (.slice au ae.length ar) ae) := ⟨by (with_reducible repeat (first | apply Kd.V_alloc | apply Kd.V_drewN | apply Kd.V_drew)); exact Kd.V_mono (Kd.V_far (p := ⟨a2, 2, none⟩) (Kd.V_far (p := ⟨a2, 1, none⟩) (Kd.V_far (p := ⟨a2, 0, none⟩) (Kd.V_mono aa.out (fun k_ hk => (⟨hk, hk.2.2.2.2.2.2.2⟩ : _ ∧ k_ ≠ a2))) (fun _ hk => hk.2) (.bool an)) (fun _ hk => hk.2) (.string ao)) (fun _ hk => hk.2) (.bool ap)) (fun _ hk => ⟨hk.1.1, ⟨hk.1.2.1, ⟨hk.1.2.2.1, ⟨hk.1.2.2.2.1, ⟨hk.1.2.2.2.2.1, ⟨hk.1.2.2.2.2.2.1, ⟨hk.1.2.2.2.2.2.2.1, hk.1.2.2.2.2.2.2.2⟩⟩⟩⟩⟩⟩⟩)⟩
          have aJ : Aside0 (Kd.V k37 37 (((aG.setCell ⟨a2, 0, none⟩ (.bool an)).setCell ⟨a2, 1, none⟩ (.string ao)).setCell ⟨a2, 2, none⟩ (.bool ap)) w.heap.size (fun k_ => ((P0_0_ k_ ∨ P1_0_ k_) ∨ w.heap.size ≤ k_) ∧ some k_ ≠ (.slice (some aq) ac.length aY : Value).ownBlock ∧ some k_ ≠ (am : Value).ownBlock ∧ k_ ≠ ai ∧ k_ ≠ aj ∧ k_ ≠ ak ∧ k_ ≠ ag ∧ k_ ≠ a2) (.slice av af.length aw) af) := ⟨by (with_reducible repeat (first | apply Kd.V_alloc | apply Kd.V_drewN | apply Kd.V_drew)); exact Kd.V_mono (Kd.V_far (p := ⟨a2, 2, none⟩) (Kd.V_far (p := ⟨a2, 1, none⟩) (Kd.V_far (p := ⟨a2, 0, none⟩) (Kd.V_mono ab.out (fun k_ hk => (⟨hk, hk.2.2.2.2.2.2.2⟩ : _ ∧ k_ ≠ a2))) (fun _ hk => hk.2) (.bool an)) (fun _ hk => hk.2) (.string ao)) (fun _ hk => hk.2) (.bool ap)) (fun _ hk => ⟨hk.1.1, ⟨hk.1.2.1, ⟨hk.1.2.2.1, ⟨hk.1.2.2.2.1, ⟨hk.1.2.2.2.2.1, ⟨hk.1.2.2.2.2.2.1, ⟨hk.1.2.2.2.2.2.2.1, hk.1.2.2.2.2.2.2.2⟩⟩⟩⟩⟩⟩⟩)⟩
          have aK : Aside0 (Kd.R k125 125 (((aG.setCell ⟨a2, 0, none⟩ (.bool an)).setCell ⟨a2, 1, none⟩ (.string ao)).setCell ⟨a2, 2, none⟩ (.bool ap)) w.heap.size (fun k_ => (w.heap.size ≤ k_)) am aD) := ⟨rf ad a9⟩
          have aM : Aside0 ((((aG.setCell ⟨a2, 0, none⟩ (.bool an)).setCell ⟨a2, 1, none⟩ (.string ao)).setCell ⟨a2, 2, none⟩ (.bool ap)).heap[ai]? = some (.cells #[.slice au ae.length ar] 28 (0, 0))) := ⟨bkf a3.out aW.out⟩
          have aN : Aside0 ((((aG.setCell ⟨a2, 0, none⟩ (.bool an)).setCell ⟨a2, 1, none⟩ (.string ao)).setCell ⟨a2, 2, none⟩ (.bool ap)).heap[aj]? = some (.cells #[.slice av af.length aw] 28 (0, 0))) := ⟨bkf a4.out b1.out⟩
          have aQ : Aside0 ((((aG.setCell ⟨a2, 0, none⟩ (.bool an)).setCell ⟨a2, 1, none⟩ (.string ao)).setCell ⟨a2, 2, none⟩ (.bool ap)).heap[ak]? = some (.cells #[.slice none 0 0] 56 (0, 0))) := ⟨bkf a6.out b2.out⟩
          have aR : Aside0 ((((aG.setCell ⟨a2, 0, none⟩ (.bool an)).setCell ⟨a2, 1, none⟩ (.string ao)).setCell ⟨a2, 2, none⟩ (.bool ap)).heap[ag]? = some (.cells #[am] 56 (0, 0))) := ⟨bkf a7.out aZ.out⟩
          have aT : Aside0 ((((aG.setCell ⟨a2, 0, none⟩ (.bool an)).setCell ⟨a2, 1, none⟩ (.string ao)).setCell ⟨a2, 2, none⟩ (.bool ap)).heap[a2]? = some (.cells #[.bool an, .string ao, .bool ap] 122 (0, 0))) := ⟨bp a9.out⟩
          have aU : Aside0 (Below w.heap.size w (((aG.setCell ⟨a2, 0, none⟩ (.bool an)).setCell ⟨a2, 1, none⟩ (.string ao)).setCell ⟨a2, 2, none⟩ (.bool ap))) := ⟨bf HB.out⟩
          (try clear a5); (try clear aa); (try clear ab); (try clear ad); (try clear a3); (try clear a4); (try clear a6); (try clear a7); (try clear a9); (try clear HB); generalize (((aG.setCell ⟨a2, 0, none⟩ (.bool an)).setCell ⟨a2, 1, none⟩ (.string ao)).setCell ⟨a2, 2, none⟩ (.bool ap)) = w63 at aH aI aJ aK aM aN aQ aR aT aU ⊢; have a5 := aH; have aa := aI; have ab := aJ; have ad := aK; have a3 := aM; have a4 := aN; have a6 := aQ; have a7 := aR; have a9 := aT; have HB := aU; clear aH aI aJ aK aM aN aQ aR aT aU; refine Ya10 (Kd.R_drew a5.out) (Kd.V_drew aa.out) (Kd.V_drew ab.out) (Kd.R_drew ad.out) (blk_drew a3.out) (blk_drew a4.out) (blk_drew a6.out) (blk_drew a7.out) (blk_drew a9.out) (below_drew1 HB.out) ?_; clear a5 aa ab ad a3 a4 a6 a7 a9 HB; intro a5 aa ab ad a3 a4 a6 a7 a9 HB; have bP : 0 ≤ (ah : Int) := oda; have bQ : ah < (ac.length : Int) := oda; obtain ⟨cA, cB, cg⟩ := Kd.at_string (Kd.R_reads' a5.out).2.2 ah bP bQ
          obtain rfl : aq = cA := (by injection cB)
          replace bP := eq_true bP; replace bQ := eq_true bQ; refine start_ (n := 8) (S := fun w' => w'.cell? ⟨aj, 0, none⟩ = some (.slice av af.length aw) ∧ w'.cell? (aq.add (ah).toNat) = some (.string (rdOf ByteArray.empty ac ah))) (ds := []) (fb 8 0) (by kernel_rfl) rfl rfl ⟨bc a4 0, cg⟩ (fun hHeld => ?_); refine with_tabW spec_Diff.tab9 spec_Diff.bits9 (fun HT_ HW_ => ?_); generalize w63.drew = w64 at a5 aa ab ad a3 a4 a6 a7 a9 HB cg hHeld ⊢; refine pu 1 37 (fb 8 2) HT_ ?_; refine pu 2 38 (fb 8 6) HT_ ?_; refine pu 3 39 (fb 8 14) HT_ ?_; refine tk 0 36 (fb 8 15) HT_ HW_ hHeld ?_; refine tk 4 40 (fb 8 31) HT_ HW_ hHeld ?_; refine join_ (σ := Nat) 1 (fb 8 127) (fun s_ => [(41, .agg #[.bool ax, .string ay, .bool az]), (9, .pointer (some ⟨s_, 0, none⟩))]) (fun s_ w' => (w'.cell? ⟨aj, 0, none⟩ = some (.slice av af.length aw) ∧ w'.cell? (aq.add (ah).toNat) = some (.string (rdOf ByteArray.empty ac ah))) ∧ (Kd.R Kd.string 9 w' w.heap.size (fun k_ => (w.heap.size ≤ k_)) (.slice (some aq) ac.length aY) ac) ∧ (Kd.V k37 37 w' w.heap.size (fun k_ => ((P0_0_ k_ ∨ P1_0_ k_) ∨ w.heap.size ≤ k_) ∧ some k_ ≠ (.slice (some aq) ac.length aY : Value).ownBlock ∧ some k_ ≠ (am : Value).ownBlock ∧ k_ ≠ ai ∧ k_ ≠ aj ∧ k_ ≠ ak ∧ k_ ≠ ag ∧ k_ ≠ a2 ∧ k_ ≠ s_) (.slice au ae.length ar) ae) ∧ (Kd.V k37 37 w' w.heap.size (fun k_ => ((P0_0_ k_ ∨ P1_0_ k_) ∨ w.heap.size ≤ k_) ∧ some k_ ≠ (.slice (some aq) ac.length aY : Value).ownBlock ∧ some k_ ≠ (am : Value).ownBlock ∧ k_ ≠ ai ∧ k_ ≠ aj ∧ k_ ≠ ak ∧ k_ ≠ ag ∧ k_ ≠ a2 ∧ k_ ≠ s_) (.slice av af.length aw) af) ∧ (Kd.R k125 125 w' w.heap.size (fun k_ => (w.heap.size ≤ k_)) am aD) ∧ (w'.heap[ai]? = some (.cells #[.slice au ae.length ar] 28 (0, 0))) ∧ (w'.heap[aj]? = some (.cells #[.slice av af.length aw] 28 (0, 0))) ∧ (w'.heap[ak]? = some (.cells #[.slice none 0 0] 56 (0, 0))) ∧ (w'.heap[ag]? = some (.cells #[am] 56 (0, 0))) ∧ (w'.heap[a2]? = some (.cells #[.bool an, .string ao, .bool ap] 122 (0, 0))) ∧ (w'.heap[s_]? = some (.cells #[.bool false, .string (⟨#[]⟩ : ByteArray), .bool false] 122 (0, 0))) ∧ (w.heap.size ≤ s_) ∧ (w.heap.size ≤ s_) ∧ (ai ≠ s_) ∧ (s_ ≠ ai) ∧ (aj ≠ s_) ∧ (s_ ≠ aj) ∧ (ak ≠ s_) ∧ (s_ ≠ ak) ∧ (ag ≠ s_) ∧ (s_ ≠ ag) ∧ (a2 ≠ s_) ∧ (s_ ≠ a2) ∧ (Below w.heap.size w w')) ?_ ?_; rotate_left
          ·intro hCont; refine two_ (i := 5) (j := 6) (Ni := some 41) (Nj := some 9) (fb 8 63) (fb 8 95) rfl rfl rfl rfl (two_of HT_.out (by kernel_rfl)) (by decide) (by decide) (fun K hK => ?_) (fun K hK => ?_)
           ·skip
            refine gs _ (#[.agg #[.slice av af.length aw], .string (rdOf ByteArray.empty ac ah)]) Tryd.func97 ?_; (with_reducible refine (spec_l6At.calls k2 _ _ af (rdOf ByteArray.empty ac ah) ax ay az _ ?side1 ?side2 cr.out).mono ?_); (case side1 => repeat (first | exact (Kd.V_reads' ab.out).2.2 | (with_reducible refine Kd.C_alloc ?_ _) | (with_reducible refine Kd.C_drewN ?_ _) | (with_reducible refine Kd.C_drew ?_))); (case side2 => exact (Kd.V_reads' ab.out).2.1); rintro e w65 ⟨rfl, hb⟩; have HS1_ := (hb.cell (World.block_lt_of_cell? _ _ (hHeld.2))).trans (hHeld.2); refine ⟨_, rfl, ?_⟩; refine Ya10 (Kd.R_below (kr a5.out) hb) (Kd.V_below (by (with_reducible repeat (first | apply Kd.V_alloc | apply Kd.V_drewN | apply Kd.V_drew)); exact aa.out) hb) (Kd.V_below (by (with_reducible repeat (first | apply Kd.V_alloc | apply Kd.V_drewN | apply Kd.V_drew)); exact ab.out) hb) (Kd.R_below (kr ad.out) hb) (bb a3 hb) (bb a4 hb) (bb a6 hb) (bb a7 hb) (bb a9 hb) (below_step (bf HB.out) hb) ?_; clear a5 aa ab ad a3 a4 a6 a7 a9 HB; intro a5 aa ab ad a3 a4 a6 a7 a9 HB; (try clear hb); (try clear hb2); (try clear hk); (try clear hi); refine hK.out _ _ ⟨bc a4 0, HS1_⟩ (fun hHeld => ?_); clear hK K; refine nm 41 ?_; refine o1 6 (some 9) (fb 8 127) HT_ (fun K hK => ?_); refine bst 9 122 (#[.bool false, .string (⟨#[]⟩ : ByteArray), .bool false]) ?_; intro a8 hg w66 hbox hb; have HS1_ := (hb.cell (World.block_lt_of_cell? _ _ (hHeld.2))).trans (hHeld.2); refine Ya23 (Kd.R_below (kr a5.out) hb) (Kd.V_below (Kd.V_elderB (by (with_reducible repeat (first | apply Kd.V_alloc | apply Kd.V_drewN | apply Kd.V_drew)); exact aa.out) a8 (Nat.le_of_eq hg.symm)) hb) (Kd.V_below (Kd.V_elderB (by (with_reducible repeat (first | apply Kd.V_alloc | apply Kd.V_drewN | apply Kd.V_drew)); exact ab.out) a8 (Nat.le_of_eq hg.symm)) hb) (Kd.R_below (kr ad.out) hb) (bb a3 hb) (bb a4 hb) (bb a6 hb) (bb a7 hb) (bb a9 hb) (below_step (bf HB.out) hb) (hbox) (bs hg (bf HB.out)) (bs hg (bf HB.out)) (bl hg a3) (br hg a3) (bl hg a4) (br hg a4) (bl hg a6) (br hg a6) (bl hg a7) (br hg a7) (bl hg a9) (br hg a9) ?_; clear a5 aa ab ad a3 a4 a6 a7 a9 HB; intro a5 aa ab ad a3 a4 a6 a7 a9 HB al bI bJ b4 bh aX bi b5 bj b0 b8 b9 bm; clear hb hbox hg; refine hK.out _ _ ⟨bc a4 0, HS1_⟩ (fun hHeld => ?_); clear hK K; refine nm 9 ?_; exact nc (hCont (a8) _ ⟨hHeld, (kr a5.out), (by (with_reducible repeat (first | apply Kd.V_alloc | apply Kd.V_drewN | apply Kd.V_drew)); exact Kd.V_mono aa.out (fun _ hk => ⟨hk.1.1, ⟨hk.1.2.1, ⟨hk.1.2.2.1, ⟨hk.1.2.2.2.1, ⟨hk.1.2.2.2.2.1, ⟨hk.1.2.2.2.2.2.1, ⟨hk.1.2.2.2.2.2.2.1, ⟨hk.1.2.2.2.2.2.2.2, hk.2⟩⟩⟩⟩⟩⟩⟩⟩)), (by (with_reducible repeat (first | apply Kd.V_alloc | apply Kd.V_drewN | apply Kd.V_drew)); exact Kd.V_mono ab.out (fun _ hk => ⟨hk.1.1, ⟨hk.1.2.1, ⟨hk.1.2.2.1, ⟨hk.1.2.2.2.1, ⟨hk.1.2.2.2.2.1, ⟨hk.1.2.2.2.2.2.1, ⟨hk.1.2.2.2.2.2.2.1, ⟨hk.1.2.2.2.2.2.2.2, hk.2⟩⟩⟩⟩⟩⟩⟩⟩)), (kr ad.out), (bk a3.out), (bk a4.out), (bk a6.out), (bk a7.out), (bk a9.out), (bk al.out), bI.out, bJ.out, b4.out, bh.out, aX.out, bi.out, b5.out, bj.out, b0.out, b8.out, b9.out, bm.out, (bf HB.out)⟩)
           ·skip
            refine bst 9 122 (#[.bool false, .string (⟨#[]⟩ : ByteArray), .bool false]) ?_; intro a8 hg w65 hbox hb; have HS1_ := (hb.cell (World.block_lt_of_cell? _ _ (hHeld.2))).trans (hHeld.2); refine Ya23 (Kd.R_below (kr a5.out) hb) (Kd.V_below (Kd.V_elderB (by (with_reducible repeat (first | apply Kd.V_alloc | apply Kd.V_drewN | apply Kd.V_drew)); exact aa.out) a8 (Nat.le_of_eq hg.symm)) hb) (Kd.V_below (Kd.V_elderB (by (with_reducible repeat (first | apply Kd.V_alloc | apply Kd.V_drewN | apply Kd.V_drew)); exact ab.out) a8 (Nat.le_of_eq hg.symm)) hb) (Kd.R_below (kr ad.out) hb) (bb a3 hb) (bb a4 hb) (bb a6 hb) (bb a7 hb) (bb a9 hb) (below_step (bf HB.out) hb) (hbox) (bs hg (bf HB.out)) (bs hg (bf HB.out)) (bl hg a3) (br hg a3) (bl hg a4) (br hg a4) (bl hg a6) (br hg a6) (bl hg a7) (br hg a7) (bl hg a9) (br hg a9) ?_; clear a5 aa ab ad a3 a4 a6 a7 a9 HB; intro a5 aa ab ad a3 a4 a6 a7 a9 HB al bI bJ b4 bh aX bi b5 bj b0 b8 b9 bm; clear hb hbox hg; refine hK.out _ _ ⟨bc a4 0, HS1_⟩ (fun hHeld => ?_); clear hK K; refine nm 9 ?_; refine o1 5 (some 41) (fb 8 127) HT_ (fun K hK => ?_); refine gs _ (#[.agg #[.slice av af.length aw], .string (rdOf ByteArray.empty ac ah)]) Tryd.func97 ?_; (with_reducible refine (spec_l6At.calls k2 _ _ af (rdOf ByteArray.empty ac ah) ax ay az _ ?side1 ?side2 cr.out).mono ?_); (case side1 => repeat (first | exact (Kd.V_reads' ab.out).2.2 | (with_reducible refine Kd.C_alloc ?_ _) | (with_reducible refine Kd.C_drewN ?_ _) | (with_reducible refine Kd.C_drew ?_))); (case side2 => exact (Kd.V_reads' ab.out).2.1); rintro e w66 ⟨rfl, hb⟩; have HS1_ := (hb.cell (World.block_lt_of_cell? _ _ (hHeld.2))).trans (hHeld.2); refine ⟨_, rfl, ?_⟩; refine Ya11 (Kd.R_below (kr a5.out) hb) (Kd.V_below (by (with_reducible repeat (first | apply Kd.V_alloc | apply Kd.V_drewN | apply Kd.V_drew)); exact aa.out) hb) (Kd.V_below (by (with_reducible repeat (first | apply Kd.V_alloc | apply Kd.V_drewN | apply Kd.V_drew)); exact ab.out) hb) (Kd.R_below (kr ad.out) hb) (bb a3 hb) (bb a4 hb) (bb a6 hb) (bb a7 hb) (bb a9 hb) (bb al hb) (below_step (bf HB.out) hb) ?_; clear a5 aa ab ad a3 a4 a6 a7 a9 al HB; intro a5 aa ab ad a3 a4 a6 a7 a9 al HB; (try clear hb); (try clear hb2); (try clear hk); (try clear hi); refine hK.out _ _ ⟨bc a4 0, HS1_⟩ (fun hHeld => ?_); clear hK K; refine nm 41 ?_; exact nc (hCont (a8) _ ⟨hHeld, (kr a5.out), (by (with_reducible repeat (first | apply Kd.V_alloc | apply Kd.V_drewN | apply Kd.V_drew)); exact Kd.V_mono aa.out (fun _ hk => ⟨hk.1.1, ⟨hk.1.2.1, ⟨hk.1.2.2.1, ⟨hk.1.2.2.2.1, ⟨hk.1.2.2.2.2.1, ⟨hk.1.2.2.2.2.2.1, ⟨hk.1.2.2.2.2.2.2.1, ⟨hk.1.2.2.2.2.2.2.2, hk.2⟩⟩⟩⟩⟩⟩⟩⟩)), (by (with_reducible repeat (first | apply Kd.V_alloc | apply Kd.V_drewN | apply Kd.V_drew)); exact Kd.V_mono ab.out (fun _ hk => ⟨hk.1.1, ⟨hk.1.2.1, ⟨hk.1.2.2.1, ⟨hk.1.2.2.2.1, ⟨hk.1.2.2.2.2.1, ⟨hk.1.2.2.2.2.2.1, ⟨hk.1.2.2.2.2.2.2.1, ⟨hk.1.2.2.2.2.2.2.2, hk.2⟩⟩⟩⟩⟩⟩⟩⟩)), (kr ad.out), (bk a3.out), (bk a4.out), (bk a6.out), (bk a7.out), (bk a9.out), (bk al.out), bI.out, bJ.out, b4.out, bh.out, aX.out, bi.out, b5.out, bj.out, b0.out, b8.out, b9.out, bm.out, (bf HB.out)⟩)
          rintro a8 aE ⟨hS_, h0_, h1_, h2_, h3_, h4_, h5_, h6_, h7_, h8_, h9_, h10_, h11_, h12_, h13_, h14_, h15_, h16_, h17_, h18_, h19_, h20_, h21_, h22_⟩
          have aH : Aside0 (Kd.R Kd.string 9 aE w.heap.size (fun k_ => (w.heap.size ≤ k_)) (.slice (some aq) ac.length aY) ac) := ⟨h0_⟩
          have aI : Aside0 (Kd.V k37 37 aE w.heap.size (fun k_ => ((P0_0_ k_ ∨ P1_0_ k_) ∨ w.heap.size ≤ k_) ∧ some k_ ≠ (.slice (some aq) ac.length aY : Value).ownBlock ∧ some k_ ≠ (am : Value).ownBlock ∧ k_ ≠ ai ∧ k_ ≠ aj ∧ k_ ≠ ak ∧ k_ ≠ ag ∧ k_ ≠ a2 ∧ k_ ≠ a8) (.slice au ae.length ar) ae) := ⟨h1_⟩
          have aJ : Aside0 (Kd.V k37 37 aE w.heap.size (fun k_ => ((P0_0_ k_ ∨ P1_0_ k_) ∨ w.heap.size ≤ k_) ∧ some k_ ≠ (.slice (some aq) ac.length aY : Value).ownBlock ∧ some k_ ≠ (am : Value).ownBlock ∧ k_ ≠ ai ∧ k_ ≠ aj ∧ k_ ≠ ak ∧ k_ ≠ ag ∧ k_ ≠ a2 ∧ k_ ≠ a8) (.slice av af.length aw) af) := ⟨h2_⟩
          have aK : Aside0 (Kd.R k125 125 aE w.heap.size (fun k_ => (w.heap.size ≤ k_)) am aD) := ⟨h3_⟩
          have aM : Aside0 (aE.heap[ai]? = some (.cells #[.slice au ae.length ar] 28 (0, 0))) := ⟨h4_⟩
          have aN : Aside0 (aE.heap[aj]? = some (.cells #[.slice av af.length aw] 28 (0, 0))) := ⟨h5_⟩
          have aQ : Aside0 (aE.heap[ak]? = some (.cells #[.slice none 0 0] 56 (0, 0))) := ⟨h6_⟩
          have aR : Aside0 (aE.heap[ag]? = some (.cells #[am] 56 (0, 0))) := ⟨h7_⟩
          have aT : Aside0 (aE.heap[a2]? = some (.cells #[.bool an, .string ao, .bool ap] 122 (0, 0))) := ⟨h8_⟩
          have aU : Aside0 (aE.heap[a8]? = some (.cells #[.bool false, .string (⟨#[]⟩ : ByteArray), .bool false] 122 (0, 0))) := ⟨h9_⟩
          have b3 : Aside0 (w.heap.size ≤ a8) := ⟨h10_⟩
          have bq : Aside0 (w.heap.size ≤ a8) := ⟨h11_⟩
          have bu : Aside0 (ai ≠ a8) := ⟨h12_⟩
          have bv : Aside0 (a8 ≠ ai) := ⟨h13_⟩
          have bw : Aside0 (aj ≠ a8) := ⟨h14_⟩
          have bz : Aside0 (a8 ≠ aj) := ⟨h15_⟩
          have bA : Aside0 (ak ≠ a8) := ⟨h16_⟩
          have bB : Aside0 (a8 ≠ ak) := ⟨h17_⟩
          have bC : Aside0 (ag ≠ a8) := ⟨h18_⟩
          have bD : Aside0 (a8 ≠ ag) := ⟨h19_⟩
          have ch : Aside0 (a2 ≠ a8) := ⟨h20_⟩
          have ci : Aside0 (a8 ≠ a2) := ⟨h21_⟩
          have cj : Aside0 (Below w.heap.size w aE) := ⟨h22_⟩
          clear a5; clear aa; clear ab; clear ad; clear a3; clear a4; clear a6; clear a7; clear a9; clear HB; clear h0_ h1_ h2_ h3_ h4_ h5_ h6_ h7_ h8_ h9_ h10_ h11_ h12_ h13_ h14_ h15_ h16_ h17_ h18_ h19_ h20_ h21_ h22_; have a5 := aH; have aa := aI; have ab := aJ; have ad := aK; have a3 := aM; have a4 := aN; have a6 := aQ; have a7 := aR; have a9 := aT; have al := aU; have bI := b3; have bJ := bq; have b4 := bu; have bh := bv; have aX := bw; have bi := bz; have b5 := bA; have bj := bB; have b0 := bC; have b8 := bD; have b9 := ch; have bm := ci; have HB := cj; clear aH aI aJ aK aM aN aQ aR aT aU b3 bq bu bv bw bz bA bB bC bD ch ci cj; have hHeld : aE.cell? ⟨aj, 0, none⟩ = some (.slice av af.length aw) ∧ aE.cell? (aq.add (ah).toNat) = some (.string (rdOf ByteArray.empty ac ah)) := hS_; refine norm_ (a' := ?_) ?_ ?_; rotate_left
          ·simp only [putAll, Act.put, List.setIfInBounds_toArray, List.set_cons_zero, List.set_cons_succ]; rfl
          refine o1 7 none (fb 8 255) HT_ (fun K hK => ?_); have ⟨hs68, hs69, hs70, hfs68, hfs69, hfs70⟩ := Yc3 al.out; have dv := b4.out; have dw := aX.out; have dx := b5.out; have dy := b0.out; have dA := b9.out; have dB := bh.out; have dC := bi.out; have dD := bj.out; have dE := b8.out; have dF := bm.out; refine skip_ (w1 := ?_) (by rfl) rfl ?_ ?_; rotate_left
          ·go_simp; rfl
          refine hK.out _ _ ⟨((cell_far (p := ⟨a8, _, none⟩) aX.out _).trans (((cell_far (p := ⟨a8, _, none⟩) aX.out _).trans (((cell_far (p := ⟨a8, _, none⟩) aX.out _).trans (hHeld.1)))))), ((cell_far (p := ⟨a8, _, none⟩) (by first | exact Kd.own_blk (Kd.R_ne a5.out al.out (by decide)) | (rw [add_block]; exact Kd.own_blk (Kd.R_ne a5.out al.out (by decide))) | (show (Addr.add _ _).block ≠ _; rw [add_block]; exact Kd.own_blk (Kd.R_ne a5.out al.out (by decide))) | (dsimp only; exact Kd.own_blk (Kd.R_ne a5.out al.out (by decide)))) _).trans (((cell_far (p := ⟨a8, _, none⟩) (by first | exact Kd.own_blk (Kd.R_ne a5.out al.out (by decide)) | (rw [add_block]; exact Kd.own_blk (Kd.R_ne a5.out al.out (by decide))) | (show (Addr.add _ _).block ≠ _; rw [add_block]; exact Kd.own_blk (Kd.R_ne a5.out al.out (by decide))) | (dsimp only; exact Kd.own_blk (Kd.R_ne a5.out al.out (by decide)))) _).trans (((cell_far (p := ⟨a8, _, none⟩) (by first | exact Kd.own_blk (Kd.R_ne a5.out al.out (by decide)) | (rw [add_block]; exact Kd.own_blk (Kd.R_ne a5.out al.out (by decide))) | (show (Addr.add _ _).block ≠ _; rw [add_block]; exact Kd.own_blk (Kd.R_ne a5.out al.out (by decide))) | (dsimp only; exact Kd.own_blk (Kd.R_ne a5.out al.out (by decide)))) _).trans (hHeld.2))))))⟩ (fun hHeld => ?_); clear hK K; refine done_ (done_of HT_.out (by kernel_rfl)) ?_; have hnb71 := ba.out; have hnc71 := aW.out; have hnb72 := bd.out; have hnc72 := b1.out; have hnb73 := bg.out; have hnc73 := b2.out; have hnb74 := b7.out; have hnc74 := aZ.out; have hnb75 := b9.out; have hnc75 := bm.out; have ⟨dG, dH, dI, dJ, dK, dL⟩ := Yc3 a9.out; have hnb77 := bh.out; have hnc77 := b4.out; have hnb78 := bi.out; have hnc78 := aX.out; have hnb79 := bj.out; have hnc79 := b5.out; have hnb80 := b8.out; have hnc80 := b0.out; have ⟨dM, dN, dO, dP, dQ, dR⟩ := Yc3 al.out
          try go_wp2
          have aH : Aside0 (Kd.R Kd.string 9 (((aE.setCell ⟨a8, 0, none⟩ (.bool ax)).setCell ⟨a8, 1, none⟩ (.string ay)).setCell ⟨a8, 2, none⟩ (.bool az)) w.heap.size (fun k_ => (w.heap.size ≤ k_)) (.slice (some aq) ac.length aY) ac) := ⟨rf a5 al⟩
          have aI : Aside0 (Kd.V k37 37 (((aE.setCell ⟨a8, 0, none⟩ (.bool ax)).setCell ⟨a8, 1, none⟩ (.string ay)).setCell ⟨a8, 2, none⟩ (.bool az)) w.heap.size (fun k_ => ((P0_0_ k_ ∨ P1_0_ k_) ∨ w.heap.size ≤ k_) ∧ some k_ ≠ (.slice (some aq) ac.length aY : Value).ownBlock ∧ some k_ ≠ (am : Value).ownBlock ∧ k_ ≠ ai ∧ k_ ≠ aj ∧ k_ ≠ ak ∧ k_ ≠ ag ∧ k_ ≠ a2 ∧ k_ ≠ a8) (.slice au ae.length ar) ae) := ⟨by (with_reducible repeat (first | apply Kd.V_alloc | apply Kd.V_drewN | apply Kd.V_drew)); exact Kd.V_mono (Kd.V_far (p := ⟨a8, 2, none⟩) (Kd.V_far (p := ⟨a8, 1, none⟩) (Kd.V_far (p := ⟨a8, 0, none⟩) (Kd.V_mono aa.out (fun k_ hk => (⟨hk, hk.2.2.2.2.2.2.2.2⟩ : _ ∧ k_ ≠ a8))) (fun _ hk => hk.2) (.bool ax)) (fun _ hk => hk.2) (.string ay)) (fun _ hk => hk.2) (.bool az)) (fun _ hk => ⟨hk.1.1, ⟨hk.1.2.1, ⟨hk.1.2.2.1, ⟨hk.1.2.2.2.1, ⟨hk.1.2.2.2.2.1, ⟨hk.1.2.2.2.2.2.1, ⟨hk.1.2.2.2.2.2.2.1, ⟨hk.1.2.2.2.2.2.2.2.1, hk.1.2.2.2.2.2.2.2.2⟩⟩⟩⟩⟩⟩⟩⟩)⟩
          have aJ : Aside0 (Kd.V k37 37 (((aE.setCell ⟨a8, 0, none⟩ (.bool ax)).setCell ⟨a8, 1, none⟩ (.string ay)).setCell ⟨a8, 2, none⟩ (.bool az)) w.heap.size (fun k_ => ((P0_0_ k_ ∨ P1_0_ k_) ∨ w.heap.size ≤ k_) ∧ some k_ ≠ (.slice (some aq) ac.length aY : Value).ownBlock ∧ some k_ ≠ (am : Value).ownBlock ∧ k_ ≠ ai ∧ k_ ≠ aj ∧ k_ ≠ ak ∧ k_ ≠ ag ∧ k_ ≠ a2 ∧ k_ ≠ a8) (.slice av af.length aw) af) := ⟨by (with_reducible repeat (first | apply Kd.V_alloc | apply Kd.V_drewN | apply Kd.V_drew)); exact Kd.V_mono (Kd.V_far (p := ⟨a8, 2, none⟩) (Kd.V_far (p := ⟨a8, 1, none⟩) (Kd.V_far (p := ⟨a8, 0, none⟩) (Kd.V_mono ab.out (fun k_ hk => (⟨hk, hk.2.2.2.2.2.2.2.2⟩ : _ ∧ k_ ≠ a8))) (fun _ hk => hk.2) (.bool ax)) (fun _ hk => hk.2) (.string ay)) (fun _ hk => hk.2) (.bool az)) (fun _ hk => ⟨hk.1.1, ⟨hk.1.2.1, ⟨hk.1.2.2.1, ⟨hk.1.2.2.2.1, ⟨hk.1.2.2.2.2.1, ⟨hk.1.2.2.2.2.2.1, ⟨hk.1.2.2.2.2.2.2.1, ⟨hk.1.2.2.2.2.2.2.2.1, hk.1.2.2.2.2.2.2.2.2⟩⟩⟩⟩⟩⟩⟩⟩)⟩
          have aK : Aside0 (Kd.R k125 125 (((aE.setCell ⟨a8, 0, none⟩ (.bool ax)).setCell ⟨a8, 1, none⟩ (.string ay)).setCell ⟨a8, 2, none⟩ (.bool az)) w.heap.size (fun k_ => (w.heap.size ≤ k_)) am aD) := ⟨rf ad al⟩
          have aM : Aside0 ((((aE.setCell ⟨a8, 0, none⟩ (.bool ax)).setCell ⟨a8, 1, none⟩ (.string ay)).setCell ⟨a8, 2, none⟩ (.bool az)).heap[ai]? = some (.cells #[.slice au ae.length ar] 28 (0, 0))) := ⟨bkf a3.out b4.out⟩
          have aN : Aside0 ((((aE.setCell ⟨a8, 0, none⟩ (.bool ax)).setCell ⟨a8, 1, none⟩ (.string ay)).setCell ⟨a8, 2, none⟩ (.bool az)).heap[aj]? = some (.cells #[.slice av af.length aw] 28 (0, 0))) := ⟨bkf a4.out aX.out⟩
          have aQ : Aside0 ((((aE.setCell ⟨a8, 0, none⟩ (.bool ax)).setCell ⟨a8, 1, none⟩ (.string ay)).setCell ⟨a8, 2, none⟩ (.bool az)).heap[ak]? = some (.cells #[.slice none 0 0] 56 (0, 0))) := ⟨bkf a6.out b5.out⟩
          have aR : Aside0 ((((aE.setCell ⟨a8, 0, none⟩ (.bool ax)).setCell ⟨a8, 1, none⟩ (.string ay)).setCell ⟨a8, 2, none⟩ (.bool az)).heap[ag]? = some (.cells #[am] 56 (0, 0))) := ⟨bkf a7.out b0.out⟩
          have aT : Aside0 ((((aE.setCell ⟨a8, 0, none⟩ (.bool ax)).setCell ⟨a8, 1, none⟩ (.string ay)).setCell ⟨a8, 2, none⟩ (.bool az)).heap[a2]? = some (.cells #[.bool an, .string ao, .bool ap] 122 (0, 0))) := ⟨bkf a9.out b9.out⟩
          have aU : Aside0 ((((aE.setCell ⟨a8, 0, none⟩ (.bool ax)).setCell ⟨a8, 1, none⟩ (.string ay)).setCell ⟨a8, 2, none⟩ (.bool az)).heap[a8]? = some (.cells #[.bool ax, .string ay, .bool az] 122 (0, 0))) := ⟨bp al.out⟩
          have b3 : Aside0 (Below w.heap.size w (((aE.setCell ⟨a8, 0, none⟩ (.bool ax)).setCell ⟨a8, 1, none⟩ (.string ay)).setCell ⟨a8, 2, none⟩ (.bool az))) := ⟨bf HB.out⟩
          (try clear a5); (try clear aa); (try clear ab); (try clear ad); (try clear a3); (try clear a4); (try clear a6); (try clear a7); (try clear a9); (try clear al); (try clear HB); generalize (((aE.setCell ⟨a8, 0, none⟩ (.bool ax)).setCell ⟨a8, 1, none⟩ (.string ay)).setCell ⟨a8, 2, none⟩ (.bool az)) = w82 at aH aI aJ aK aM aN aQ aR aT aU b3 ⊢; have a5 := aH; have aa := aI; have ab := aJ; have ad := aK; have a3 := aM; have a4 := aN; have a6 := aQ; have a7 := aR; have a9 := aT; have al := aU; have HB := b3; clear aH aI aJ aK aM aN aQ aR aT aU b3; refine Ya11 (Kd.R_drew a5.out) (Kd.V_drew aa.out) (Kd.V_drew ab.out) (Kd.R_drew ad.out) (blk_drew a3.out) (blk_drew a4.out) (blk_drew a6.out) (blk_drew a7.out) (blk_drew a9.out) (blk_drew al.out) (below_drew1 HB.out) ?_; clear a5 aa ab ad a3 a4 a6 a7 a9 al HB; intro a5 aa ab ad a3 a4 a6 a7 a9 al HB; have cC : 0 ≤ (ah : Int) := oda; have cD : ah < (ac.length : Int) := oda; obtain ⟨de, df, cU⟩ := Kd.at_string (Kd.R_reads' a5.out).2.2 ah cC cD
          obtain rfl : aq = de := (by injection df)
          replace cC := eq_true cC; replace cD := eq_true cD; refine start_ (n := 13) (S := fun w' => w'.cell? ⟨ag, 0, none⟩ = some (am) ∧ w'.cell? ⟨a2, 0, none⟩ = some (.bool an) ∧ w'.cell? ⟨a2, 1, none⟩ = some (.string ao) ∧ w'.cell? ⟨a2, 2, none⟩ = some (.bool ap) ∧ w'.cell? ⟨a8, 0, none⟩ = some (.bool ax) ∧ w'.cell? ⟨a8, 1, none⟩ = some (.string ay) ∧ w'.cell? ⟨a8, 2, none⟩ = some (.bool az) ∧ w'.cell? (aq.add (ah).toNat) = some (.string (rdOf ByteArray.empty ac ah))) (ds := [10, 12]) (fb 13 0) (by kernel_rfl) rfl rfl ⟨bc a7 0, bc a9 0, bc a9 1, bc a9 2, bc al 0, bc al 1, bc al 2, cU⟩ (fun hHeld => ?_); refine with_tabW spec_Diff.tab11 spec_Diff.bits11 (fun HT_ HW_ => ?_); generalize w82.drew = w83 at a5 aa ab ad a3 a4 a6 a7 a9 al HB cU hHeld ⊢; refine pu 0 45 (fb 13 1) HT_ ?_; refine pu 2 47 (fb 13 5) HT_ ?_; refine pu 3 48 (fb 13 13) HT_ ?_; refine pu 4 49 (fb 13 29) HT_ ?_; refine tk 1 46 (fb 13 31) HT_ HW_ hHeld ?_; refine tk 5 50 (fb 13 63) HT_ HW_ hHeld ?_; refine tk 6 51 (fb 13 127) HT_ HW_ hHeld ?_; refine tk 7 52 (fb 13 255) HT_ HW_ hHeld ?_; refine pu 8 53 (fb 13 511) HT_ ?_; refine o1 9 (some 54) (fb 13 1023) HT_ (fun K hK => ?_); refine value_ (w1 := ?_) (v := ?_) (by rfl) rfl ?_ ?_; rotate_left 2
          ·go_simp
           constructor
           ·rfl
           ·rfl
          refine hK.out _ _ ⟨(blk_cell (blk_alloc a7.out _) 0).trans rfl, (blk_cell (blk_alloc a9.out _) 0).trans rfl, (blk_cell (blk_alloc a9.out _) 1).trans rfl, (blk_cell (blk_alloc a9.out _) 2).trans rfl, (blk_cell (blk_alloc al.out _) 0).trans rfl, (blk_cell (blk_alloc al.out _) 1).trans rfl, (blk_cell (blk_alloc al.out _) 2).trans rfl, (World.cell?_alloc_lt _ _ _ (World.block_lt_of_cell? _ _ (hHeld.2.2.2.2.2.2.2))).trans (hHeld.2.2.2.2.2.2.2)⟩ (fun hHeld => ?_); clear hK K; refine nm 54 ?_; refine last_ (i := 10) (N := some 55) (fb 13 2047) rfl rfl (one_of HT_.out (by kernel_rfl)) (by decide) (fun K hK => ?_); refine Kd.R_append_step k125 (w0 := w) w.heap.size (by rfl) (.tmp 46) (.tmp 54) 54 125 (.agg #[(.string ⟨#[]⟩), (.bool false), (.string ⟨#[]⟩), (.bool false), (.bool false), (.string ⟨#[]⟩), (.bool false)]) 80 rfl Tryd.underlying54 info125 rfl (by decide) (by omega) am aD (⟨rdOf ByteArray.empty ac ah, (⟨an, ao, ap⟩ : S122), (⟨ax, ay, az⟩ : S122)⟩ : S125) [.string (rdOf ByteArray.empty ac ah), .bool an, .string ao, .bool ap, .bool ax, .string ay, .bool az] (fun k_ => (w.heap.size ≤ k_)) (fun _ => False) rfl rfl ?aP (fun _ hk => hk.elim) ?aF ?aO ?aB ?aS ?aL ?_; (case aP => exact k125_mkM _ _ _ (⟨rdOf ByteArray.empty ac ah, (⟨an, ao, ap⟩ : S122), (⟨ax, ay, az⟩ : S122)⟩ : S125)); (case aB => exact (bf HB.out)); (case aF => exact (fun k_ hk => (Nat.le_trans (below_size (bf HB.out)) hk))); (case aO => exact (kr ad.out)); (case aS => exact (below_size (bf HB.out))); (case aL => have := db.out; omega); intro v827 w84 ho hb hg hat
          rw [← dc.out] at ho
          refine Ya11 (Kd.R_over' (kr a5.out) (Kd.R_typed (kr ad.out)) (by decide) hg) (Kd.V_afterv (ok := (fun k_ => ((P0_0_ k_ ∨ P1_0_ k_) ∨ w.heap.size ≤ k_) ∧ some k_ ≠ (.slice (some aq) ac.length aY : Value).ownBlock ∧ k_ ≠ ai ∧ k_ ≠ aj ∧ k_ ≠ ak ∧ k_ ≠ ag ∧ k_ ≠ a2 ∧ k_ ≠ a8)) (by (with_reducible repeat (first | apply Kd.V_alloc | apply Kd.V_drewN | apply Kd.V_drew)); exact Kd.V_mono aa.out (fun _ hk => ⟨⟨hk.1, ⟨hk.2.1, ⟨hk.2.2.2.1, ⟨hk.2.2.2.2.1, ⟨hk.2.2.2.2.2.1, ⟨hk.2.2.2.2.2.2.1, ⟨hk.2.2.2.2.2.2.2.1, hk.2.2.2.2.2.2.2.2⟩⟩⟩⟩⟩⟩⟩, hk.2.2.1⟩)) hg hat) (Kd.V_afterv (ok := (fun k_ => ((P0_0_ k_ ∨ P1_0_ k_) ∨ w.heap.size ≤ k_) ∧ some k_ ≠ (.slice (some aq) ac.length aY : Value).ownBlock ∧ k_ ≠ ai ∧ k_ ≠ aj ∧ k_ ≠ ak ∧ k_ ≠ ag ∧ k_ ≠ a2 ∧ k_ ≠ a8)) (by (with_reducible repeat (first | apply Kd.V_alloc | apply Kd.V_drewN | apply Kd.V_drew)); exact Kd.V_mono ab.out (fun _ hk => ⟨⟨hk.1, ⟨hk.2.1, ⟨hk.2.2.2.1, ⟨hk.2.2.2.2.1, ⟨hk.2.2.2.2.2.1, ⟨hk.2.2.2.2.2.2.1, ⟨hk.2.2.2.2.2.2.2.1, hk.2.2.2.2.2.2.2.2⟩⟩⟩⟩⟩⟩⟩, hk.2.2.1⟩)) hg hat) (blk_grown (g := ai) (o := .cells #[.slice au ae.length ar] 28 (0, 0)) (bk a3.out) hg (Kd.R_ne ad.out a3.out (by decide))) (blk_grown (g := aj) (o := .cells #[.slice av af.length aw] 28 (0, 0)) (bk a4.out) hg (Kd.R_ne ad.out a4.out (by decide))) (blk_grown (g := ak) (o := .cells #[.slice none 0 0] 56 (0, 0)) (bk a6.out) hg (Kd.R_ne ad.out a6.out (by decide))) (blk_grown (g := ag) (o := .cells #[am] 56 (0, 0)) (bk a7.out) hg (Kd.R_ne ad.out a7.out (by decide))) (blk_grown (g := a2) (o := .cells #[.bool an, .string ao, .bool ap] 122 (0, 0)) (bk a9.out) hg (Kd.R_ne ad.out a9.out (by decide))) (blk_grown (g := a8) (o := .cells #[.bool ax, .string ay, .bool az] 122 (0, 0)) (bk al.out) hg (Kd.R_ne ad.out al.out (by decide))) (hb) (ho) ?_; clear a5 aa ab a3 a4 a6 a7 a9 al HB ad; intro a5 aa ab a3 a4 a6 a7 a9 al HB cV; clear ho hb hg hat; obtain ⟨cE, cF, cW⟩ := Kd.R_slice cV.out; (first | subst cW | (injection cW with f1_ f2_ f3_; have f4_ := f1_.symm; have f5_ := f3_.symm; clear f1_ f2_ f3_; subst f4_; subst f5_)); refine hK.out _ _ ?_; clear hK K; refine nm 55 ?_; refine pu 11 56 (fb 13 4095) HT_ ?_; refine last_ (i := 12) (N := none) (fb 13 8191) rfl rfl (one_of HT_.out (by kernel_rfl)) (by decide) (fun K hK => ?_); have ⟨hs86, hfs86⟩ := Yc1 a7.out; have dS := bE.out; have dT := bF.out; have dU := bM.out; have dV := b7.out; have dW := b8.out; have dX := bL.out; have dY := bU.out; have dZ := cn.out; have e0 := aZ.out; have e1 := b0.out; refine skip_ (w1 := ?_) (by rfl) rfl ?_ ?_; rotate_left
          ·go_simp; rfl
          refine hK.out _ _ ?_; clear hK K; refine done_ (done_of HT_.out (by kernel_rfl)) ?_
          try go_wp2
          go_roundg k2
          case measure => have := HJ2.out; have := HK2.out; omega
          case rel => exact ⟨(wrap64 (ah + 1)), (cd), (.slice cE cd.length cF), Ye1, H', ⟨by have := HJ2.out; have := HK2.out; omega⟩, ⟨rf a5 a7⟩, ⟨by (with_reducible repeat (first | apply Kd.V_alloc | apply Kd.V_drewN | apply Kd.V_drew)); exact Kd.V_mono (Kd.V_far (p := ⟨ag, 0, none⟩) (Kd.V_mono aa.out (fun k_ hk => (⟨hk, hk.1.2.2.2.2.2.1⟩ : _ ∧ k_ ≠ ag))) (fun _ hk => hk.2) (.slice cE cd.length cF)) (fun _ hk => ⟨hk.1.1.1, ⟨hk.1.1.2.1, ⟨hk.1.2, ⟨hk.1.1.2.2.1, ⟨hk.1.1.2.2.2.1, ⟨hk.1.1.2.2.2.2.1, hk.1.1.2.2.2.2.2.1⟩⟩⟩⟩⟩⟩)⟩, ⟨by (with_reducible repeat (first | apply Kd.V_alloc | apply Kd.V_drewN | apply Kd.V_drew)); exact Kd.V_mono (Kd.V_far (p := ⟨ag, 0, none⟩) (Kd.V_mono ab.out (fun k_ hk => (⟨hk, hk.1.2.2.2.2.2.1⟩ : _ ∧ k_ ≠ ag))) (fun _ hk => hk.2) (.slice cE cd.length cF)) (fun _ hk => ⟨hk.1.1.1, ⟨hk.1.1.2.1, ⟨hk.1.2, ⟨hk.1.1.2.2.1, ⟨hk.1.1.2.2.2.1, ⟨hk.1.1.2.2.2.2.1, hk.1.1.2.2.2.2.2.1⟩⟩⟩⟩⟩⟩)⟩, ⟨rf cV a7⟩, ⟨bkf a3.out bE.out⟩, ⟨bkf a4.out bF.out⟩, ⟨bkf a6.out bM.out⟩, ⟨bp a7.out⟩, ⟨bf HB.out⟩⟩
         ·rw [if_neg cs] at H
          exact absurd H (by simp)
        ·rw [if_neg bY] at H
         have da : (!(an == ax) || (!(ao.toList == ay.toList) || (!(ap == az)))) = false := by simpa using bY
         clear bY; have H' := Aside0.mk H; clear H; obtain ⟨Ao87, b6, dg⟩ := Kd.R_slice a5.out; subst dg
         try go_wp2
         refine Ya9 (Kd.R_drew a5.out) (Kd.V_drew aa.out) (Kd.V_drew ab.out) (Kd.R_drew ad.out) (blk_drew a3.out) (blk_drew a4.out) (blk_drew a6.out) (blk_drew a7.out) (below_drew1 HB.out) ?_; clear a5 aa ab ad a3 a4 a6 a7 HB; intro a5 aa ab ad a3 a4 a6 a7 HB; have bN : 0 ≤ (ah : Int) := oda; have bO : ah < (ac.length : Int) := oda; obtain ⟨aq, cz, cf⟩ := Kd.at_string (Kd.R_reads' a5.out).2.2 ah bN bO
         cases cz
         replace bN := eq_true bN; replace bO := eq_true bO; refine start_ (n := 8) (S := fun w' => w'.cell? ⟨ai, 0, none⟩ = some (.slice au ae.length ar) ∧ w'.cell? (aq.add (ah).toNat) = some (.string (rdOf ByteArray.empty ac ah))) (ds := []) (fb 8 0) (by kernel_rfl) rfl rfl ⟨bc a3 0, cf⟩ (fun hHeld => ?_); refine with_tabW spec_Diff.tab8 spec_Diff.bits8 (fun HT_ HW_ => ?_); generalize wr.drew = w88 at a5 aa ab ad a3 a4 a6 a7 HB cf hHeld ⊢; refine pu 1 31 (fb 8 2) HT_ ?_; refine pu 2 32 (fb 8 6) HT_ ?_; refine pu 3 33 (fb 8 14) HT_ ?_; refine tk 0 30 (fb 8 15) HT_ HW_ hHeld ?_; refine tk 4 34 (fb 8 31) HT_ HW_ hHeld ?_; refine join_ (σ := Nat) 1 (fb 8 127) (fun s_ => [(35, .agg #[.bool an, .string ao, .bool ap]), (8, .pointer (some ⟨s_, 0, none⟩))]) (fun s_ w' => (w'.cell? ⟨ai, 0, none⟩ = some (.slice au ae.length ar) ∧ w'.cell? (aq.add (ah).toNat) = some (.string (rdOf ByteArray.empty ac ah))) ∧ (Kd.R Kd.string 9 w' w.heap.size (fun k_ => (w.heap.size ≤ k_)) (.slice (some aq) ac.length b6) ac) ∧ (Kd.V k37 37 w' w.heap.size (fun k_ => ((P0_0_ k_ ∨ P1_0_ k_) ∨ w.heap.size ≤ k_) ∧ some k_ ≠ (.slice (some aq) ac.length b6 : Value).ownBlock ∧ some k_ ≠ (am : Value).ownBlock ∧ k_ ≠ ai ∧ k_ ≠ aj ∧ k_ ≠ ak ∧ k_ ≠ ag ∧ k_ ≠ s_) (.slice au ae.length ar) ae) ∧ (Kd.V k37 37 w' w.heap.size (fun k_ => ((P0_0_ k_ ∨ P1_0_ k_) ∨ w.heap.size ≤ k_) ∧ some k_ ≠ (.slice (some aq) ac.length b6 : Value).ownBlock ∧ some k_ ≠ (am : Value).ownBlock ∧ k_ ≠ ai ∧ k_ ≠ aj ∧ k_ ≠ ak ∧ k_ ≠ ag ∧ k_ ≠ s_) (.slice av af.length aw) af) ∧ (Kd.R k125 125 w' w.heap.size (fun k_ => (w.heap.size ≤ k_)) am aD) ∧ (w'.heap[ai]? = some (.cells #[.slice au ae.length ar] 28 (0, 0))) ∧ (w'.heap[aj]? = some (.cells #[.slice av af.length aw] 28 (0, 0))) ∧ (w'.heap[ak]? = some (.cells #[.slice none 0 0] 56 (0, 0))) ∧ (w'.heap[ag]? = some (.cells #[am] 56 (0, 0))) ∧ (w'.heap[s_]? = some (.cells #[.bool false, .string (⟨#[]⟩ : ByteArray), .bool false] 122 (0, 0))) ∧ (w.heap.size ≤ s_) ∧ (w.heap.size ≤ s_) ∧ (ai ≠ s_) ∧ (s_ ≠ ai) ∧ (aj ≠ s_) ∧ (s_ ≠ aj) ∧ (ak ≠ s_) ∧ (s_ ≠ ak) ∧ (ag ≠ s_) ∧ (s_ ≠ ag) ∧ (Below w.heap.size w w')) ?_ ?_; rotate_left
         ·intro hCont; refine two_ (i := 5) (j := 6) (Ni := some 35) (Nj := some 8) (fb 8 63) (fb 8 95) rfl rfl rfl rfl (two_of HT_.out (by kernel_rfl)) (by decide) (by decide) (fun K hK => ?_) (fun K hK => ?_)
          ·skip
           refine gs _ (#[.agg #[.slice au ae.length ar], .string (rdOf ByteArray.empty ac ah)]) Tryd.func97 ?_; (with_reducible refine (spec_l6At.calls k2 _ _ ae (rdOf ByteArray.empty ac ah) an ao ap _ ?side1 ?side2 cq.out).mono ?_); (case side1 => repeat (first | exact (Kd.V_reads' aa.out).2.2 | (with_reducible refine Kd.C_alloc ?_ _) | (with_reducible refine Kd.C_drewN ?_ _) | (with_reducible refine Kd.C_drew ?_))); (case side2 => exact (Kd.V_reads' aa.out).2.1); rintro e w89 ⟨rfl, hb⟩; have HS1_ := (hb.cell (World.block_lt_of_cell? _ _ (hHeld.2))).trans (hHeld.2); refine ⟨_, rfl, ?_⟩; refine Ya9 (Kd.R_below (kr a5.out) hb) (Kd.V_below (by (with_reducible repeat (first | apply Kd.V_alloc | apply Kd.V_drewN | apply Kd.V_drew)); exact aa.out) hb) (Kd.V_below (by (with_reducible repeat (first | apply Kd.V_alloc | apply Kd.V_drewN | apply Kd.V_drew)); exact ab.out) hb) (Kd.R_below (kr ad.out) hb) (bb a3 hb) (bb a4 hb) (bb a6 hb) (bb a7 hb) (below_step (bf HB.out) hb) ?_; clear a5 aa ab ad a3 a4 a6 a7 HB; intro a5 aa ab ad a3 a4 a6 a7 HB; (try clear hb); (try clear hb2); (try clear hk); (try clear hi); refine hK.out _ _ ⟨bc a3 0, HS1_⟩ (fun hHeld => ?_); clear hK K; refine nm 35 ?_; refine o1 6 (some 8) (fb 8 127) HT_ (fun K hK => ?_); refine bst 8 122 (#[.bool false, .string (⟨#[]⟩ : ByteArray), .bool false]) ?_; intro a2 hg w90 hbox hb; have HS1_ := (hb.cell (World.block_lt_of_cell? _ _ (hHeld.2))).trans (hHeld.2); refine Ya20 (Kd.R_below (kr a5.out) hb) (Kd.V_below (Kd.V_elderB (by (with_reducible repeat (first | apply Kd.V_alloc | apply Kd.V_drewN | apply Kd.V_drew)); exact aa.out) a2 (Nat.le_of_eq hg.symm)) hb) (Kd.V_below (Kd.V_elderB (by (with_reducible repeat (first | apply Kd.V_alloc | apply Kd.V_drewN | apply Kd.V_drew)); exact ab.out) a2 (Nat.le_of_eq hg.symm)) hb) (Kd.R_below (kr ad.out) hb) (bb a3 hb) (bb a4 hb) (bb a6 hb) (bb a7 hb) (below_step (bf HB.out) hb) (hbox) (bs hg (bf HB.out)) (bs hg (bf HB.out)) (bl hg a3) (br hg a3) (bl hg a4) (br hg a4) (bl hg a6) (br hg a6) (bl hg a7) (br hg a7) ?_; clear a5 aa ab ad a3 a4 a6 a7 HB; intro a5 aa ab ad a3 a4 a6 a7 HB a9 bG bH aW ba b1 bd b2 bg aZ b7; clear hb hbox hg; refine hK.out _ _ ⟨bc a3 0, HS1_⟩ (fun hHeld => ?_); clear hK K; refine nm 8 ?_; exact nc (hCont (a2) _ ⟨hHeld, (kr a5.out), (by (with_reducible repeat (first | apply Kd.V_alloc | apply Kd.V_drewN | apply Kd.V_drew)); exact Kd.V_mono aa.out (fun _ hk => ⟨hk.1.1, ⟨hk.1.2.1, ⟨hk.1.2.2.1, ⟨hk.1.2.2.2.1, ⟨hk.1.2.2.2.2.1, ⟨hk.1.2.2.2.2.2.1, ⟨hk.1.2.2.2.2.2.2, hk.2⟩⟩⟩⟩⟩⟩⟩)), (by (with_reducible repeat (first | apply Kd.V_alloc | apply Kd.V_drewN | apply Kd.V_drew)); exact Kd.V_mono ab.out (fun _ hk => ⟨hk.1.1, ⟨hk.1.2.1, ⟨hk.1.2.2.1, ⟨hk.1.2.2.2.1, ⟨hk.1.2.2.2.2.1, ⟨hk.1.2.2.2.2.2.1, ⟨hk.1.2.2.2.2.2.2, hk.2⟩⟩⟩⟩⟩⟩⟩)), (kr ad.out), (bk a3.out), (bk a4.out), (bk a6.out), (bk a7.out), (bk a9.out), bG.out, bH.out, aW.out, ba.out, b1.out, bd.out, b2.out, bg.out, aZ.out, b7.out, (bf HB.out)⟩)
          ·skip
           refine bst 8 122 (#[.bool false, .string (⟨#[]⟩ : ByteArray), .bool false]) ?_; intro a2 hg w89 hbox hb; have HS1_ := (hb.cell (World.block_lt_of_cell? _ _ (hHeld.2))).trans (hHeld.2); refine Ya20 (Kd.R_below (kr a5.out) hb) (Kd.V_below (Kd.V_elderB (by (with_reducible repeat (first | apply Kd.V_alloc | apply Kd.V_drewN | apply Kd.V_drew)); exact aa.out) a2 (Nat.le_of_eq hg.symm)) hb) (Kd.V_below (Kd.V_elderB (by (with_reducible repeat (first | apply Kd.V_alloc | apply Kd.V_drewN | apply Kd.V_drew)); exact ab.out) a2 (Nat.le_of_eq hg.symm)) hb) (Kd.R_below (kr ad.out) hb) (bb a3 hb) (bb a4 hb) (bb a6 hb) (bb a7 hb) (below_step (bf HB.out) hb) (hbox) (bs hg (bf HB.out)) (bs hg (bf HB.out)) (bl hg a3) (br hg a3) (bl hg a4) (br hg a4) (bl hg a6) (br hg a6) (bl hg a7) (br hg a7) ?_; clear a5 aa ab ad a3 a4 a6 a7 HB; intro a5 aa ab ad a3 a4 a6 a7 HB a9 bG bH aW ba b1 bd b2 bg aZ b7; clear hb hbox hg; refine hK.out _ _ ⟨bc a3 0, HS1_⟩ (fun hHeld => ?_); clear hK K; refine nm 8 ?_; refine o1 5 (some 35) (fb 8 127) HT_ (fun K hK => ?_); refine gs _ (#[.agg #[.slice au ae.length ar], .string (rdOf ByteArray.empty ac ah)]) Tryd.func97 ?_; (with_reducible refine (spec_l6At.calls k2 _ _ ae (rdOf ByteArray.empty ac ah) an ao ap _ ?side1 ?side2 cq.out).mono ?_); (case side1 => repeat (first | exact (Kd.V_reads' aa.out).2.2 | (with_reducible refine Kd.C_alloc ?_ _) | (with_reducible refine Kd.C_drewN ?_ _) | (with_reducible refine Kd.C_drew ?_))); (case side2 => exact (Kd.V_reads' aa.out).2.1); rintro e w90 ⟨rfl, hb⟩; have HS1_ := (hb.cell (World.block_lt_of_cell? _ _ (hHeld.2))).trans (hHeld.2); refine ⟨_, rfl, ?_⟩; refine Ya10 (Kd.R_below (kr a5.out) hb) (Kd.V_below (by (with_reducible repeat (first | apply Kd.V_alloc | apply Kd.V_drewN | apply Kd.V_drew)); exact aa.out) hb) (Kd.V_below (by (with_reducible repeat (first | apply Kd.V_alloc | apply Kd.V_drewN | apply Kd.V_drew)); exact ab.out) hb) (Kd.R_below (kr ad.out) hb) (bb a3 hb) (bb a4 hb) (bb a6 hb) (bb a7 hb) (bb a9 hb) (below_step (bf HB.out) hb) ?_; clear a5 aa ab ad a3 a4 a6 a7 a9 HB; intro a5 aa ab ad a3 a4 a6 a7 a9 HB; (try clear hb); (try clear hb2); (try clear hk); (try clear hi); refine hK.out _ _ ⟨bc a3 0, HS1_⟩ (fun hHeld => ?_); clear hK K; refine nm 35 ?_; exact nc (hCont (a2) _ ⟨hHeld, (kr a5.out), (by (with_reducible repeat (first | apply Kd.V_alloc | apply Kd.V_drewN | apply Kd.V_drew)); exact Kd.V_mono aa.out (fun _ hk => ⟨hk.1.1, ⟨hk.1.2.1, ⟨hk.1.2.2.1, ⟨hk.1.2.2.2.1, ⟨hk.1.2.2.2.2.1, ⟨hk.1.2.2.2.2.2.1, ⟨hk.1.2.2.2.2.2.2, hk.2⟩⟩⟩⟩⟩⟩⟩)), (by (with_reducible repeat (first | apply Kd.V_alloc | apply Kd.V_drewN | apply Kd.V_drew)); exact Kd.V_mono ab.out (fun _ hk => ⟨hk.1.1, ⟨hk.1.2.1, ⟨hk.1.2.2.1, ⟨hk.1.2.2.2.1, ⟨hk.1.2.2.2.2.1, ⟨hk.1.2.2.2.2.2.1, ⟨hk.1.2.2.2.2.2.2, hk.2⟩⟩⟩⟩⟩⟩⟩)), (kr ad.out), (bk a3.out), (bk a4.out), (bk a6.out), (bk a7.out), (bk a9.out), bG.out, bH.out, aW.out, ba.out, b1.out, bd.out, b2.out, bg.out, aZ.out, b7.out, (bf HB.out)⟩)
         rintro a2 aV ⟨hS_, h0_, h1_, h2_, h3_, h4_, h5_, h6_, h7_, h8_, h9_, h10_, h11_, h12_, h13_, h14_, h15_, h16_, h17_, h18_, h19_⟩
         have aH : Aside0 (Kd.R Kd.string 9 aV w.heap.size (fun k_ => (w.heap.size ≤ k_)) (.slice (some aq) ac.length b6) ac) := ⟨h0_⟩
         have aI : Aside0 (Kd.V k37 37 aV w.heap.size (fun k_ => ((P0_0_ k_ ∨ P1_0_ k_) ∨ w.heap.size ≤ k_) ∧ some k_ ≠ (.slice (some aq) ac.length b6 : Value).ownBlock ∧ some k_ ≠ (am : Value).ownBlock ∧ k_ ≠ ai ∧ k_ ≠ aj ∧ k_ ≠ ak ∧ k_ ≠ ag ∧ k_ ≠ a2) (.slice au ae.length ar) ae) := ⟨h1_⟩
         have aJ : Aside0 (Kd.V k37 37 aV w.heap.size (fun k_ => ((P0_0_ k_ ∨ P1_0_ k_) ∨ w.heap.size ≤ k_) ∧ some k_ ≠ (.slice (some aq) ac.length b6 : Value).ownBlock ∧ some k_ ≠ (am : Value).ownBlock ∧ k_ ≠ ai ∧ k_ ≠ aj ∧ k_ ≠ ak ∧ k_ ≠ ag ∧ k_ ≠ a2) (.slice av af.length aw) af) := ⟨h2_⟩
         have aK : Aside0 (Kd.R k125 125 aV w.heap.size (fun k_ => (w.heap.size ≤ k_)) am aD) := ⟨h3_⟩
         have aM : Aside0 (aV.heap[ai]? = some (.cells #[.slice au ae.length ar] 28 (0, 0))) := ⟨h4_⟩
         have aN : Aside0 (aV.heap[aj]? = some (.cells #[.slice av af.length aw] 28 (0, 0))) := ⟨h5_⟩
         have aQ : Aside0 (aV.heap[ak]? = some (.cells #[.slice none 0 0] 56 (0, 0))) := ⟨h6_⟩
         have aR : Aside0 (aV.heap[ag]? = some (.cells #[am] 56 (0, 0))) := ⟨h7_⟩
         have aT : Aside0 (aV.heap[a2]? = some (.cells #[.bool false, .string (⟨#[]⟩ : ByteArray), .bool false] 122 (0, 0))) := ⟨h8_⟩
         have aU : Aside0 (w.heap.size ≤ a2) := ⟨h9_⟩
         have b3 : Aside0 (w.heap.size ≤ a2) := ⟨h10_⟩
         have bq : Aside0 (ai ≠ a2) := ⟨h11_⟩
         have bu : Aside0 (a2 ≠ ai) := ⟨h12_⟩
         have bv : Aside0 (aj ≠ a2) := ⟨h13_⟩
         have bw : Aside0 (a2 ≠ aj) := ⟨h14_⟩
         have bz : Aside0 (ak ≠ a2) := ⟨h15_⟩
         have bA : Aside0 (a2 ≠ ak) := ⟨h16_⟩
         have bB : Aside0 (ag ≠ a2) := ⟨h17_⟩
         have bC : Aside0 (a2 ≠ ag) := ⟨h18_⟩
         have bD : Aside0 (Below w.heap.size w aV) := ⟨h19_⟩
         clear a5; clear aa; clear ab; clear ad; clear a3; clear a4; clear a6; clear a7; clear HB; clear h0_ h1_ h2_ h3_ h4_ h5_ h6_ h7_ h8_ h9_ h10_ h11_ h12_ h13_ h14_ h15_ h16_ h17_ h18_ h19_; have a5 := aH; have aa := aI; have ab := aJ; have ad := aK; have a3 := aM; have a4 := aN; have a6 := aQ; have a7 := aR; have a9 := aT; have bG := aU; have bH := b3; have aW := bq; have ba := bu; have b1 := bv; have bd := bw; have b2 := bz; have bg := bA; have aZ := bB; have b7 := bC; have HB := bD; clear aH aI aJ aK aM aN aQ aR aT aU b3 bq bu bv bw bz bA bB bC bD; have hHeld : aV.cell? ⟨ai, 0, none⟩ = some (.slice au ae.length ar) ∧ aV.cell? (aq.add (ah).toNat) = some (.string (rdOf ByteArray.empty ac ah)) := hS_; refine norm_ (a' := ?_) ?_ ?_; rotate_left
         ·simp only [putAll, Act.put, List.setIfInBounds_toArray, List.set_cons_zero, List.set_cons_succ]; rfl
         refine o1 7 none (fb 8 255) HT_ (fun K hK => ?_); have ⟨hs92, hs93, hs94, hfs92, hfs93, hfs94⟩ := Yc3 a9.out; have e2 := aW.out; have e3 := b1.out; have e4 := b2.out; have e5 := aZ.out; have e6 := ba.out; have e7 := bd.out; have e8 := bg.out; have e9 := b7.out; refine skip_ (w1 := ?_) (by rfl) rfl ?_ ?_; rotate_left
         ·go_simp; rfl
         refine hK.out _ _ ⟨((cell_far (p := ⟨a2, _, none⟩) aW.out _).trans (((cell_far (p := ⟨a2, _, none⟩) aW.out _).trans (((cell_far (p := ⟨a2, _, none⟩) aW.out _).trans (hHeld.1)))))), ((cell_far (p := ⟨a2, _, none⟩) (by first | exact Kd.own_blk (Kd.R_ne a5.out a9.out (by decide)) | (rw [add_block]; exact Kd.own_blk (Kd.R_ne a5.out a9.out (by decide))) | (show (Addr.add _ _).block ≠ _; rw [add_block]; exact Kd.own_blk (Kd.R_ne a5.out a9.out (by decide))) | (dsimp only; exact Kd.own_blk (Kd.R_ne a5.out a9.out (by decide)))) _).trans (((cell_far (p := ⟨a2, _, none⟩) (by first | exact Kd.own_blk (Kd.R_ne a5.out a9.out (by decide)) | (rw [add_block]; exact Kd.own_blk (Kd.R_ne a5.out a9.out (by decide))) | (show (Addr.add _ _).block ≠ _; rw [add_block]; exact Kd.own_blk (Kd.R_ne a5.out a9.out (by decide))) | (dsimp only; exact Kd.own_blk (Kd.R_ne a5.out a9.out (by decide)))) _).trans (((cell_far (p := ⟨a2, _, none⟩) (by first | exact Kd.own_blk (Kd.R_ne a5.out a9.out (by decide)) | (rw [add_block]; exact Kd.own_blk (Kd.R_ne a5.out a9.out (by decide))) | (show (Addr.add _ _).block ≠ _; rw [add_block]; exact Kd.own_blk (Kd.R_ne a5.out a9.out (by decide))) | (dsimp only; exact Kd.own_blk (Kd.R_ne a5.out a9.out (by decide)))) _).trans (hHeld.2))))))⟩ (fun hHeld => ?_); clear hK K; refine done_ (done_of HT_.out (by kernel_rfl)) ?_
         try go_wp2
         have aH : Aside0 (Kd.R Kd.string 9 (((aV.setCell ⟨a2, 0, none⟩ (.bool an)).setCell ⟨a2, 1, none⟩ (.string ao)).setCell ⟨a2, 2, none⟩ (.bool ap)) w.heap.size (fun k_ => (w.heap.size ≤ k_)) (.slice (some aq) ac.length b6) ac) := ⟨rf a5 a9⟩
         have aI : Aside0 (Kd.V k37 37 (((aV.setCell ⟨a2, 0, none⟩ (.bool an)).setCell ⟨a2, 1, none⟩ (.string ao)).setCell ⟨a2, 2, none⟩ (.bool ap)) w.heap.size (fun k_ => ((P0_0_ k_ ∨ P1_0_ k_) ∨ w.heap.size ≤ k_) ∧ some k_ ≠ (.slice (some aq) ac.length b6 : Value).ownBlock ∧ some k_ ≠ (am : Value).ownBlock ∧ k_ ≠ ai ∧ k_ ≠ aj ∧ k_ ≠ ak ∧ k_ ≠ ag ∧ k_ ≠ a2) (.slice au ae.length ar) ae) := ⟨by (with_reducible repeat (first | apply Kd.V_alloc | apply Kd.V_drewN | apply Kd.V_drew)); exact Kd.V_mono (Kd.V_far (p := ⟨a2, 2, none⟩) (Kd.V_far (p := ⟨a2, 1, none⟩) (Kd.V_far (p := ⟨a2, 0, none⟩) (Kd.V_mono aa.out (fun k_ hk => (⟨hk, hk.2.2.2.2.2.2.2⟩ : _ ∧ k_ ≠ a2))) (fun _ hk => hk.2) (.bool an)) (fun _ hk => hk.2) (.string ao)) (fun _ hk => hk.2) (.bool ap)) (fun _ hk => ⟨hk.1.1, ⟨hk.1.2.1, ⟨hk.1.2.2.1, ⟨hk.1.2.2.2.1, ⟨hk.1.2.2.2.2.1, ⟨hk.1.2.2.2.2.2.1, ⟨hk.1.2.2.2.2.2.2.1, hk.1.2.2.2.2.2.2.2⟩⟩⟩⟩⟩⟩⟩)⟩
         have aJ : Aside0 (Kd.V k37 37 (((aV.setCell ⟨a2, 0, none⟩ (.bool an)).setCell ⟨a2, 1, none⟩ (.string ao)).setCell ⟨a2, 2, none⟩ (.bool ap)) w.heap.size (fun k_ => ((P0_0_ k_ ∨ P1_0_ k_) ∨ w.heap.size ≤ k_) ∧ some k_ ≠ (.slice (some aq) ac.length b6 : Value).ownBlock ∧ some k_ ≠ (am : Value).ownBlock ∧ k_ ≠ ai ∧ k_ ≠ aj ∧ k_ ≠ ak ∧ k_ ≠ ag ∧ k_ ≠ a2) (.slice av af.length aw) af) := ⟨by (with_reducible repeat (first | apply Kd.V_alloc | apply Kd.V_drewN | apply Kd.V_drew)); exact Kd.V_mono (Kd.V_far (p := ⟨a2, 2, none⟩) (Kd.V_far (p := ⟨a2, 1, none⟩) (Kd.V_far (p := ⟨a2, 0, none⟩) (Kd.V_mono ab.out (fun k_ hk => (⟨hk, hk.2.2.2.2.2.2.2⟩ : _ ∧ k_ ≠ a2))) (fun _ hk => hk.2) (.bool an)) (fun _ hk => hk.2) (.string ao)) (fun _ hk => hk.2) (.bool ap)) (fun _ hk => ⟨hk.1.1, ⟨hk.1.2.1, ⟨hk.1.2.2.1, ⟨hk.1.2.2.2.1, ⟨hk.1.2.2.2.2.1, ⟨hk.1.2.2.2.2.2.1, ⟨hk.1.2.2.2.2.2.2.1, hk.1.2.2.2.2.2.2.2⟩⟩⟩⟩⟩⟩⟩)⟩
         have aK : Aside0 (Kd.R k125 125 (((aV.setCell ⟨a2, 0, none⟩ (.bool an)).setCell ⟨a2, 1, none⟩ (.string ao)).setCell ⟨a2, 2, none⟩ (.bool ap)) w.heap.size (fun k_ => (w.heap.size ≤ k_)) am aD) := ⟨rf ad a9⟩
         have aM : Aside0 ((((aV.setCell ⟨a2, 0, none⟩ (.bool an)).setCell ⟨a2, 1, none⟩ (.string ao)).setCell ⟨a2, 2, none⟩ (.bool ap)).heap[ai]? = some (.cells #[.slice au ae.length ar] 28 (0, 0))) := ⟨bkf a3.out aW.out⟩
         have aN : Aside0 ((((aV.setCell ⟨a2, 0, none⟩ (.bool an)).setCell ⟨a2, 1, none⟩ (.string ao)).setCell ⟨a2, 2, none⟩ (.bool ap)).heap[aj]? = some (.cells #[.slice av af.length aw] 28 (0, 0))) := ⟨bkf a4.out b1.out⟩
         have aQ : Aside0 ((((aV.setCell ⟨a2, 0, none⟩ (.bool an)).setCell ⟨a2, 1, none⟩ (.string ao)).setCell ⟨a2, 2, none⟩ (.bool ap)).heap[ak]? = some (.cells #[.slice none 0 0] 56 (0, 0))) := ⟨bkf a6.out b2.out⟩
         have aR : Aside0 ((((aV.setCell ⟨a2, 0, none⟩ (.bool an)).setCell ⟨a2, 1, none⟩ (.string ao)).setCell ⟨a2, 2, none⟩ (.bool ap)).heap[ag]? = some (.cells #[am] 56 (0, 0))) := ⟨bkf a7.out aZ.out⟩
         have aT : Aside0 ((((aV.setCell ⟨a2, 0, none⟩ (.bool an)).setCell ⟨a2, 1, none⟩ (.string ao)).setCell ⟨a2, 2, none⟩ (.bool ap)).heap[a2]? = some (.cells #[.bool an, .string ao, .bool ap] 122 (0, 0))) := ⟨bp a9.out⟩
         have aU : Aside0 (Below w.heap.size w (((aV.setCell ⟨a2, 0, none⟩ (.bool an)).setCell ⟨a2, 1, none⟩ (.string ao)).setCell ⟨a2, 2, none⟩ (.bool ap))) := ⟨bf HB.out⟩
         (try clear a5); (try clear aa); (try clear ab); (try clear ad); (try clear a3); (try clear a4); (try clear a6); (try clear a7); (try clear a9); (try clear HB); generalize (((aV.setCell ⟨a2, 0, none⟩ (.bool an)).setCell ⟨a2, 1, none⟩ (.string ao)).setCell ⟨a2, 2, none⟩ (.bool ap)) = w95 at aH aI aJ aK aM aN aQ aR aT aU ⊢; have a5 := aH; have aa := aI; have ab := aJ; have ad := aK; have a3 := aM; have a4 := aN; have a6 := aQ; have a7 := aR; have a9 := aT; have HB := aU; clear aH aI aJ aK aM aN aQ aR aT aU; refine Ya10 (Kd.R_drew a5.out) (Kd.V_drew aa.out) (Kd.V_drew ab.out) (Kd.R_drew ad.out) (blk_drew a3.out) (blk_drew a4.out) (blk_drew a6.out) (blk_drew a7.out) (blk_drew a9.out) (below_drew1 HB.out) ?_; clear a5 aa ab ad a3 a4 a6 a7 a9 HB; intro a5 aa ab ad a3 a4 a6 a7 a9 HB; have bP : 0 ≤ (ah : Int) := oda; have bQ : ah < (ac.length : Int) := oda; obtain ⟨cA, cB, cg⟩ := Kd.at_string (Kd.R_reads' a5.out).2.2 ah bP bQ
         obtain rfl : aq = cA := (by injection cB)
         replace bP := eq_true bP; replace bQ := eq_true bQ; refine start_ (n := 8) (S := fun w' => w'.cell? ⟨aj, 0, none⟩ = some (.slice av af.length aw) ∧ w'.cell? (aq.add (ah).toNat) = some (.string (rdOf ByteArray.empty ac ah))) (ds := []) (fb 8 0) (by kernel_rfl) rfl rfl ⟨bc a4 0, cg⟩ (fun hHeld => ?_); refine with_tabW spec_Diff.tab9 spec_Diff.bits9 (fun HT_ HW_ => ?_); generalize w95.drew = w96 at a5 aa ab ad a3 a4 a6 a7 a9 HB cg hHeld ⊢; refine pu 1 37 (fb 8 2) HT_ ?_; refine pu 2 38 (fb 8 6) HT_ ?_; refine pu 3 39 (fb 8 14) HT_ ?_; refine tk 0 36 (fb 8 15) HT_ HW_ hHeld ?_; refine tk 4 40 (fb 8 31) HT_ HW_ hHeld ?_; refine join_ (σ := Nat) 1 (fb 8 127) (fun s_ => [(41, .agg #[.bool ax, .string ay, .bool az]), (9, .pointer (some ⟨s_, 0, none⟩))]) (fun s_ w' => (w'.cell? ⟨aj, 0, none⟩ = some (.slice av af.length aw) ∧ w'.cell? (aq.add (ah).toNat) = some (.string (rdOf ByteArray.empty ac ah))) ∧ (Kd.R Kd.string 9 w' w.heap.size (fun k_ => (w.heap.size ≤ k_)) (.slice (some aq) ac.length b6) ac) ∧ (Kd.V k37 37 w' w.heap.size (fun k_ => ((P0_0_ k_ ∨ P1_0_ k_) ∨ w.heap.size ≤ k_) ∧ some k_ ≠ (.slice (some aq) ac.length b6 : Value).ownBlock ∧ some k_ ≠ (am : Value).ownBlock ∧ k_ ≠ ai ∧ k_ ≠ aj ∧ k_ ≠ ak ∧ k_ ≠ ag ∧ k_ ≠ a2 ∧ k_ ≠ s_) (.slice au ae.length ar) ae) ∧ (Kd.V k37 37 w' w.heap.size (fun k_ => ((P0_0_ k_ ∨ P1_0_ k_) ∨ w.heap.size ≤ k_) ∧ some k_ ≠ (.slice (some aq) ac.length b6 : Value).ownBlock ∧ some k_ ≠ (am : Value).ownBlock ∧ k_ ≠ ai ∧ k_ ≠ aj ∧ k_ ≠ ak ∧ k_ ≠ ag ∧ k_ ≠ a2 ∧ k_ ≠ s_) (.slice av af.length aw) af) ∧ (Kd.R k125 125 w' w.heap.size (fun k_ => (w.heap.size ≤ k_)) am aD) ∧ (w'.heap[ai]? = some (.cells #[.slice au ae.length ar] 28 (0, 0))) ∧ (w'.heap[aj]? = some (.cells #[.slice av af.length aw] 28 (0, 0))) ∧ (w'.heap[ak]? = some (.cells #[.slice none 0 0] 56 (0, 0))) ∧ (w'.heap[ag]? = some (.cells #[am] 56 (0, 0))) ∧ (w'.heap[a2]? = some (.cells #[.bool an, .string ao, .bool ap] 122 (0, 0))) ∧ (w'.heap[s_]? = some (.cells #[.bool false, .string (⟨#[]⟩ : ByteArray), .bool false] 122 (0, 0))) ∧ (w.heap.size ≤ s_) ∧ (w.heap.size ≤ s_) ∧ (ai ≠ s_) ∧ (s_ ≠ ai) ∧ (aj ≠ s_) ∧ (s_ ≠ aj) ∧ (ak ≠ s_) ∧ (s_ ≠ ak) ∧ (ag ≠ s_) ∧ (s_ ≠ ag) ∧ (a2 ≠ s_) ∧ (s_ ≠ a2) ∧ (Below w.heap.size w w')) ?_ ?_; rotate_left
         ·intro hCont; refine two_ (i := 5) (j := 6) (Ni := some 41) (Nj := some 9) (fb 8 63) (fb 8 95) rfl rfl rfl rfl (two_of HT_.out (by kernel_rfl)) (by decide) (by decide) (fun K hK => ?_) (fun K hK => ?_)
          ·skip
           refine gs _ (#[.agg #[.slice av af.length aw], .string (rdOf ByteArray.empty ac ah)]) Tryd.func97 ?_; (with_reducible refine (spec_l6At.calls k2 _ _ af (rdOf ByteArray.empty ac ah) ax ay az _ ?side1 ?side2 cr.out).mono ?_); (case side1 => repeat (first | exact (Kd.V_reads' ab.out).2.2 | (with_reducible refine Kd.C_alloc ?_ _) | (with_reducible refine Kd.C_drewN ?_ _) | (with_reducible refine Kd.C_drew ?_))); (case side2 => exact (Kd.V_reads' ab.out).2.1); rintro e w97 ⟨rfl, hb⟩; have HS1_ := (hb.cell (World.block_lt_of_cell? _ _ (hHeld.2))).trans (hHeld.2); refine ⟨_, rfl, ?_⟩; refine Ya10 (Kd.R_below (kr a5.out) hb) (Kd.V_below (by (with_reducible repeat (first | apply Kd.V_alloc | apply Kd.V_drewN | apply Kd.V_drew)); exact aa.out) hb) (Kd.V_below (by (with_reducible repeat (first | apply Kd.V_alloc | apply Kd.V_drewN | apply Kd.V_drew)); exact ab.out) hb) (Kd.R_below (kr ad.out) hb) (bb a3 hb) (bb a4 hb) (bb a6 hb) (bb a7 hb) (bb a9 hb) (below_step (bf HB.out) hb) ?_; clear a5 aa ab ad a3 a4 a6 a7 a9 HB; intro a5 aa ab ad a3 a4 a6 a7 a9 HB; (try clear hb); (try clear hb2); (try clear hk); (try clear hi); refine hK.out _ _ ⟨bc a4 0, HS1_⟩ (fun hHeld => ?_); clear hK K; refine nm 41 ?_; refine o1 6 (some 9) (fb 8 127) HT_ (fun K hK => ?_); refine bst 9 122 (#[.bool false, .string (⟨#[]⟩ : ByteArray), .bool false]) ?_; intro a8 hg w98 hbox hb; have HS1_ := (hb.cell (World.block_lt_of_cell? _ _ (hHeld.2))).trans (hHeld.2); refine Ya23 (Kd.R_below (kr a5.out) hb) (Kd.V_below (Kd.V_elderB (by (with_reducible repeat (first | apply Kd.V_alloc | apply Kd.V_drewN | apply Kd.V_drew)); exact aa.out) a8 (Nat.le_of_eq hg.symm)) hb) (Kd.V_below (Kd.V_elderB (by (with_reducible repeat (first | apply Kd.V_alloc | apply Kd.V_drewN | apply Kd.V_drew)); exact ab.out) a8 (Nat.le_of_eq hg.symm)) hb) (Kd.R_below (kr ad.out) hb) (bb a3 hb) (bb a4 hb) (bb a6 hb) (bb a7 hb) (bb a9 hb) (below_step (bf HB.out) hb) (hbox) (bs hg (bf HB.out)) (bs hg (bf HB.out)) (bl hg a3) (br hg a3) (bl hg a4) (br hg a4) (bl hg a6) (br hg a6) (bl hg a7) (br hg a7) (bl hg a9) (br hg a9) ?_; clear a5 aa ab ad a3 a4 a6 a7 a9 HB; intro a5 aa ab ad a3 a4 a6 a7 a9 HB al bI bJ b4 bh aX bi b5 bj b0 b8 b9 bm; clear hb hbox hg; refine hK.out _ _ ⟨bc a4 0, HS1_⟩ (fun hHeld => ?_); clear hK K; refine nm 9 ?_; exact nc (hCont (a8) _ ⟨hHeld, (kr a5.out), (by (with_reducible repeat (first | apply Kd.V_alloc | apply Kd.V_drewN | apply Kd.V_drew)); exact Kd.V_mono aa.out (fun _ hk => ⟨hk.1.1, ⟨hk.1.2.1, ⟨hk.1.2.2.1, ⟨hk.1.2.2.2.1, ⟨hk.1.2.2.2.2.1, ⟨hk.1.2.2.2.2.2.1, ⟨hk.1.2.2.2.2.2.2.1, ⟨hk.1.2.2.2.2.2.2.2, hk.2⟩⟩⟩⟩⟩⟩⟩⟩)), (by (with_reducible repeat (first | apply Kd.V_alloc | apply Kd.V_drewN | apply Kd.V_drew)); exact Kd.V_mono ab.out (fun _ hk => ⟨hk.1.1, ⟨hk.1.2.1, ⟨hk.1.2.2.1, ⟨hk.1.2.2.2.1, ⟨hk.1.2.2.2.2.1, ⟨hk.1.2.2.2.2.2.1, ⟨hk.1.2.2.2.2.2.2.1, ⟨hk.1.2.2.2.2.2.2.2, hk.2⟩⟩⟩⟩⟩⟩⟩⟩)), (kr ad.out), (bk a3.out), (bk a4.out), (bk a6.out), (bk a7.out), (bk a9.out), (bk al.out), bI.out, bJ.out, b4.out, bh.out, aX.out, bi.out, b5.out, bj.out, b0.out, b8.out, b9.out, bm.out, (bf HB.out)⟩)
          ·skip
           refine bst 9 122 (#[.bool false, .string (⟨#[]⟩ : ByteArray), .bool false]) ?_; intro a8 hg w97 hbox hb; have HS1_ := (hb.cell (World.block_lt_of_cell? _ _ (hHeld.2))).trans (hHeld.2); refine Ya23 (Kd.R_below (kr a5.out) hb) (Kd.V_below (Kd.V_elderB (by (with_reducible repeat (first | apply Kd.V_alloc | apply Kd.V_drewN | apply Kd.V_drew)); exact aa.out) a8 (Nat.le_of_eq hg.symm)) hb) (Kd.V_below (Kd.V_elderB (by (with_reducible repeat (first | apply Kd.V_alloc | apply Kd.V_drewN | apply Kd.V_drew)); exact ab.out) a8 (Nat.le_of_eq hg.symm)) hb) (Kd.R_below (kr ad.out) hb) (bb a3 hb) (bb a4 hb) (bb a6 hb) (bb a7 hb) (bb a9 hb) (below_step (bf HB.out) hb) (hbox) (bs hg (bf HB.out)) (bs hg (bf HB.out)) (bl hg a3) (br hg a3) (bl hg a4) (br hg a4) (bl hg a6) (br hg a6) (bl hg a7) (br hg a7) (bl hg a9) (br hg a9) ?_; clear a5 aa ab ad a3 a4 a6 a7 a9 HB; intro a5 aa ab ad a3 a4 a6 a7 a9 HB al bI bJ b4 bh aX bi b5 bj b0 b8 b9 bm; clear hb hbox hg; refine hK.out _ _ ⟨bc a4 0, HS1_⟩ (fun hHeld => ?_); clear hK K; refine nm 9 ?_; refine o1 5 (some 41) (fb 8 127) HT_ (fun K hK => ?_); refine gs _ (#[.agg #[.slice av af.length aw], .string (rdOf ByteArray.empty ac ah)]) Tryd.func97 ?_; (with_reducible refine (spec_l6At.calls k2 _ _ af (rdOf ByteArray.empty ac ah) ax ay az _ ?side1 ?side2 cr.out).mono ?_); (case side1 => repeat (first | exact (Kd.V_reads' ab.out).2.2 | (with_reducible refine Kd.C_alloc ?_ _) | (with_reducible refine Kd.C_drewN ?_ _) | (with_reducible refine Kd.C_drew ?_))); (case side2 => exact (Kd.V_reads' ab.out).2.1); rintro e w98 ⟨rfl, hb⟩; have HS1_ := (hb.cell (World.block_lt_of_cell? _ _ (hHeld.2))).trans (hHeld.2); refine ⟨_, rfl, ?_⟩; refine Ya11 (Kd.R_below (kr a5.out) hb) (Kd.V_below (by (with_reducible repeat (first | apply Kd.V_alloc | apply Kd.V_drewN | apply Kd.V_drew)); exact aa.out) hb) (Kd.V_below (by (with_reducible repeat (first | apply Kd.V_alloc | apply Kd.V_drewN | apply Kd.V_drew)); exact ab.out) hb) (Kd.R_below (kr ad.out) hb) (bb a3 hb) (bb a4 hb) (bb a6 hb) (bb a7 hb) (bb a9 hb) (bb al hb) (below_step (bf HB.out) hb) ?_; clear a5 aa ab ad a3 a4 a6 a7 a9 al HB; intro a5 aa ab ad a3 a4 a6 a7 a9 al HB; (try clear hb); (try clear hb2); (try clear hk); (try clear hi); refine hK.out _ _ ⟨bc a4 0, HS1_⟩ (fun hHeld => ?_); clear hK K; refine nm 41 ?_; exact nc (hCont (a8) _ ⟨hHeld, (kr a5.out), (by (with_reducible repeat (first | apply Kd.V_alloc | apply Kd.V_drewN | apply Kd.V_drew)); exact Kd.V_mono aa.out (fun _ hk => ⟨hk.1.1, ⟨hk.1.2.1, ⟨hk.1.2.2.1, ⟨hk.1.2.2.2.1, ⟨hk.1.2.2.2.2.1, ⟨hk.1.2.2.2.2.2.1, ⟨hk.1.2.2.2.2.2.2.1, ⟨hk.1.2.2.2.2.2.2.2, hk.2⟩⟩⟩⟩⟩⟩⟩⟩)), (by (with_reducible repeat (first | apply Kd.V_alloc | apply Kd.V_drewN | apply Kd.V_drew)); exact Kd.V_mono ab.out (fun _ hk => ⟨hk.1.1, ⟨hk.1.2.1, ⟨hk.1.2.2.1, ⟨hk.1.2.2.2.1, ⟨hk.1.2.2.2.2.1, ⟨hk.1.2.2.2.2.2.1, ⟨hk.1.2.2.2.2.2.2.1, ⟨hk.1.2.2.2.2.2.2.2, hk.2⟩⟩⟩⟩⟩⟩⟩⟩)), (kr ad.out), (bk a3.out), (bk a4.out), (bk a6.out), (bk a7.out), (bk a9.out), (bk al.out), bI.out, bJ.out, b4.out, bh.out, aX.out, bi.out, b5.out, bj.out, b0.out, b8.out, b9.out, bm.out, (bf HB.out)⟩)
         rintro a8 bn ⟨hS_, h0_, h1_, h2_, h3_, h4_, h5_, h6_, h7_, h8_, h9_, h10_, h11_, h12_, h13_, h14_, h15_, h16_, h17_, h18_, h19_, h20_, h21_, h22_⟩
         have aH : Aside0 (Kd.R Kd.string 9 bn w.heap.size (fun k_ => (w.heap.size ≤ k_)) (.slice (some aq) ac.length b6) ac) := ⟨h0_⟩
         have aI : Aside0 (Kd.V k37 37 bn w.heap.size (fun k_ => ((P0_0_ k_ ∨ P1_0_ k_) ∨ w.heap.size ≤ k_) ∧ some k_ ≠ (.slice (some aq) ac.length b6 : Value).ownBlock ∧ some k_ ≠ (am : Value).ownBlock ∧ k_ ≠ ai ∧ k_ ≠ aj ∧ k_ ≠ ak ∧ k_ ≠ ag ∧ k_ ≠ a2 ∧ k_ ≠ a8) (.slice au ae.length ar) ae) := ⟨h1_⟩
         have aJ : Aside0 (Kd.V k37 37 bn w.heap.size (fun k_ => ((P0_0_ k_ ∨ P1_0_ k_) ∨ w.heap.size ≤ k_) ∧ some k_ ≠ (.slice (some aq) ac.length b6 : Value).ownBlock ∧ some k_ ≠ (am : Value).ownBlock ∧ k_ ≠ ai ∧ k_ ≠ aj ∧ k_ ≠ ak ∧ k_ ≠ ag ∧ k_ ≠ a2 ∧ k_ ≠ a8) (.slice av af.length aw) af) := ⟨h2_⟩
         have aK : Aside0 (Kd.R k125 125 bn w.heap.size (fun k_ => (w.heap.size ≤ k_)) am aD) := ⟨h3_⟩
         have aM : Aside0 (bn.heap[ai]? = some (.cells #[.slice au ae.length ar] 28 (0, 0))) := ⟨h4_⟩
         have aN : Aside0 (bn.heap[aj]? = some (.cells #[.slice av af.length aw] 28 (0, 0))) := ⟨h5_⟩
         have aQ : Aside0 (bn.heap[ak]? = some (.cells #[.slice none 0 0] 56 (0, 0))) := ⟨h6_⟩
         have aR : Aside0 (bn.heap[ag]? = some (.cells #[am] 56 (0, 0))) := ⟨h7_⟩
         have aT : Aside0 (bn.heap[a2]? = some (.cells #[.bool an, .string ao, .bool ap] 122 (0, 0))) := ⟨h8_⟩
         have aU : Aside0 (bn.heap[a8]? = some (.cells #[.bool false, .string (⟨#[]⟩ : ByteArray), .bool false] 122 (0, 0))) := ⟨h9_⟩
         have b3 : Aside0 (w.heap.size ≤ a8) := ⟨h10_⟩
         have bq : Aside0 (w.heap.size ≤ a8) := ⟨h11_⟩
         have bu : Aside0 (ai ≠ a8) := ⟨h12_⟩
         have bv : Aside0 (a8 ≠ ai) := ⟨h13_⟩
         have bw : Aside0 (aj ≠ a8) := ⟨h14_⟩
         have bz : Aside0 (a8 ≠ aj) := ⟨h15_⟩
         have bA : Aside0 (ak ≠ a8) := ⟨h16_⟩
         have bB : Aside0 (a8 ≠ ak) := ⟨h17_⟩
         have bC : Aside0 (ag ≠ a8) := ⟨h18_⟩
         have bD : Aside0 (a8 ≠ ag) := ⟨h19_⟩
         have ch : Aside0 (a2 ≠ a8) := ⟨h20_⟩
         have ci : Aside0 (a8 ≠ a2) := ⟨h21_⟩
         have cj : Aside0 (Below w.heap.size w bn) := ⟨h22_⟩
         clear a5; clear aa; clear ab; clear ad; clear a3; clear a4; clear a6; clear a7; clear a9; clear HB; clear h0_ h1_ h2_ h3_ h4_ h5_ h6_ h7_ h8_ h9_ h10_ h11_ h12_ h13_ h14_ h15_ h16_ h17_ h18_ h19_ h20_ h21_ h22_; have a5 := aH; have aa := aI; have ab := aJ; have ad := aK; have a3 := aM; have a4 := aN; have a6 := aQ; have a7 := aR; have a9 := aT; have al := aU; have bI := b3; have bJ := bq; have b4 := bu; have bh := bv; have aX := bw; have bi := bz; have b5 := bA; have bj := bB; have b0 := bC; have b8 := bD; have b9 := ch; have bm := ci; have HB := cj; clear aH aI aJ aK aM aN aQ aR aT aU b3 bq bu bv bw bz bA bB bC bD ch ci cj; have hHeld : bn.cell? ⟨aj, 0, none⟩ = some (.slice av af.length aw) ∧ bn.cell? (aq.add (ah).toNat) = some (.string (rdOf ByteArray.empty ac ah)) := hS_; refine norm_ (a' := ?_) ?_ ?_; rotate_left
         ·simp only [putAll, Act.put, List.setIfInBounds_toArray, List.set_cons_zero, List.set_cons_succ]; rfl
         refine o1 7 none (fb 8 255) HT_ (fun K hK => ?_); have ⟨hs100, hs101, hs102, ea, eb, ec⟩ := Yc3 al.out; have ed := b4.out; have ee := aX.out; have ef := b5.out; have eg := b0.out; have eh := b9.out; have ei := bh.out; have ej := bi.out; have ek := bj.out; have el := b8.out; have em := bm.out; refine skip_ (w1 := ?_) (by rfl) rfl ?_ ?_; rotate_left
         ·go_simp; rfl
         refine hK.out _ _ ⟨((cell_far (p := ⟨a8, _, none⟩) aX.out _).trans (((cell_far (p := ⟨a8, _, none⟩) aX.out _).trans (((cell_far (p := ⟨a8, _, none⟩) aX.out _).trans (hHeld.1)))))), ((cell_far (p := ⟨a8, _, none⟩) (by first | exact Kd.own_blk (Kd.R_ne a5.out al.out (by decide)) | (rw [add_block]; exact Kd.own_blk (Kd.R_ne a5.out al.out (by decide))) | (show (Addr.add _ _).block ≠ _; rw [add_block]; exact Kd.own_blk (Kd.R_ne a5.out al.out (by decide))) | (dsimp only; exact Kd.own_blk (Kd.R_ne a5.out al.out (by decide)))) _).trans (((cell_far (p := ⟨a8, _, none⟩) (by first | exact Kd.own_blk (Kd.R_ne a5.out al.out (by decide)) | (rw [add_block]; exact Kd.own_blk (Kd.R_ne a5.out al.out (by decide))) | (show (Addr.add _ _).block ≠ _; rw [add_block]; exact Kd.own_blk (Kd.R_ne a5.out al.out (by decide))) | (dsimp only; exact Kd.own_blk (Kd.R_ne a5.out al.out (by decide)))) _).trans (((cell_far (p := ⟨a8, _, none⟩) (by first | exact Kd.own_blk (Kd.R_ne a5.out al.out (by decide)) | (rw [add_block]; exact Kd.own_blk (Kd.R_ne a5.out al.out (by decide))) | (show (Addr.add _ _).block ≠ _; rw [add_block]; exact Kd.own_blk (Kd.R_ne a5.out al.out (by decide))) | (dsimp only; exact Kd.own_blk (Kd.R_ne a5.out al.out (by decide)))) _).trans (hHeld.2))))))⟩ (fun hHeld => ?_); clear hK K; refine done_ (done_of HT_.out (by kernel_rfl)) ?_; have en := ba.out; have eo := aW.out; have ep := bd.out; have eq := b1.out; have er := bg.out; have es := b2.out; have et := b7.out; have eu := aZ.out; have ev := b9.out; have ew := bm.out; have ⟨ex, ey, ez, eA, eB, eC⟩ := Yc3 a9.out; have eD := bh.out; have eE := b4.out; have eF := bi.out; have eG := aX.out; have eH := bj.out; have eI := b5.out; have eJ := b8.out; have eK := b0.out; have ⟨eL, eM, eN, eO, eP, eQ⟩ := Yc3 al.out
         try go_wp2
         go_roundg k2
         case measure => have := HJ2.out; have := HK2.out; omega
         case rel => exact ⟨(wrap64 (ah + 1)), (aD), (am), Ye1, H', ⟨by have := HJ2.out; have := HK2.out; omega⟩, ⟨rf a5 al⟩, ⟨by (with_reducible repeat (first | apply Kd.V_alloc | apply Kd.V_drewN | apply Kd.V_drew)); exact Kd.V_mono (Kd.V_far (p := ⟨a8, 2, none⟩) (Kd.V_far (p := ⟨a8, 1, none⟩) (Kd.V_far (p := ⟨a8, 0, none⟩) (Kd.V_mono aa.out (fun k_ hk => (⟨hk, hk.2.2.2.2.2.2.2.2⟩ : _ ∧ k_ ≠ a8))) (fun _ hk => hk.2) (.bool ax)) (fun _ hk => hk.2) (.string ay)) (fun _ hk => hk.2) (.bool az)) (fun _ hk => ⟨hk.1.1, ⟨hk.1.2.1, ⟨hk.1.2.2.1, ⟨hk.1.2.2.2.1, ⟨hk.1.2.2.2.2.1, ⟨hk.1.2.2.2.2.2.1, hk.1.2.2.2.2.2.2.1⟩⟩⟩⟩⟩⟩)⟩, ⟨by (with_reducible repeat (first | apply Kd.V_alloc | apply Kd.V_drewN | apply Kd.V_drew)); exact Kd.V_mono (Kd.V_far (p := ⟨a8, 2, none⟩) (Kd.V_far (p := ⟨a8, 1, none⟩) (Kd.V_far (p := ⟨a8, 0, none⟩) (Kd.V_mono ab.out (fun k_ hk => (⟨hk, hk.2.2.2.2.2.2.2.2⟩ : _ ∧ k_ ≠ a8))) (fun _ hk => hk.2) (.bool ax)) (fun _ hk => hk.2) (.string ay)) (fun _ hk => hk.2) (.bool az)) (fun _ hk => ⟨hk.1.1, ⟨hk.1.2.1, ⟨hk.1.2.2.1, ⟨hk.1.2.2.2.1, ⟨hk.1.2.2.2.2.1, ⟨hk.1.2.2.2.2.2.1, hk.1.2.2.2.2.2.2.1⟩⟩⟩⟩⟩⟩)⟩, ⟨rf ad al⟩, ⟨bkf a3.out b4.out⟩, ⟨bkf a4.out aX.out⟩, ⟨bkf a6.out b5.out⟩, ⟨bkf a7.out b0.out⟩, ⟨bf HB.out⟩⟩
       ·rw [if_neg cp] at H
        exact absurd H (by simp)
      ·rw [if_neg bX] at H
       have d9 : decide (ah < (ac.length : Int)) = false := decide_eq_false bX; clear bX; obtain rfl := Option.some.inj H; obtain ⟨Ao114, co114, dh⟩ := Kd.R_slice a5.out; subst dh; have eR := bL.out; have eS := bE.out; have eT := bU.out; have eU := bF.out; have eV := cn.out; have eW := bM.out; have ⟨eX, eY⟩ := Yc1 a7.out; obtain ⟨di, dj, dk⟩ := Kd.R_slice ad.out; subst dk; have eZ := c0.out; have f0 := bZ.out; have f1 := cm.out; have f2 := cl.out; have ⟨f3, f4⟩ := Yc1 a6.out
       go_wp2
       refine bodyPost_ret (results_cell_row rfl _ _ ak 56 #[.slice di aD.length dj] (0, 0) _ rfl (bp a6.out) Tryd.underlying56 rfl (by kernel_rfl)) rfl ?_; exact ⟨_, Ye2, rf ad a6, (bf HB.out)⟩

end Go.Proofs.YtgnmledjkamojaaDoor.P


namespace Go.Proofs.YtgnmledjkamojaaDoor.P
open Go.RowKit Go.Proofs.YtgnmledjkamojaaDoorW.PrintWords Go.Proofs.YtgnmledjkamojaaDoorW.PrintLast Go.Proofs.YtgnmledjkamojaaDoorW.PrintMore
attribute [local go_sem] max2_int min2_int max_two min_two max_three min_three max_four min_four
set_option linter.unusedVariables false
set_option linter.unusedSimpArgs false

/-! ### spec_l5Set: function 65 -/
mutual
def spec_l5Set.l0 : Nat → Bool → Int → List (S37) → ByteArray → ByteArray → Bool → List (S37) → Option ((List (S37)))
 | 0, _, _, _, _, _, _, _ => none
 | k + 1, x6, x7, ai, ao, aC, aD, aw => if x7 < (ai.length : Int) then (if x6 = true then (spec_l5Set.j1 k x6 x7 false ai ao aC aD aw) else (if 0 ≤ x7 then (spec_l5Set.j1 k x6 x7 (!(Op.bytesLess (((rd_T37 ai x7).f0).toList) ao.toList)) ai ao aC aD aw) else (none))) else (if x6 = true then (some aw) else (if aw.length < 3518437208883 then (some (aw ++ [(⟨ao, aC, aD⟩ : S37)])) else (none)))
def spec_l5Set.j1 : Nat → Bool → Int → Bool → List (S37) → ByteArray → ByteArray → Bool → List (S37) → Option ((List (S37)))
 | 0, _, _, _, _, _, _, _, _ => none
 | k + 1, x6, x7, x28, ai, ao, aC, aD, aw => if x28 = true then (if aw.length < 3518437208883 then ((some (aw ++ [(⟨ao, aC, aD⟩ : S37)] : List (S37))).bind fun ab => (if 0 ≤ x7 then (if x7 < (ai.length : Int) then (if ((rd_T37 ai x7).f0).toList = ao.toList then (spec_l5Set.l0 k true (wrap64 (x7 + 1)) ai ao aC aD ab) else (if ab.length < 3518437208883 then (spec_l5Set.l0 k true (wrap64 (x7 + 1)) ai ao aC aD (ab ++ [(⟨(rd_T37 ai x7).f0, (rd_T37 ai x7).f1, (rd_T37 ai x7).f2⟩ : S37)])) else (none))) else (none)) else (none))) else (none)) else (if 0 ≤ x7 then (if x7 < (ai.length : Int) then (if ((rd_T37 ai x7).f0).toList = ao.toList then (spec_l5Set.l0 k x6 (wrap64 (x7 + 1)) ai ao aC aD aw) else (if aw.length < 3518437208883 then (spec_l5Set.l0 k x6 (wrap64 (x7 + 1)) ai ao aC aD (aw ++ [(⟨(rd_T37 ai x7).f0, (rd_T37 ai x7).f1, (rd_T37 ai x7).f2⟩ : S37)])) else (none))) else (none)) else (none))
end
def spec_l5Set.f (k : Nat) (a5 : List (S37)) (a1_0 : ByteArray) (a1_1 : ByteArray) (a1_2 : Bool) : Option ((List (S37))) := spec_l5Set.l0 k false 0 a5 a1_0 a1_1 a1_2 ([] : List (S37))
theorem spec_l5Set.mono_l : ∀ k, (∀ y0 y1 y2 y3 y4 y5 y6, LeO (spec_l5Set.l0 k y0 y1 y2 y3 y4 y5 y6) (spec_l5Set.l0 (k + 1) y0 y1 y2 y3 y4 y5 y6)) ∧ (∀ y0 y1 y2 y3 y4 y5 y6 y7, LeO (spec_l5Set.j1 k y0 y1 y2 y3 y4 y5 y6 y7) (spec_l5Set.j1 (k + 1) y0 y1 y2 y3 y4 y5 y6 y7))
 | 0 => ⟨fun _ _ _ _ _ _ _ r h => by simp [spec_l5Set.l0] at h, fun _ _ _ _ _ _ _ _ r h => by simp [spec_l5Set.j1] at h⟩
 | k + 1 => by
  obtain ⟨ih0, ih1⟩ := spec_l5Set.mono_l k; refine ⟨?_, ?_⟩
  ·intro y0 y1 y2 y3 y4 y5 y6
   unfold spec_l5Set.l0
   repeat' first
   | (with_reducible exact ih0 _ _ _ _ _ _ _)
   | (with_reducible exact ih1 _ _ _ _ _ _ _ _)
   | (with_reducible exact LeO.refl _)
   | (with_reducible exact LeO.none _)
   | (with_reducible refine LeO.ite ?_ ?_)
   | (with_reducible refine LeO.bind ?_ (fun _ => ?_))
   | exact ih0 _ _ _ _ _ _ _
   | exact ih1 _ _ _ _ _ _ _ _
   | exact LeO.none _
   | refine LeO.ite ?_ ?_
   | refine LeO.bind ?_ (fun _ => ?_)
  ·intro y0 y1 y2 y3 y4 y5 y6 y7
   unfold spec_l5Set.j1
   repeat' first
   | (with_reducible exact ih0 _ _ _ _ _ _ _)
   | (with_reducible exact ih1 _ _ _ _ _ _ _ _)
   | (with_reducible exact LeO.refl _)
   | (with_reducible exact LeO.none _)
   | (with_reducible refine LeO.ite ?_ ?_)
   | (with_reducible refine LeO.bind ?_ (fun _ => ?_))
   | exact ih0 _ _ _ _ _ _ _
   | exact ih1 _ _ _ _ _ _ _ _
   | exact LeO.none _
   | refine LeO.ite ?_ ?_
   | refine LeO.bind ?_ (fun _ => ?_)
theorem spec_l5Set.mono : ∀ a0 a1 a2 a3 k, LeO (spec_l5Set.f k a0 a1 a2 a3) (spec_l5Set.f (k + 1) a0 a1 a2 a3) := by
 intro a0 a1 a2 a3 k; obtain ⟨ih0, ih1⟩ := spec_l5Set.mono_l k
 unfold spec_l5Set.f
 repeat' first
   | (with_reducible exact ih0 _ _ _ _ _ _ _)
   | (with_reducible exact ih1 _ _ _ _ _ _ _ _)
   | (with_reducible exact LeO.refl _)
   | (with_reducible exact LeO.none _)
   | (with_reducible refine LeO.ite ?_ ?_)
   | (with_reducible refine LeO.bind ?_ (fun _ => ?_))
   | exact ih0 _ _ _ _ _ _ _
   | exact ih1 _ _ _ _ _ _ _ _
   | exact LeO.none _
   | refine LeO.ite ?_ ?_
   | refine LeO.bind ?_ (fun _ => ?_)
def spec_l5Set.T6 : Bool × List (List Nat × List Nat) := (true, [([], []), ([0], [0]), ([1], [1]), ([2], [2]), ([3, 2], [2, 3]), ([2], [2]), ([4, 5, 2], [2, 4, 5]), ([6, 2], [2, 6]), ([7, 2], [2, 7]), ([2], [2]), ([9, 2], [2, 9]), ([8, 10, 2], [2, 8, 10]), ([2, 11], [2, 11])])
def spec_l5Set.B6 : List Nat := [0, 1, 3, 7, 15, 7, 63, 127, 255, 7, 519, 2047, 4095]
theorem spec_l5Set.tab6 : rtab .any (opsOf Tryd.f65 6) = spec_l5Set.T6 := by kernel_rfl
theorem spec_l5Set.bits6 : waitsOk spec_l5Set.T6.2 spec_l5Set.B6 = true := by kernel_rfl
def spec_l5Set.T9 : Bool × List (List Nat × List Nat) := (true, [([], []), ([0], [0]), ([], []), ([1, 2], [1, 2]), ([3], [3]), ([4], [4]), ([], []), ([6], [6]), ([5, 7], [5, 7])])
def spec_l5Set.B9 : List Nat := [0, 1, 0, 7, 15, 31, 0, 64, 255]
theorem spec_l5Set.tab9 : rtab .any (opsOf Tryd.f65 9) = spec_l5Set.T9 := by kernel_rfl
theorem spec_l5Set.bits9 : waitsOk spec_l5Set.T9.2 spec_l5Set.B9 = true := by kernel_rfl
def spec_l5Set.T10 : Bool × List (List Nat × List Nat) := (true, [([], []), ([0], [0]), ([], []), ([2], [2]), ([], []), ([3, 4], [3, 4]), ([5], [5]), ([6], [6]), ([1, 7], [1, 7]), ([0, 1, 2, 3, 4, 5, 6, 7, 8], []), ([9, 8, 8, 0, 1, 2, 3, 4, 5, 6, 7, 8], [8, 9])])
def spec_l5Set.B10 : List Nat := [0, 1, 0, 4, 0, 28, 60, 124, 255, 511, 1023]
theorem spec_l5Set.tab10 : rtab .any (opsOf Tryd.f65 10) = spec_l5Set.T10 := by kernel_rfl
theorem spec_l5Set.bits10 : waitsOk spec_l5Set.T10.2 spec_l5Set.B10 = true := by kernel_rfl
set_option maxHeartbeats 8000000 in
set_option maxRecDepth 100000 in
theorem spec_l5Set.calls (k : Nat) (ay : Option Addr) (aj : Nat) (a5 : List (S37)) (a1_0 : ByteArray) (a1_1 : ByteArray) (a1_2 : Bool) (r : List (S37)) (w : World) (cg : Kd.C k37 w ay a5.length a5) (ch : a5.length ≤ aj) (h : spec_l5Set.f k a5 a1_0 a1_1 a1_2 = some r) :
  Calls Tryd.prog 65 #[.agg #[.slice ay a5.length aj], .agg #[.string a1_0, .string a1_1, .bool a1_2]] w fun e w' => ∃ v0_ : Value, e = .returned (.agg #[v0_]) ∧ Kd.R k37 37 w' w.heap.size (fun _ => True) v0_ r ∧ Below w.heap.size w w' := by
 have hu28 := Tryd.underlying28; have hu37 := Tryd.underlying37; have aN := Aside0.mk cg; have HC0_0 := Aside0.mk ch; clear cg ch; have HB := Aside0.mk (Below.refl w.heap.size w); have H : (spec_l5Set.l0 k false 0 a5 a1_0 a1_1 a1_2 ([] : List (S37))) = some r := h; clear h; have H' := Aside0.mk H; clear H
 go_enter Tryd.func65, Tryd.ntmps65
 go_wp2_with (first | ((with_reducible refine gd 2 rfl ?_); refine bx 2 28 (#[.slice ay a5.length aj]) ?_; intro ak hg w3 hbox hb; refine Ya4 (below_step (be HB.out) hb) (hbox) (bs hg (be HB.out)) (bs hg (be HB.out)) ?_; clear HB; intro HB a6 GW137 GE137; clear hb hbox hg) | ((with_reducible refine gd 3 rfl ?_); refine bx 3 37 (#[.string a1_0, .string a1_1, .bool a1_2]) ?_; intro ac hg w4 hbox hb; refine Ya7 (bb a6 hb) (below_step (bf HB.out) hb) (hbox) (bs hg (bf HB.out)) (bs hg (bf HB.out)) (bl hg a6) (br hg a6) ?_; clear a6 HB; intro a6 HB a7 GW138 GE138 b9 ba; clear hb hbox hg) | ((with_reducible refine gd 4 rfl ?_); refine bx 4 28 (#[.slice none 0 0]) ?_; intro am hg w5 hbox hb; refine Ya10 (bb a6 hb) (bb a7 hb) (below_step (bf HB.out) hb) (hbox) (bs hg (bf HB.out)) (bs hg (bf HB.out)) (bl hg a6) (br hg a6) (bl hg a7) (br hg a7) ?_; clear a6 a7 HB; intro a6 a7 HB a9 GW139 GE139 bS bT bu bv; clear hb hbox hg) | ((with_reducible refine gd 5 rfl ?_); refine bx 5 28 (#[.slice none 0 0]) ?_; intro af hg w6 hbox hb; refine Ya13 (bb a6 hb) (bb a7 hb) (bb a9 hb) (below_step (bf HB.out) hb) (hbox) (bs hg (bf HB.out)) (bs hg (bf HB.out)) (bl hg a6) (br hg a6) (bl hg a7) (br hg a7) (bl hg a9) (br hg a9) ?_; clear a6 a7 a9 HB; intro a6 a7 a9 HB a8 GW140 GE140 an aM ap aQ aq aR; clear hb hbox hg; have hnb7 := aM.out; have hnc7 := an.out; have hnb8 := aQ.out; have hnc8 := ap.out; have hnb9 := aR.out; have hnc9 := aq.out; have ⟨ci, cj⟩ := Yc1 a8.out))
 go_loopg [6, 7] k (fun kq v6 v7 w' => ∃ (ax : Bool) (a4 : Int) (ad : List (S37)) (al : Value), v6 = .bool ax ∧ v7 = .int .i64 a4 ∧ Aside0 (spec_l5Set.l0 kq ax a4 a5 a1_0 a1_1 a1_2 ad = some r) ∧ Aside0 (kq ≤ k) ∧ Aside0 (Kd.R k37 37 w' w.heap.size (fun k_ => k_ ≠ ac) al ad) ∧ Aside0 (w'.heap[ak]? = some (.cells #[(.slice ay a5.length aj)] 28 (0, 0))) ∧ Aside0 (w'.heap[ac]? = some (.cells #[.string a1_0, .string a1_1, .bool a1_2] 37 (0, 0))) ∧ Aside0 (w'.heap[am]? = some (.cells #[(.slice none 0 0)] 28 (0, 0))) ∧ Aside0 (w'.heap[af]? = some (.cells #[al] 28 (0, 0))) ∧ Aside0 (Below w.heap.size w w'))
 case atStart => exact ⟨(false), (0), (([] : List (S37))), (.slice none 0 0), Ye1, Ye1, H', ⟨Nat.le_refl _⟩, ⟨nl⟩, ⟨bkf a6.out an.out⟩, ⟨bkf a7.out ap.out⟩, ⟨bkf a9.out aq.out⟩, ⟨bp a8.out⟩, ⟨bf HB.out⟩⟩
 case round =>
  clear H'; (try clear p2); (try clear c6); (try clear c7); (try clear c8); (try clear c9); (try clear ci); (try clear cj); obtain ⟨ax, a4, ad, al, rfl, rfl, HA, HK1, aa, a6, a7, a9, a8, HB⟩ := hrel
  cases gk with
  | zero => exact absurd HA.out (by simp [spec_l5Set.l0])
  | succ k1 =>
   have H := HA.out; clear HA; simp only [spec_l5Set.l0] at H
   by_cases aT : a4 < (a5.length : Int)
   ·rw [if_pos aT] at H
    have ck : decide (a4 < (a5.length : Int)) = true := decide_eq_true aT; clear aT; have bU := Aside0.mk H; clear H; have hnb13 := b9.out; have hnc13 := ba.out; have hnb14 := bS.out; have hnc14 := bT.out; have hnb15 := an.out; have hnc15 := aM.out; have ⟨cu, cv⟩ := Yc1 a6.out
    go_upto_region 6 with (fail)
    go_cut [28] (fun v28 wc => ∃ (kq : Nat) (bw : Bool), v28 = .bool bw ∧ Aside0 (spec_l5Set.j1 kq ax a4 bw a5 a1_0 a1_1 a1_2 ad = some r) ∧ Aside0 (kq ≤ k1) ∧ Aside0 (Kd.R k37 37 wc w.heap.size (fun k_ => k_ ≠ ac) al ad) ∧ Aside0 (wc.heap[ak]? = some (.cells #[(.slice ay a5.length aj)] 28 (0, 0))) ∧ Aside0 (wc.heap[ac]? = some (.cells #[.string a1_0, .string a1_1, .bool a1_2] 37 (0, 0))) ∧ Aside0 (wc.heap[am]? = some (.cells #[(.slice none 0 0)] 28 (0, 0))) ∧ Aside0 (wc.heap[af]? = some (.cells #[al] 28 (0, 0))) ∧ Aside0 (Below w.heap.size w wc))
    case first =>
     have H := bU.out; clear bU
     by_cases bd : ax = true
     ·subst bd
      have H1 : (spec_l5Set.j1 k1 true a4 false a5 a1_0 a1_1 a1_2 ad) = some r := by rw [if_pos rfl] at H; exact H
      clear H; have H := H1; clear H1; have H' := Aside0.mk H; clear H
      try go_wp2
      refine Ya6 (Kd.R_drew aa.out) (blk_drew a6.out) (blk_drew a7.out) (blk_drew a9.out) (blk_drew a8.out) (below_drew1 HB.out) ?_; clear aa a6 a7 a9 a8 HB; intro aa a6 a7 a9 a8 HB; refine start_ (n := 13) (S := fun w' => True) (ds := []) (fb 13 0) (by kernel_rfl) rfl rfl trivial (fun hHeld => ?_); refine with_tabW spec_l5Set.tab6 spec_l5Set.bits6 (fun HT_ HW_ => ?_); generalize wr.drew = w18 at aa a6 a7 a9 a8 HB hHeld ⊢; refine pu 0 16 (fb 13 1) HT_ ?_; refine pu 1 17 (fb 13 3) HT_ ?_; refine pu 2 18 (fb 13 7) HT_ ?_; refine pn 3 19 (fb 13 15) HT_ ?_; refine pn 4 20 (fb 13 31) HT_ ?_; refine pn 5 21 (fb 13 63) HT_ ?_; refine pn 6 22 (fb 13 127) HT_ ?_; refine pn 7 23 (fb 13 255) HT_ ?_; refine pn 8 24 (fb 13 511) HT_ ?_; refine pn 9 25 (fb 13 1023) HT_ ?_; refine pn 10 26 (fb 13 2047) HT_ ?_; refine pn 11 27 (fb 13 4095) HT_ ?_; refine pu 12 28 (fb 13 8191) HT_ ?_; refine done_ (done_of HT_.out (by kernel_rfl)) ?_
      try go_wp2
      go_meet
      case rel => exact ⟨_, (false), Ye1, H', ⟨by have := HK1.out; first | omega | exact Nat.le_refl _⟩, ⟨kr aa.out⟩, ⟨bk a6.out⟩, ⟨bk a7.out⟩, ⟨bk a9.out⟩, ⟨bk a8.out⟩, ⟨bf HB.out⟩⟩
     ·replace bd := Bool.eq_false_iff.mpr bd; subst bd
      have H1 : (if 0 ≤ a4 then (spec_l5Set.j1 k1 false a4 (!(Op.bytesLess (((rd_T37 a5 a4).f0).toList) a1_0.toList)) a5 a1_0 a1_1 a1_2 ad) else (none)) = some r := by rw [if_neg (show ¬ (false = true) by decide)] at H; exact H
      clear H; have H := H1; clear H1
      by_cases bg : 0 ≤ a4
      ·rw [if_pos bg] at H
       have bV : decide (0 ≤ a4) = true := decide_eq_true bg; clear bg; (first | rw [bV] | (simp only [i64_w, i32_w]; rw [bV]) | skip); have H' := Aside0.mk H; clear H
       try go_wp2
       refine Ya6 (Kd.R_drew aa.out) (blk_drew a6.out) (blk_drew a7.out) (blk_drew a9.out) (blk_drew a8.out) (below_drew1 HB.out) ?_; clear aa a6 a7 a9 a8 HB; intro aa a6 a7 a9 a8 HB; have bz : 0 ≤ (a4 : Int) := oda; have bA : a4 < (a5.length : Int) := oda; obtain ⟨b8, cx, bh, bi, bj⟩ := at_T37 aN.out a4 bz bA; have hw144_2 := bj; have hw144_1 := bi; have hw144_0 := bh
       cases cx
       replace bh := pw_cell_below HB.out bh; replace bi := pw_cell_below HB.out bi; replace bj := pw_cell_below HB.out bj; replace bz := eq_true bz; replace bA := eq_true bA; refine start_ (n := 13) (S := fun w' => w'.cell? ⟨ak, 0, none⟩ = some (.slice (some b8) a5.length aj) ∧ w'.cell? ⟨ac, 0, none⟩ = some (.string a1_0) ∧ w'.cell? ⟨ac, 1, none⟩ = some (.string a1_1) ∧ w'.cell? ⟨ac, 2, none⟩ = some (.bool a1_2) ∧ w'.cell? (b8.add ((a4).toNat * 3)) = some (.string ((rd_T37 a5 a4).f0)) ∧ w'.cell? ⟨(b8.add ((a4).toNat * 3)).block, (b8.add ((a4).toNat * 3)).off + 1, none⟩ = some (.string ((rd_T37 a5 a4).f1)) ∧ w'.cell? ⟨(b8.add ((a4).toNat * 3)).block, (b8.add ((a4).toNat * 3)).off + 2, none⟩ = some (.bool ((rd_T37 a5 a4).f2))) (ds := []) (fb 13 0) (by kernel_rfl) rfl rfl ⟨bc a6 0, bc a7 0, bc a7 1, bc a7 2, (pw_cell_below HB.out hw144_0), (pw_cell_below HB.out hw144_1), (pw_cell_below HB.out hw144_2)⟩ (fun hHeld => ?_); refine with_tabW spec_l5Set.tab6 spec_l5Set.bits6 (fun HT_ HW_ => ?_); generalize wr.drew = w20 at aa a6 a7 a9 a8 HB bh bi bj hHeld ⊢; refine pu 0 16 (fb 13 1) HT_ ?_; refine pu 1 17 (fb 13 3) HT_ ?_; refine pu 2 18 (fb 13 7) HT_ ?_; refine pu 3 19 (fb 13 15) HT_ ?_; refine pu 5 21 (fb 13 47) HT_ ?_; refine pu 9 25 (fb 13 559) HT_ ?_; refine tk 4 20 (fb 13 575) HT_ HW_ hHeld ?_; refine pu 6 22 (fb 13 639) HT_ ?_; refine pu 7 23 (fb 13 767) HT_ ?_; refine tk 8 24 (fb 13 1023) HT_ HW_ hHeld ?_; refine tk 10 26 (fb 13 2047) HT_ HW_ hHeld ?_; refine pu 11 27 (fb 13 4095) HT_ ?_; refine pu 12 28 (fb 13 8191) HT_ ?_; refine done_ (done_of HT_.out (by kernel_rfl)) ?_
       try go_wp2
       go_meet
       case rel => exact ⟨_, (!(Op.bytesLess (((rd_T37 a5 a4).f0).toList) a1_0.toList)), Ye1, H', ⟨by have := HK1.out; first | omega | exact Nat.le_refl _⟩, ⟨kr aa.out⟩, ⟨bk a6.out⟩, ⟨bk a7.out⟩, ⟨bk a9.out⟩, ⟨bk a8.out⟩, ⟨bf HB.out⟩⟩
      ·rw [if_neg bg] at H
       exact absurd H (by simp)
    case rest =>
     clear bU; (try clear c1); (try clear p1); (try clear q1); (try clear hx1); (try clear p2); (try clear c6); (try clear c7); (try clear c8); (try clear c9); (try clear aT); (try clear ck); (try clear c13); (try clear c14); (try clear p14); (try clear q14); (try clear hx14); (try clear c15); (try clear bd); (try clear bg); (try clear bV); (try clear ci); (try clear cu); (try clear cj); (try clear cv); (try clear bh); (try clear bi); (try clear bj); (try clear bz); (try clear p2); (try clear bA); obtain ⟨kq, bw, rfl, HA, HJ11, aa, a6, a7, a9, a8, HB⟩ := hcut
     cases kq with
     | zero => exact absurd HA.out (by simp [spec_l5Set.j1])
     | succ ar =>
      have H := HA.out; clear HA; simp only [spec_l5Set.j1] at H
      by_cases bB : bw = true
      ·subst bB
       have H1 : (if ad.length < 3518437208883 then ((some (ad ++ [(⟨a1_0, a1_1, a1_2⟩ : S37)] : List (S37))).bind fun ab => (if 0 ≤ a4 then (if a4 < (a5.length : Int) then (if ((rd_T37 a5 a4).f0).toList = a1_0.toList then (spec_l5Set.l0 ar true (wrap64 (a4 + 1)) a5 a1_0 a1_1 a1_2 ab) else (if ab.length < 3518437208883 then (spec_l5Set.l0 ar true (wrap64 (a4 + 1)) a5 a1_0 a1_1 a1_2 (ab ++ [(⟨(rd_T37 a5 a4).f0, (rd_T37 a5 a4).f1, (rd_T37 a5 a4).f2⟩ : S37)])) else (none))) else (none)) else (none))) else (none)) = some r := by rw [if_pos rfl] at H; exact H
       clear H; have H := H1; clear H1
       by_cases bC : ad.length < 3518437208883
       ·rw [if_pos bC] at H
        have cl := Aside0.mk bC; clear bC
        obtain ⟨ab, bm⟩ : ∃ y_ : List (S37), y_ = (ad ++ [(⟨a1_0, a1_1, a1_2⟩ : S37)]) := ⟨_, rfl⟩
        replace H : (if 0 ≤ a4 then (if a4 < (a5.length : Int) then (if ((rd_T37 a5 a4).f0).toList = a1_0.toList then (spec_l5Set.l0 ar true (wrap64 (a4 + 1)) a5 a1_0 a1_1 a1_2 ab) else (if ab.length < 3518437208883 then (spec_l5Set.l0 ar true (wrap64 (a4 + 1)) a5 a1_0 a1_1 a1_2 (ab ++ [(⟨(rd_T37 a5 a4).f0, (rd_T37 a5 a4).f1, (rd_T37 a5 a4).f2⟩ : S37)])) else (none))) else (none)) else (none)) = some r := by first | (rw [bm]; with_reducible exact H) | (have H2_ := (Option.bind_some _ _).symm.trans H; rw [bm]; with_reducible exact H2_) | (have H2_ := (Option.bind_some _ _).symm.trans H; with_reducible exact H2_) | with_reducible exact H | (rw [bm]; exact H) | exact H
        have cm := Aside0.mk bm; clear bm
        by_cases bD : 0 ≤ a4
        ·rw [if_pos bD] at H
         have c23b0 : decide (0 ≤ a4) = true := decide_eq_true bD; clear bD
         by_cases bE : a4 < (a5.length : Int)
         ·rw [if_pos bE] at H
          have c24b0 : decide (a4 < (a5.length : Int)) = true := decide_eq_true bE; clear bE
          by_cases aU : ((rd_T37 a5 a4).f0).toList = a1_0.toList
          ·rw [if_pos aU] at H
           have cy : (((rd_T37 a5 a4).f0).toList == a1_0.toList) = true := beq_iff_eq.mpr aU; have cz : (((rd_T37 a5 a4).f0).toList != a1_0.toList) = false := bne_eq_false_iff_eq.mpr aU; clear aU; have H' := Aside0.mk H; clear H; have hnb26 := aM.out; have hnc26 := an.out; have hnb27 := aQ.out; have hnc27 := ap.out; have hnb28 := aR.out; have hnc28 := aq.out; have ⟨cV, cW⟩ := Yc1 a8.out; have hnb30 := ba.out; have hnc30 := b9.out; have hnb31 := bu.out; have hnc31 := bv.out; have ⟨cX, cY, cZ, d0, d1, d2⟩ := Yc3 a7.out
           try go_wp2_with (first | ((with_reducible refine gate_builtin (b := .append) (xs := #[.tmp 30, .tmp 32]) rfl ?_); at_builtin; refine Kd.R_append k37 (w0 := w) w.heap.size rfl (.tmp 30) (.tmp 32) 26 37 (.agg #[(.string ⟨#[]⟩), (.string ⟨#[]⟩), (.bool false)]) 40 rfl Tryd.underlying26 info37 rfl (by decide) (by omega) al ad (⟨a1_0, a1_1, a1_2⟩ : S37) [.string a1_0, .string a1_1, .bool a1_2] (fun k_ => k_ ≠ ac) (fun _ => False) rfl rfl ?aP (fun _ hk => hk.elim) ?aF ?aO ?aB ?aS ?aL ?_; (case aP => exact k37_mkM _ _ _ (⟨a1_0, a1_1, a1_2⟩ : S37)); (case aB => exact (bf HB.out)); (case aF => exact (fun k_ hk => Kd.freshB (g := ac) (o := .cells #[.string a1_0, .string a1_1, .bool a1_2] 37 (0, 0)) (bk a7.out) k_ hk)); (case aO => exact (kr aa.out)); (case aS => exact (below_size (bf HB.out))); (case aL => have := cl.out; omega); intro cA aV ho hb hg hat; rw [← cm.out] at ho; refine Ya6 (blk_grown (g := ak) (o := .cells #[.slice ay a5.length aj] 28 (0, 0)) (bk a6.out) hg (Kd.R_ne aa.out a6.out (by decide))) (blk_grown (g := ac) (o := .cells #[.string a1_0, .string a1_1, .bool a1_2] 37 (0, 0)) (bk a7.out) hg (Kd.R_away aa.out (fun _ hk => hk))) (blk_grown (g := am) (o := .cells #[.slice none 0 0] 28 (0, 0)) (bk a9.out) hg (Kd.R_ne aa.out a9.out (by decide))) (blk_grown (g := af) (o := .cells #[al] 28 (0, 0)) (bk a8.out) hg (Kd.R_ne aa.out a8.out (by decide))) (hb) (ho) ?_; clear a6 a7 a9 a8 HB aa; intro a6 a7 a9 a8 HB ae; clear ho hb hg hat; obtain ⟨az, aA, cB⟩ := Kd.R_slice ae.out; subst cB; have ⟨d3, d4⟩ := Yc1 a8.out))
           have aW : Aside0 (Kd.R k37 37 (aV.setCell ⟨af, 0, none⟩ (.slice az ab.length aA)) w.heap.size (fun k_ => k_ ≠ ac) (.slice az ab.length aA) ab) := ⟨rf ae a8⟩
           have aX : Aside0 ((aV.setCell ⟨af, 0, none⟩ (.slice az ab.length aA)).heap[ak]? = some (.cells #[.slice ay a5.length aj] 28 (0, 0))) := ⟨bkf a6.out an.out⟩
           have aY : Aside0 ((aV.setCell ⟨af, 0, none⟩ (.slice az ab.length aA)).heap[ac]? = some (.cells #[.string a1_0, .string a1_1, .bool a1_2] 37 (0, 0))) := ⟨bkf a7.out ap.out⟩
           have aZ : Aside0 ((aV.setCell ⟨af, 0, none⟩ (.slice az ab.length aA)).heap[am]? = some (.cells #[.slice none 0 0] 28 (0, 0))) := ⟨bkf a9.out aq.out⟩
           have b0 : Aside0 ((aV.setCell ⟨af, 0, none⟩ (.slice az ab.length aA)).heap[af]? = some (.cells #[.slice az ab.length aA] 28 (0, 0))) := ⟨bp a8.out⟩
           have b1 : Aside0 (Below w.heap.size w (aV.setCell ⟨af, 0, none⟩ (.slice az ab.length aA))) := ⟨bf HB.out⟩
           (try clear ae); (try clear a6); (try clear a7); (try clear a9); (try clear a8); (try clear HB); generalize (aV.setCell ⟨af, 0, none⟩ (.slice az ab.length aA)) = w36 at aW aX aY aZ b0 b1 ⊢; have ae := aW; have a6 := aX; have a7 := aY; have a9 := aZ; have a8 := b0; have HB := b1; clear aW aX aY aZ b0 b1; refine Ya6 (Kd.R_drew ae.out) (blk_drew a6.out) (blk_drew a7.out) (blk_drew a9.out) (blk_drew a8.out) (below_drew1 HB.out) ?_; clear ae a6 a7 a9 a8 HB; intro ae a6 a7 a9 a8 HB; have b2 : 0 ≤ (a4 : Int) := oda; have b3 : a4 < (a5.length : Int) := oda; obtain ⟨ag, bW, aE, aG, aH⟩ := at_T37 aN.out a4 b2 b3; have hw148_2 := aH; have hw148_1 := aG; have hw148_0 := aE
           cases bW
           replace aE := pw_cell_below HB.out aE; replace aG := pw_cell_below HB.out aG; replace aH := pw_cell_below HB.out aH; replace b2 := eq_true b2; replace b3 := eq_true b3; refine start_ (n := 9) (S := fun w' => w'.cell? ⟨ak, 0, none⟩ = some (.slice (some ag) a5.length aj) ∧ w'.cell? ⟨ac, 0, none⟩ = some (.string a1_0) ∧ w'.cell? ⟨ac, 1, none⟩ = some (.string a1_1) ∧ w'.cell? ⟨ac, 2, none⟩ = some (.bool a1_2) ∧ w'.cell? (ag.add ((a4).toNat * 3)) = some (.string ((rd_T37 a5 a4).f0)) ∧ w'.cell? ⟨(ag.add ((a4).toNat * 3)).block, (ag.add ((a4).toNat * 3)).off + 1, none⟩ = some (.string ((rd_T37 a5 a4).f1)) ∧ w'.cell? ⟨(ag.add ((a4).toNat * 3)).block, (ag.add ((a4).toNat * 3)).off + 2, none⟩ = some (.bool ((rd_T37 a5 a4).f2))) (ds := []) (fb 9 0) (by kernel_rfl) rfl rfl ⟨bc a6 0, bc a7 0, bc a7 1, bc a7 2, (pw_cell_below HB.out hw148_0), (pw_cell_below HB.out hw148_1), (pw_cell_below HB.out hw148_2)⟩ (fun hHeld => ?_); refine with_tabW spec_l5Set.tab9 spec_l5Set.bits9 (fun HT_ HW_ => ?_); generalize w36.drew = w37 at ae a6 a7 a9 a8 HB aE aG aH hHeld ⊢; refine pu 0 35 (fb 9 1) HT_ ?_; refine pu 2 37 (fb 9 5) HT_ ?_; refine pu 6 41 (fb 9 69) HT_ ?_; refine tk 1 36 (fb 9 71) HT_ HW_ hHeld ?_; refine pu 3 38 (fb 9 79) HT_ ?_; refine pu 4 39 (fb 9 95) HT_ ?_; refine tk 5 40 (fb 9 127) HT_ HW_ hHeld ?_; refine tk 7 42 (fb 9 255) HT_ HW_ hHeld ?_; refine pu 8 43 (fb 9 511) HT_ ?_; refine done_ (done_of HT_.out (by kernel_rfl)) ?_
           try go_wp2
           go_roundg ar
           case measure => have := HK1.out; have := HJ11.out; omega
           case rel => exact ⟨(true), (wrap64 (a4 + 1)), (ab), (.slice az ab.length aA), Ye1, Ye1, H', ⟨by have := HK1.out; have := HJ11.out; omega⟩, ⟨kr ae.out⟩, ⟨bk a6.out⟩, ⟨bk a7.out⟩, ⟨bk a9.out⟩, ⟨bk a8.out⟩, ⟨bf HB.out⟩⟩
          ·rw [if_neg aU] at H
           have cy : (((rd_T37 a5 a4).f0).toList == a1_0.toList) = false := beq_eq_false_iff_ne.mpr aU; have cz : (((rd_T37 a5 a4).f0).toList != a1_0.toList) = true := bne_iff_ne.mpr aU
           by_cases bF : ab.length < 3518437208883
           ·rw [if_pos bF] at H
            have cC := Aside0.mk bF; clear bF
            obtain ⟨bX, bn⟩ : ∃ y_ : List (S37), y_ = (ab ++ [(⟨(rd_T37 a5 a4).f0, (rd_T37 a5 a4).f1, (rd_T37 a5 a4).f2⟩ : S37)]) := ⟨_, rfl⟩
            replace H : (spec_l5Set.l0 ar true (wrap64 (a4 + 1)) a5 a1_0 a1_1 a1_2 bX) = some r := by first | (rw [bn]; with_reducible exact H) | (have H2_ := (Option.bind_some _ _).symm.trans H; rw [bn]; with_reducible exact H2_) | (have H2_ := (Option.bind_some _ _).symm.trans H; with_reducible exact H2_) | with_reducible exact H | (rw [bn]; exact H) | exact H
            have cD := Aside0.mk bn; clear bn; have H' := Aside0.mk H; clear H; have hnb39 := aM.out; have hnc39 := an.out; have hnb40 := aQ.out; have hnc40 := ap.out; have hnb41 := aR.out; have hnc41 := aq.out; have ⟨d5, d6⟩ := Yc1 a8.out; have hnb43 := ba.out; have hnc43 := b9.out; have hnb44 := bu.out; have hnc44 := bv.out; have ⟨d7, d8, d9, da, db, dc⟩ := Yc3 a7.out
            try go_wp2_with (first | ((with_reducible refine gate_builtin (b := .append) (xs := #[.tmp 30, .tmp 32]) rfl ?_); at_builtin; refine Kd.R_append k37 (w0 := w) w.heap.size rfl (.tmp 30) (.tmp 32) 26 37 (.agg #[(.string ⟨#[]⟩), (.string ⟨#[]⟩), (.bool false)]) 40 rfl Tryd.underlying26 info37 rfl (by decide) (by omega) al ad (⟨a1_0, a1_1, a1_2⟩ : S37) [.string a1_0, .string a1_1, .bool a1_2] (fun k_ => k_ ≠ ac) (fun _ => False) rfl rfl ?aP (fun _ hk => hk.elim) ?aF ?aO ?aB ?aS ?aL ?_; (case aP => exact k37_mkM _ _ _ (⟨a1_0, a1_1, a1_2⟩ : S37)); (case aB => exact (bf HB.out)); (case aF => exact (fun k_ hk => Kd.freshB (g := ac) (o := .cells #[.string a1_0, .string a1_1, .bool a1_2] 37 (0, 0)) (bk a7.out) k_ hk)); (case aO => exact (kr aa.out)); (case aS => exact (below_size (bf HB.out))); (case aL => have := cl.out; omega); intro cA b4 ho hb hg hat; rw [← cm.out] at ho; refine Ya6 (blk_grown (g := ak) (o := .cells #[.slice ay a5.length aj] 28 (0, 0)) (bk a6.out) hg (Kd.R_ne aa.out a6.out (by decide))) (blk_grown (g := ac) (o := .cells #[.string a1_0, .string a1_1, .bool a1_2] 37 (0, 0)) (bk a7.out) hg (Kd.R_away aa.out (fun _ hk => hk))) (blk_grown (g := am) (o := .cells #[.slice none 0 0] 28 (0, 0)) (bk a9.out) hg (Kd.R_ne aa.out a9.out (by decide))) (blk_grown (g := af) (o := .cells #[al] 28 (0, 0)) (bk a8.out) hg (Kd.R_ne aa.out a8.out (by decide))) (hb) (ho) ?_; clear a6 a7 a9 a8 HB aa; intro a6 a7 a9 a8 HB ae; clear ho hb hg hat; obtain ⟨au, av, cE⟩ := Kd.R_slice ae.out; subst cE; have ⟨dd, de⟩ := Yc1 a8.out))
            have aW : Aside0 (Kd.R k37 37 (b4.setCell ⟨af, 0, none⟩ (.slice au ab.length av)) w.heap.size (fun k_ => k_ ≠ ac) (.slice au ab.length av) ab) := ⟨rf ae a8⟩
            have aX : Aside0 ((b4.setCell ⟨af, 0, none⟩ (.slice au ab.length av)).heap[ak]? = some (.cells #[.slice ay a5.length aj] 28 (0, 0))) := ⟨bkf a6.out an.out⟩
            have aY : Aside0 ((b4.setCell ⟨af, 0, none⟩ (.slice au ab.length av)).heap[ac]? = some (.cells #[.string a1_0, .string a1_1, .bool a1_2] 37 (0, 0))) := ⟨bkf a7.out ap.out⟩
            have aZ : Aside0 ((b4.setCell ⟨af, 0, none⟩ (.slice au ab.length av)).heap[am]? = some (.cells #[.slice none 0 0] 28 (0, 0))) := ⟨bkf a9.out aq.out⟩
            have b0 : Aside0 ((b4.setCell ⟨af, 0, none⟩ (.slice au ab.length av)).heap[af]? = some (.cells #[.slice au ab.length av] 28 (0, 0))) := ⟨bp a8.out⟩
            have b1 : Aside0 (Below w.heap.size w (b4.setCell ⟨af, 0, none⟩ (.slice au ab.length av))) := ⟨bf HB.out⟩
            (try clear ae); (try clear a6); (try clear a7); (try clear a9); (try clear a8); (try clear HB); generalize (b4.setCell ⟨af, 0, none⟩ (.slice au ab.length av)) = w49 at aW aX aY aZ b0 b1 ⊢; have ae := aW; have a6 := aX; have a7 := aY; have a9 := aZ; have a8 := b0; have HB := b1; clear aW aX aY aZ b0 b1; refine Ya6 (Kd.R_drew ae.out) (blk_drew a6.out) (blk_drew a7.out) (blk_drew a9.out) (blk_drew a8.out) (below_drew1 HB.out) ?_; clear ae a6 a7 a9 a8 HB; intro ae a6 a7 a9 a8 HB; have b2 : 0 ≤ (a4 : Int) := oda; have b3 : a4 < (a5.length : Int) := oda; obtain ⟨ag, bW, aE, aG, aH⟩ := at_T37 aN.out a4 b2 b3; have hw148_2 := aH; have hw148_1 := aG; have hw148_0 := aE
            cases bW
            replace aE := pw_cell_below HB.out aE; replace aG := pw_cell_below HB.out aG; replace aH := pw_cell_below HB.out aH; replace b2 := eq_true b2; replace b3 := eq_true b3; refine start_ (n := 9) (S := fun w' => w'.cell? ⟨ak, 0, none⟩ = some (.slice (some ag) a5.length aj) ∧ w'.cell? ⟨ac, 0, none⟩ = some (.string a1_0) ∧ w'.cell? ⟨ac, 1, none⟩ = some (.string a1_1) ∧ w'.cell? ⟨ac, 2, none⟩ = some (.bool a1_2) ∧ w'.cell? (ag.add ((a4).toNat * 3)) = some (.string ((rd_T37 a5 a4).f0)) ∧ w'.cell? ⟨(ag.add ((a4).toNat * 3)).block, (ag.add ((a4).toNat * 3)).off + 1, none⟩ = some (.string ((rd_T37 a5 a4).f1)) ∧ w'.cell? ⟨(ag.add ((a4).toNat * 3)).block, (ag.add ((a4).toNat * 3)).off + 2, none⟩ = some (.bool ((rd_T37 a5 a4).f2))) (ds := []) (fb 9 0) (by kernel_rfl) rfl rfl ⟨bc a6 0, bc a7 0, bc a7 1, bc a7 2, (pw_cell_below HB.out hw148_0), (pw_cell_below HB.out hw148_1), (pw_cell_below HB.out hw148_2)⟩ (fun hHeld => ?_); refine with_tabW spec_l5Set.tab9 spec_l5Set.bits9 (fun HT_ HW_ => ?_); generalize w49.drew = w50 at ae a6 a7 a9 a8 HB aE aG aH hHeld ⊢; refine pu 0 35 (fb 9 1) HT_ ?_; refine pu 2 37 (fb 9 5) HT_ ?_; refine pu 6 41 (fb 9 69) HT_ ?_; refine tk 1 36 (fb 9 71) HT_ HW_ hHeld ?_; refine pu 3 38 (fb 9 79) HT_ ?_; refine pu 4 39 (fb 9 95) HT_ ?_; refine tk 5 40 (fb 9 127) HT_ HW_ hHeld ?_; refine tk 7 42 (fb 9 255) HT_ HW_ hHeld ?_; refine pu 8 43 (fb 9 511) HT_ ?_; refine done_ (done_of HT_.out (by kernel_rfl)) ?_
            try go_wp2
            refine Ya6 (Kd.R_drew ae.out) (blk_drew a6.out) (blk_drew a7.out) (blk_drew a9.out) (blk_drew a8.out) (below_drew1 HB.out) ?_; clear ae a6 a7 a9 a8 HB; intro ae a6 a7 a9 a8 HB; have bY : 0 ≤ (a4 : Int) := oda; have bZ : a4 < (a5.length : Int) := oda; obtain ⟨cF, cG, bG, bH, bI⟩ := at_T37 aN.out a4 bY bZ; have hw149_2 := bI; have hw149_1 := bH; have hw149_0 := bG
            obtain rfl : ag = cF := (by injection cG)
            replace bG := pw_cell_below HB.out bG; replace bH := pw_cell_below HB.out bH; replace bI := pw_cell_below HB.out bI; replace bY := eq_true bY; replace bZ := eq_true bZ; refine start_ (n := 11) (S := fun w' => w'.cell? ⟨af, 0, none⟩ = some (.slice au ab.length av) ∧ w'.cell? ⟨ak, 0, none⟩ = some (.slice (some ag) a5.length aj) ∧ w'.cell? (ag.add ((a4).toNat * 3)) = some (.string ((rd_T37 a5 a4).f0)) ∧ w'.cell? ⟨(ag.add ((a4).toNat * 3)).block, (ag.add ((a4).toNat * 3)).off + 1, none⟩ = some (.string ((rd_T37 a5 a4).f1)) ∧ w'.cell? ⟨(ag.add ((a4).toNat * 3)).block, (ag.add ((a4).toNat * 3)).off + 2, none⟩ = some (.bool ((rd_T37 a5 a4).f2))) (ds := [10]) (fb 11 0) (by kernel_rfl) rfl rfl ⟨bc a8 0, bc a6 0, (pw_cell_below HB.out hw149_0), (pw_cell_below HB.out hw149_1), (pw_cell_below HB.out hw149_2)⟩ (fun hHeld => ?_); refine with_tabW spec_l5Set.tab10 spec_l5Set.bits10 (fun HT_ HW_ => ?_); generalize w50.drew = w51 at ae a6 a7 a9 a8 HB bG bH bI hHeld ⊢; refine pu 0 44 (fb 11 1) HT_ ?_; refine pu 2 46 (fb 11 5) HT_ ?_; refine pu 4 48 (fb 11 21) HT_ ?_; refine tk 1 45 (fb 11 23) HT_ HW_ hHeld ?_; refine tk 3 47 (fb 11 31) HT_ HW_ hHeld ?_; refine pu 5 49 (fb 11 63) HT_ ?_; refine tk 6 50 (fb 11 127) HT_ HW_ hHeld ?_; refine o1 7 (some 51) (fb 11 255) HT_ (fun K hK => ?_); refine value_ (w1 := ?_) (v := ?_) (by rfl) rfl ?_ ?_; rotate_left 2
            ·go_simp
             constructor
             ·rfl
             ·rfl
            refine hK.out _ _ ⟨(blk_cell (blk_alloc a8.out _) 0).trans rfl, (blk_cell (blk_alloc a6.out _) 0).trans rfl, (World.cell?_alloc_lt _ _ _ (World.block_lt_of_cell? _ _ ((pw_cell_below HB.out hw149_0)))).trans ((pw_cell_below HB.out hw149_0)), (World.cell?_alloc_lt _ _ _ (World.block_lt_of_cell? _ _ ((pw_cell_below HB.out hw149_1)))).trans ((pw_cell_below HB.out hw149_1)), (World.cell?_alloc_lt _ _ _ (World.block_lt_of_cell? _ _ ((pw_cell_below HB.out hw149_2)))).trans ((pw_cell_below HB.out hw149_2))⟩ (fun hHeld => ?_); clear hK K; refine nm 51 ?_; refine o1 8 (some 52) (fb 11 511) HT_ (fun K hK => ?_); refine Kd.R_append_step k37 (w0 := w) w.heap.size (by rfl) (.tmp 45) (.tmp 51) 26 37 (.agg #[(.string ⟨#[]⟩), (.string ⟨#[]⟩), (.bool false)]) 40 rfl Tryd.underlying26 info37 rfl (by decide) (by omega) (.slice au ab.length av) ab (⟨(rd_T37 a5 a4).f0, (rd_T37 a5 a4).f1, (rd_T37 a5 a4).f2⟩ : S37) [.string ((rd_T37 a5 a4).f0), .string ((rd_T37 a5 a4).f1), .bool ((rd_T37 a5 a4).f2)] (fun k_ => k_ ≠ ac) (fun _ => False) rfl rfl ?aP (fun _ hk => hk.elim) ?aF ?aO ?aB ?aS ?aL ?_; (case aP => exact k37_mkM _ _ _ (⟨(rd_T37 a5 a4).f0, (rd_T37 a5 a4).f1, (rd_T37 a5 a4).f2⟩ : S37)); (case aB => exact (bf HB.out)); (case aF => exact (fun k_ hk => Kd.freshB (g := ac) (o := .cells #[.string a1_0, .string a1_1, .bool a1_2] 37 (0, 0)) (bk a7.out) k_ hk)); (case aO => exact (kr ae.out)); (case aS => exact (below_size (bf HB.out))); (case aL => have := cC.out; omega); intro v151 w52 ho hb hg hat
            rw [← cD.out] at ho
            refine Ya6 (blk_grown (g := ak) (o := .cells #[.slice (some ag) a5.length aj] 28 (0, 0)) (bk a6.out) hg (Kd.R_ne ae.out a6.out (by decide))) (blk_grown (g := ac) (o := .cells #[.string a1_0, .string a1_1, .bool a1_2] 37 (0, 0)) (bk a7.out) hg (Kd.R_away ae.out (fun _ hk => hk))) (blk_grown (g := am) (o := .cells #[.slice none 0 0] 28 (0, 0)) (bk a9.out) hg (Kd.R_ne ae.out a9.out (by decide))) (blk_grown (g := af) (o := .cells #[.slice au ab.length av] 28 (0, 0)) (bk a8.out) hg (Kd.R_ne ae.out a8.out (by decide))) (hb) (ho) ?_; clear a6 a7 a9 a8 HB ae; intro a6 a7 a9 a8 HB cn; clear ho hb hg hat; obtain ⟨cH, cI, co⟩ := Kd.R_slice cn.out; (first | subst co | (injection co with f1_ f2_ f3_; have f4_ := f1_.symm; have f5_ := f3_.symm; clear f1_ f2_ f3_; subst f4_; subst f5_)); refine hK.out _ _ ⟨bc a8 0, bc a6 0, (pw_cell_below HB.out hw149_0), (pw_cell_below HB.out hw149_1), (pw_cell_below HB.out hw149_2)⟩ (fun hHeld => ?_); clear hK K; refine nm 52 ?_; refine pu 9 53 (fb 11 1023) HT_ ?_; refine last_ (i := 10) (N := none) (fb 11 2047) rfl rfl (one_of HT_.out (by kernel_rfl)) (by decide) (fun K hK => ?_); have ⟨hs54, hfs54⟩ := Yc1 a8.out; have df := an.out; have dg := ap.out; have dh := aq.out; have di := aM.out; have dj := aQ.out; have dk := aR.out; refine skip_ (w1 := ?_) (by rfl) rfl ?_ ?_; rotate_left
            ·go_simp; rfl
            refine hK.out _ _ ?_; clear hK K; refine done_ (done_of HT_.out (by kernel_rfl)) ?_
            try go_wp2
            go_roundg ar
            case measure => have := HK1.out; have := HJ11.out; omega
            case rel => exact ⟨(true), (wrap64 (a4 + 1)), (bX), (.slice cH bX.length cI), Ye1, Ye1, H', ⟨by have := HK1.out; have := HJ11.out; omega⟩, ⟨rf cn a8⟩, ⟨bkf a6.out an.out⟩, ⟨bkf a7.out ap.out⟩, ⟨bkf a9.out aq.out⟩, ⟨bp a8.out⟩, ⟨bf HB.out⟩⟩
           ·rw [if_neg bF] at H
            exact absurd H (by simp)
         ·rw [if_neg bE] at H
          exact absurd H (by simp)
        ·rw [if_neg bD] at H
         exact absurd H (by simp)
       ·rw [if_neg bC] at H
        exact absurd H (by simp)
      ·replace bB := Bool.eq_false_iff.mpr bB; subst bB
       have H1 : (if 0 ≤ a4 then (if a4 < (a5.length : Int) then (if ((rd_T37 a5 a4).f0).toList = a1_0.toList then (spec_l5Set.l0 ar ax (wrap64 (a4 + 1)) a5 a1_0 a1_1 a1_2 ad) else (if ad.length < 3518437208883 then (spec_l5Set.l0 ar ax (wrap64 (a4 + 1)) a5 a1_0 a1_1 a1_2 (ad ++ [(⟨(rd_T37 a5 a4).f0, (rd_T37 a5 a4).f1, (rd_T37 a5 a4).f2⟩ : S37)])) else (none))) else (none)) else (none)) = some r := by rw [if_neg (show ¬ (false = true) by decide)] at H; exact H
       clear H; have H := H1; clear H1
       by_cases bJ : 0 ≤ a4
       ·rw [if_pos bJ] at H
        have c55b0 : decide (0 ≤ a4) = true := decide_eq_true bJ; clear bJ
        by_cases bK : a4 < (a5.length : Int)
        ·rw [if_pos bK] at H
         have c56b0 : decide (a4 < (a5.length : Int)) = true := decide_eq_true bK; clear bK
         by_cases b5 : ((rd_T37 a5 a4).f0).toList = a1_0.toList
         ·rw [if_pos b5] at H
          have cJ : (((rd_T37 a5 a4).f0).toList == a1_0.toList) = true := beq_iff_eq.mpr b5; have cK : (((rd_T37 a5 a4).f0).toList != a1_0.toList) = false := bne_eq_false_iff_eq.mpr b5; clear b5; have H' := Aside0.mk H; clear H
          try go_wp2
          refine Ya6 (Kd.R_drew aa.out) (blk_drew a6.out) (blk_drew a7.out) (blk_drew a9.out) (blk_drew a8.out) (below_drew1 HB.out) ?_; clear aa a6 a7 a9 a8 HB; intro aa a6 a7 a9 a8 HB; have b6 : 0 ≤ (a4 : Int) := oda; have b7 : a4 < (a5.length : Int) := oda; obtain ⟨ah, c0, aI, aJ, aK⟩ := at_T37 aN.out a4 b6 b7; have hw153_2 := aK; have hw153_1 := aJ; have hw153_0 := aI
          cases c0
          replace aI := pw_cell_below HB.out aI; replace aJ := pw_cell_below HB.out aJ; replace aK := pw_cell_below HB.out aK; replace b6 := eq_true b6; replace b7 := eq_true b7; refine start_ (n := 9) (S := fun w' => w'.cell? ⟨ak, 0, none⟩ = some (.slice (some ah) a5.length aj) ∧ w'.cell? ⟨ac, 0, none⟩ = some (.string a1_0) ∧ w'.cell? ⟨ac, 1, none⟩ = some (.string a1_1) ∧ w'.cell? ⟨ac, 2, none⟩ = some (.bool a1_2) ∧ w'.cell? (ah.add ((a4).toNat * 3)) = some (.string ((rd_T37 a5 a4).f0)) ∧ w'.cell? ⟨(ah.add ((a4).toNat * 3)).block, (ah.add ((a4).toNat * 3)).off + 1, none⟩ = some (.string ((rd_T37 a5 a4).f1)) ∧ w'.cell? ⟨(ah.add ((a4).toNat * 3)).block, (ah.add ((a4).toNat * 3)).off + 2, none⟩ = some (.bool ((rd_T37 a5 a4).f2))) (ds := []) (fb 9 0) (by kernel_rfl) rfl rfl ⟨bc a6 0, bc a7 0, bc a7 1, bc a7 2, (pw_cell_below HB.out hw153_0), (pw_cell_below HB.out hw153_1), (pw_cell_below HB.out hw153_2)⟩ (fun hHeld => ?_); refine with_tabW spec_l5Set.tab9 spec_l5Set.bits9 (fun HT_ HW_ => ?_); generalize wc.drew = w58 at aa a6 a7 a9 a8 HB aI aJ aK hHeld ⊢; refine pu 0 35 (fb 9 1) HT_ ?_; refine pu 2 37 (fb 9 5) HT_ ?_; refine pu 6 41 (fb 9 69) HT_ ?_; refine tk 1 36 (fb 9 71) HT_ HW_ hHeld ?_; refine pu 3 38 (fb 9 79) HT_ ?_; refine pu 4 39 (fb 9 95) HT_ ?_; refine tk 5 40 (fb 9 127) HT_ HW_ hHeld ?_; refine tk 7 42 (fb 9 255) HT_ HW_ hHeld ?_; refine pu 8 43 (fb 9 511) HT_ ?_; refine done_ (done_of HT_.out (by kernel_rfl)) ?_
          try go_wp2
          go_roundg ar
          case measure => have := HK1.out; have := HJ11.out; omega
          case rel => exact ⟨(ax), (wrap64 (a4 + 1)), (ad), (al), Ye1, Ye1, H', ⟨by have := HK1.out; have := HJ11.out; omega⟩, ⟨kr aa.out⟩, ⟨bk a6.out⟩, ⟨bk a7.out⟩, ⟨bk a9.out⟩, ⟨bk a8.out⟩, ⟨bf HB.out⟩⟩
         ·rw [if_neg b5] at H
          have cJ : (((rd_T37 a5 a4).f0).toList == a1_0.toList) = false := beq_eq_false_iff_ne.mpr b5; have cK : (((rd_T37 a5 a4).f0).toList != a1_0.toList) = true := bne_iff_ne.mpr b5
          by_cases bL : ad.length < 3518437208883
          ·rw [if_pos bL] at H
           have cL := Aside0.mk bL; clear bL
           obtain ⟨ca, bo⟩ : ∃ y_ : List (S37), y_ = (ad ++ [(⟨(rd_T37 a5 a4).f0, (rd_T37 a5 a4).f1, (rd_T37 a5 a4).f2⟩ : S37)]) := ⟨_, rfl⟩
           replace H : (spec_l5Set.l0 ar ax (wrap64 (a4 + 1)) a5 a1_0 a1_1 a1_2 ca) = some r := by first | (rw [bo]; with_reducible exact H) | (have H2_ := (Option.bind_some _ _).symm.trans H; rw [bo]; with_reducible exact H2_) | (have H2_ := (Option.bind_some _ _).symm.trans H; with_reducible exact H2_) | with_reducible exact H | (rw [bo]; exact H) | exact H
           have cM := Aside0.mk bo; clear bo; have H' := Aside0.mk H; clear H
           try go_wp2
           refine Ya6 (Kd.R_drew aa.out) (blk_drew a6.out) (blk_drew a7.out) (blk_drew a9.out) (blk_drew a8.out) (below_drew1 HB.out) ?_; clear aa a6 a7 a9 a8 HB; intro aa a6 a7 a9 a8 HB; have b6 : 0 ≤ (a4 : Int) := oda; have b7 : a4 < (a5.length : Int) := oda; obtain ⟨ah, c0, aI, aJ, aK⟩ := at_T37 aN.out a4 b6 b7; have hw153_2 := aK; have hw153_1 := aJ; have hw153_0 := aI
           cases c0
           replace aI := pw_cell_below HB.out aI; replace aJ := pw_cell_below HB.out aJ; replace aK := pw_cell_below HB.out aK; replace b6 := eq_true b6; replace b7 := eq_true b7; refine start_ (n := 9) (S := fun w' => w'.cell? ⟨ak, 0, none⟩ = some (.slice (some ah) a5.length aj) ∧ w'.cell? ⟨ac, 0, none⟩ = some (.string a1_0) ∧ w'.cell? ⟨ac, 1, none⟩ = some (.string a1_1) ∧ w'.cell? ⟨ac, 2, none⟩ = some (.bool a1_2) ∧ w'.cell? (ah.add ((a4).toNat * 3)) = some (.string ((rd_T37 a5 a4).f0)) ∧ w'.cell? ⟨(ah.add ((a4).toNat * 3)).block, (ah.add ((a4).toNat * 3)).off + 1, none⟩ = some (.string ((rd_T37 a5 a4).f1)) ∧ w'.cell? ⟨(ah.add ((a4).toNat * 3)).block, (ah.add ((a4).toNat * 3)).off + 2, none⟩ = some (.bool ((rd_T37 a5 a4).f2))) (ds := []) (fb 9 0) (by kernel_rfl) rfl rfl ⟨bc a6 0, bc a7 0, bc a7 1, bc a7 2, (pw_cell_below HB.out hw153_0), (pw_cell_below HB.out hw153_1), (pw_cell_below HB.out hw153_2)⟩ (fun hHeld => ?_); refine with_tabW spec_l5Set.tab9 spec_l5Set.bits9 (fun HT_ HW_ => ?_); generalize wc.drew = w60 at aa a6 a7 a9 a8 HB aI aJ aK hHeld ⊢; refine pu 0 35 (fb 9 1) HT_ ?_; refine pu 2 37 (fb 9 5) HT_ ?_; refine pu 6 41 (fb 9 69) HT_ ?_; refine tk 1 36 (fb 9 71) HT_ HW_ hHeld ?_; refine pu 3 38 (fb 9 79) HT_ ?_; refine pu 4 39 (fb 9 95) HT_ ?_; refine tk 5 40 (fb 9 127) HT_ HW_ hHeld ?_; refine tk 7 42 (fb 9 255) HT_ HW_ hHeld ?_; refine pu 8 43 (fb 9 511) HT_ ?_; refine done_ (done_of HT_.out (by kernel_rfl)) ?_
           try go_wp2
           refine Ya6 (Kd.R_drew aa.out) (blk_drew a6.out) (blk_drew a7.out) (blk_drew a9.out) (blk_drew a8.out) (below_drew1 HB.out) ?_; clear aa a6 a7 a9 a8 HB; intro aa a6 a7 a9 a8 HB; have cc : 0 ≤ (a4 : Int) := oda; have cd : a4 < (a5.length : Int) := oda; obtain ⟨cN, cO, bM, bN, bO⟩ := at_T37 aN.out a4 cc cd; have hw154_2 := bO; have hw154_1 := bN; have hw154_0 := bM
           obtain rfl : ah = cN := (by injection cO)
           replace bM := pw_cell_below HB.out bM; replace bN := pw_cell_below HB.out bN; replace bO := pw_cell_below HB.out bO; replace cc := eq_true cc; replace cd := eq_true cd; refine start_ (n := 11) (S := fun w' => w'.cell? ⟨af, 0, none⟩ = some (al) ∧ w'.cell? ⟨ak, 0, none⟩ = some (.slice (some ah) a5.length aj) ∧ w'.cell? (ah.add ((a4).toNat * 3)) = some (.string ((rd_T37 a5 a4).f0)) ∧ w'.cell? ⟨(ah.add ((a4).toNat * 3)).block, (ah.add ((a4).toNat * 3)).off + 1, none⟩ = some (.string ((rd_T37 a5 a4).f1)) ∧ w'.cell? ⟨(ah.add ((a4).toNat * 3)).block, (ah.add ((a4).toNat * 3)).off + 2, none⟩ = some (.bool ((rd_T37 a5 a4).f2))) (ds := [10]) (fb 11 0) (by kernel_rfl) rfl rfl ⟨bc a8 0, bc a6 0, (pw_cell_below HB.out hw154_0), (pw_cell_below HB.out hw154_1), (pw_cell_below HB.out hw154_2)⟩ (fun hHeld => ?_); refine with_tabW spec_l5Set.tab10 spec_l5Set.bits10 (fun HT_ HW_ => ?_); generalize w60.drew = w61 at aa a6 a7 a9 a8 HB bM bN bO hHeld ⊢; refine pu 0 44 (fb 11 1) HT_ ?_; refine pu 2 46 (fb 11 5) HT_ ?_; refine pu 4 48 (fb 11 21) HT_ ?_; refine tk 1 45 (fb 11 23) HT_ HW_ hHeld ?_; refine tk 3 47 (fb 11 31) HT_ HW_ hHeld ?_; refine pu 5 49 (fb 11 63) HT_ ?_; refine tk 6 50 (fb 11 127) HT_ HW_ hHeld ?_; refine o1 7 (some 51) (fb 11 255) HT_ (fun K hK => ?_); refine value_ (w1 := ?_) (v := ?_) (by rfl) rfl ?_ ?_; rotate_left 2
           ·go_simp
            constructor
            ·rfl
            ·rfl
           refine hK.out _ _ ⟨(blk_cell (blk_alloc a8.out _) 0).trans rfl, (blk_cell (blk_alloc a6.out _) 0).trans rfl, (World.cell?_alloc_lt _ _ _ (World.block_lt_of_cell? _ _ ((pw_cell_below HB.out hw154_0)))).trans ((pw_cell_below HB.out hw154_0)), (World.cell?_alloc_lt _ _ _ (World.block_lt_of_cell? _ _ ((pw_cell_below HB.out hw154_1)))).trans ((pw_cell_below HB.out hw154_1)), (World.cell?_alloc_lt _ _ _ (World.block_lt_of_cell? _ _ ((pw_cell_below HB.out hw154_2)))).trans ((pw_cell_below HB.out hw154_2))⟩ (fun hHeld => ?_); clear hK K; refine nm 51 ?_; refine o1 8 (some 52) (fb 11 511) HT_ (fun K hK => ?_); refine Kd.R_append_step k37 (w0 := w) w.heap.size (by rfl) (.tmp 45) (.tmp 51) 26 37 (.agg #[(.string ⟨#[]⟩), (.string ⟨#[]⟩), (.bool false)]) 40 rfl Tryd.underlying26 info37 rfl (by decide) (by omega) al ad (⟨(rd_T37 a5 a4).f0, (rd_T37 a5 a4).f1, (rd_T37 a5 a4).f2⟩ : S37) [.string ((rd_T37 a5 a4).f0), .string ((rd_T37 a5 a4).f1), .bool ((rd_T37 a5 a4).f2)] (fun k_ => k_ ≠ ac) (fun _ => False) rfl rfl ?aP (fun _ hk => hk.elim) ?aF ?aO ?aB ?aS ?aL ?_; (case aP => exact k37_mkM _ _ _ (⟨(rd_T37 a5 a4).f0, (rd_T37 a5 a4).f1, (rd_T37 a5 a4).f2⟩ : S37)); (case aB => exact (bf HB.out)); (case aF => exact (fun k_ hk => Kd.freshB (g := ac) (o := .cells #[.string a1_0, .string a1_1, .bool a1_2] 37 (0, 0)) (bk a7.out) k_ hk)); (case aO => exact (kr aa.out)); (case aS => exact (below_size (bf HB.out))); (case aL => have := cL.out; omega); intro v156 w62 ho hb hg hat
           rw [← cM.out] at ho
           refine Ya6 (blk_grown (g := ak) (o := .cells #[.slice (some ah) a5.length aj] 28 (0, 0)) (bk a6.out) hg (Kd.R_ne aa.out a6.out (by decide))) (blk_grown (g := ac) (o := .cells #[.string a1_0, .string a1_1, .bool a1_2] 37 (0, 0)) (bk a7.out) hg (Kd.R_away aa.out (fun _ hk => hk))) (blk_grown (g := am) (o := .cells #[.slice none 0 0] 28 (0, 0)) (bk a9.out) hg (Kd.R_ne aa.out a9.out (by decide))) (blk_grown (g := af) (o := .cells #[al] 28 (0, 0)) (bk a8.out) hg (Kd.R_ne aa.out a8.out (by decide))) (hb) (ho) ?_; clear a6 a7 a9 a8 HB aa; intro a6 a7 a9 a8 HB cp; clear ho hb hg hat; obtain ⟨cP, cQ, cq⟩ := Kd.R_slice cp.out; (first | subst cq | (injection cq with f1_ f2_ f3_; have f4_ := f1_.symm; have f5_ := f3_.symm; clear f1_ f2_ f3_; subst f4_; subst f5_)); refine hK.out _ _ ⟨bc a8 0, bc a6 0, (pw_cell_below HB.out hw154_0), (pw_cell_below HB.out hw154_1), (pw_cell_below HB.out hw154_2)⟩ (fun hHeld => ?_); clear hK K; refine nm 52 ?_; refine pu 9 53 (fb 11 1023) HT_ ?_; refine last_ (i := 10) (N := none) (fb 11 2047) rfl rfl (one_of HT_.out (by kernel_rfl)) (by decide) (fun K hK => ?_); have ⟨hs64, hfs64⟩ := Yc1 a8.out; have dl := an.out; have dm := ap.out; have dn := aq.out; have dp := aM.out; have dq := aQ.out; have dr := aR.out; refine skip_ (w1 := ?_) (by rfl) rfl ?_ ?_; rotate_left
           ·go_simp; rfl
           refine hK.out _ _ ?_; clear hK K; refine done_ (done_of HT_.out (by kernel_rfl)) ?_
           try go_wp2
           go_roundg ar
           case measure => have := HK1.out; have := HJ11.out; omega
           case rel => exact ⟨(ax), (wrap64 (a4 + 1)), (ca), (.slice cP ca.length cQ), Ye1, Ye1, H', ⟨by have := HK1.out; have := HJ11.out; omega⟩, ⟨rf cp a8⟩, ⟨bkf a6.out an.out⟩, ⟨bkf a7.out ap.out⟩, ⟨bkf a9.out aq.out⟩, ⟨bp a8.out⟩, ⟨bf HB.out⟩⟩
          ·rw [if_neg bL] at H
           exact absurd H (by simp)
        ·rw [if_neg bK] at H
         exact absurd H (by simp)
       ·rw [if_neg bJ] at H
        exact absurd H (by simp)
   ·rw [if_neg aT] at H
    have ck : decide (a4 < (a5.length : Int)) = false := decide_eq_false aT; clear aT
    by_cases bP : ax = true
    ·subst bP
     have H1 : (some ad) = some r := by rw [if_pos rfl] at H; exact H
     clear H; have H := H1; clear H1; obtain rfl := Option.some.inj H; have hnb66 := b9.out; have hnc66 := ba.out; have hnb67 := bS.out; have hnc67 := bT.out; have hnb68 := an.out; have hnc68 := aM.out; have ⟨dt, du⟩ := Yc1 a6.out; have hnb70 := aQ.out; have hnc70 := ap.out; have hnb71 := aR.out; have hnc71 := aq.out; have ⟨dv, dw⟩ := Yc1 a8.out; obtain ⟨cr, cs, cR⟩ := Kd.R_slice aa.out; subst cR; have hnb74 := bv.out; have hnc74 := bu.out; have ⟨dx, dy⟩ := Yc1 a9.out
     go_wp2
     refine bodyPost_ret (results_cell_row rfl _ _ am 28 #[.slice cr ad.length cs] (0, 0) _ rfl (bp a9.out) Tryd.underlying28 rfl (by kernel_rfl)) rfl ?_; exact ⟨_, Ye2, by (with_reducible repeat (first | apply Kd.R_alloc | apply Kd.R_drewN | apply Kd.R_drew)); exact Kd.R_mono (Kd.R_far (p := ⟨am, 0, none⟩) (Kd.R_types aa.out a9.out (by decide)) (fun _ hk => hk.2) (.slice cr ad.length cs)) (fun _ hk => trivial), (bf HB.out)⟩
    ·replace bP := Bool.eq_false_iff.mpr bP; subst bP
     have H1 : (if ad.length < 3518437208883 then (some (ad ++ [(⟨a1_0, a1_1, a1_2⟩ : S37)])) else (none)) = some r := by rw [if_neg (show ¬ (false = true) by decide)] at H; exact H
     clear H; have H := H1; clear H1
     by_cases bQ : ad.length < 3518437208883
     ·rw [if_pos bQ] at H
      have cS := Aside0.mk bQ; clear bQ
      obtain ⟨bR, bq⟩ : ∃ y_ : List (S37), y_ = (ad ++ [(⟨a1_0, a1_1, a1_2⟩ : S37)]) := ⟨_, rfl⟩
      replace H : (some bR) = some r := by first | (rw [bq]; with_reducible exact H) | (have H2_ := (Option.bind_some _ _).symm.trans H; rw [bq]; with_reducible exact H2_) | (have H2_ := (Option.bind_some _ _).symm.trans H; with_reducible exact H2_) | with_reducible exact H | (rw [bq]; exact H) | exact H
      have cT := Aside0.mk bq; clear bq; obtain rfl := Option.some.inj H; have hnb77 := b9.out; have hnc77 := ba.out; have hnb78 := bS.out; have hnc78 := bT.out; have hnb79 := an.out; have hnc79 := aM.out; have ⟨dA, dB⟩ := Yc1 a6.out; have hnb81 := aQ.out; have hnc81 := ap.out; have hnb82 := aR.out; have hnc82 := aq.out; have ⟨dC, dD⟩ := Yc1 a8.out; have hnb84 := bu.out; have hnc84 := bv.out; have ⟨dE, dF, dG, dH, dI, dJ⟩ := Yc3 a7.out
      go_wp2_with (first | ((with_reducible refine gate_builtin (b := .append) (xs := #[.tmp 57, .tmp 59]) rfl ?_); at_builtin; refine Kd.R_append k37 (w0 := w) w.heap.size rfl (.tmp 57) (.tmp 59) 26 37 (.agg #[(.string ⟨#[]⟩), (.string ⟨#[]⟩), (.bool false)]) 40 rfl Tryd.underlying26 info37 rfl (by decide) (by omega) al ad (⟨a1_0, a1_1, a1_2⟩ : S37) [.string a1_0, .string a1_1, .bool a1_2] (fun k_ => k_ ≠ ac) (fun _ => False) rfl rfl ?aP (fun _ hk => hk.elim) ?aF ?aO ?aB ?aS ?aL ?_; (case aP => exact k37_mkM _ _ _ (⟨a1_0, a1_1, a1_2⟩ : S37)); (case aB => exact (bf HB.out)); (case aF => exact (fun k_ hk => Kd.freshB (g := ac) (o := .cells #[.string a1_0, .string a1_1, .bool a1_2] 37 (0, 0)) (bk a7.out) k_ hk)); (case aO => exact (kr aa.out)); (case aS => exact (below_size (bf HB.out))); (case aL => have := cS.out; omega); intro v142 w86 ho hb hg hat; rw [← cT.out] at ho; refine Ya6 (blk_grown (g := ak) (o := .cells #[.slice ay a5.length aj] 28 (0, 0)) (bk a6.out) hg (Kd.R_ne aa.out a6.out (by decide))) (blk_grown (g := ac) (o := .cells #[.string a1_0, .string a1_1, .bool a1_2] 37 (0, 0)) (bk a7.out) hg (Kd.R_away aa.out (fun _ hk => hk))) (blk_grown (g := am) (o := .cells #[.slice none 0 0] 28 (0, 0)) (bk a9.out) hg (Kd.R_ne aa.out a9.out (by decide))) (blk_grown (g := af) (o := .cells #[al] 28 (0, 0)) (bk a8.out) hg (Kd.R_ne aa.out a8.out (by decide))) (hb) (ho) ?_; clear a6 a7 a9 a8 HB aa; intro a6 a7 a9 a8 HB ct; clear ho hb hg hat; obtain ⟨ce, cf, cU⟩ := Kd.R_slice ct.out; subst cU; have ⟨dK, dL⟩ := Yc1 a8.out; have ⟨dM, dN⟩ := Yc1 a9.out))
      refine bodyPost_ret (results_cell_row rfl _ _ am 28 #[.slice ce bR.length cf] (0, 0) _ rfl (bp a9.out) Tryd.underlying28 rfl (by kernel_rfl)) rfl ?_; exact ⟨_, Ye2, by (with_reducible repeat (first | apply Kd.R_alloc | apply Kd.R_drewN | apply Kd.R_drew)); exact Kd.R_mono (Kd.R_far (p := ⟨am, 0, none⟩) (Kd.R_far (p := ⟨af, 0, none⟩) (Kd.R_types (Kd.R_types ct.out a8.out (by decide)) a9.out (by decide)) (fun _ hk => hk.1.2) (.slice ce bR.length cf)) (fun _ hk => hk.2) (.slice ce bR.length cf)) (fun _ hk => trivial), (bf HB.out)⟩
     ·rw [if_neg bQ] at H
      exact absurd H (by simp)

end Go.Proofs.YtgnmledjkamojaaDoor.P


namespace Go.Proofs.YtgnmledjkamojaaDoor.P
open Go.RowKit Go.Proofs.YtgnmledjkamojaaDoorW.PrintWords Go.Proofs.YtgnmledjkamojaaDoorW.PrintLast Go.Proofs.YtgnmledjkamojaaDoorW.PrintMore
attribute [local go_sem] max2_int min2_int max_two min_two max_three min_three max_four min_four
set_option linter.unusedVariables false
set_option linter.unusedSimpArgs false

/-! ### laws_heldEntryS: function 74 -/
def laws_heldEntryS.l0 : Nat → List (S37) → Int → Int → Option (Int)
 | 0, _, _, _ => none
 | k + 1, x0, x1, x5 => if x5 < (x0.length : Int) then (if 0 ≤ x5 then ((laws_markText.f k x1).bind fun ae => (if ((rd_T37 x0 x5).f0).toList = ae.toList then ((laws_markText.f k (wrap64 (x1 + 1))).bind fun ad => (if ((rd_T37 x0 x5).f1).toList = ad.toList then (if (((rd_T37 x0 x5).f2) != ((Int.tmod (wrap64 ((wrap64 (x1 + 1)) + 1)) 3) == 0)) = true then (some (-1)) else (laws_heldEntryS.l0 k x0 (wrap64 ((wrap64 ((wrap64 (x1 + 1)) + 1)) + 1)) (wrap64 (x5 + 1)))) else (some (-1)))) else (some (-1)))) else (none)) else (some x1)
def laws_heldEntryS.f (k : Nat) (l0 : List (S37)) (a1 : Int) : Option (Int) := laws_heldEntryS.l0 k l0 a1 0
theorem laws_heldEntryS.mono_l : ∀ k, (∀ y0 y1 y2, LeO (laws_heldEntryS.l0 k y0 y1 y2) (laws_heldEntryS.l0 (k + 1) y0 y1 y2))
 | 0 => fun _ _ _ r h => by simp [laws_heldEntryS.l0] at h
 | k + 1 => by
  have ih0 := laws_heldEntryS.mono_l k
  ·intro y0 y1 y2
   unfold laws_heldEntryS.l0
   repeat' first
   | (with_reducible exact ih0 _ _ _)
   | (with_reducible exact laws_markText.mono _ _)
   | (with_reducible exact LeO.refl _)
   | (with_reducible exact LeO.none _)
   | (with_reducible refine LeO.ite ?_ ?_)
   | (with_reducible refine LeO.bind ?_ (fun _ => ?_))
   | exact ih0 _ _ _
   | exact laws_markText.mono _ _
   | exact LeO.none _
   | refine LeO.ite ?_ ?_
   | refine LeO.bind ?_ (fun _ => ?_)
theorem laws_heldEntryS.mono : ∀ a0 a1 k, LeO (laws_heldEntryS.f k a0 a1) (laws_heldEntryS.f (k + 1) a0 a1) := by
 intro a0 a1 k; have ih0 := laws_heldEntryS.mono_l k
 unfold laws_heldEntryS.f
 repeat' first
   | (with_reducible exact ih0 _ _ _)
   | (with_reducible exact laws_markText.mono _ _)
   | (with_reducible exact LeO.refl _)
   | (with_reducible exact LeO.none _)
   | (with_reducible refine LeO.ite ?_ ?_)
   | (with_reducible refine LeO.bind ?_ (fun _ => ?_))
   | exact ih0 _ _ _
   | exact laws_markText.mono _ _
   | exact LeO.none _
   | refine LeO.ite ?_ ?_
   | refine LeO.bind ?_ (fun _ => ?_)
def laws_heldEntryS.T4 : Bool × List (List Nat × List Nat) := (true, [([], []), ([], []), ([0, 1], [0, 1]), ([2], [2]), ([3], [3]), ([], []), ([5], [5]), ([4, 6], [4, 6])])
def laws_heldEntryS.B4 : List Nat := [0, 0, 3, 7, 15, 0, 32, 127]
theorem laws_heldEntryS.tab4 : rtab .any (opsOf Tryd.f74 4) = laws_heldEntryS.T4 := by kernel_rfl
theorem laws_heldEntryS.bits4 : waitsOk laws_heldEntryS.T4.2 laws_heldEntryS.B4 = true := by kernel_rfl
def laws_heldEntryS.T7 : Bool × List (List Nat × List Nat) := (true, [([], []), ([], []), ([0, 1], [0, 1]), ([2], [2]), ([3], [3]), ([], []), ([5], [5]), ([4, 6], [4, 6])])
def laws_heldEntryS.B7 : List Nat := [0, 0, 3, 7, 15, 0, 32, 127]
theorem laws_heldEntryS.tab7 : rtab .any (opsOf Tryd.f74 7) = laws_heldEntryS.T7 := by kernel_rfl
theorem laws_heldEntryS.bits7 : waitsOk laws_heldEntryS.T7.2 laws_heldEntryS.B7 = true := by kernel_rfl
set_option maxHeartbeats 8000000 in
set_option maxRecDepth 100000 in
theorem laws_heldEntryS.calls (k : Nat) (A0 : Option Addr) (c0 : Nat) (l0 : List (S37)) (a1 : Int) (r : Int) (w : World) (hr0 : Kd.C k37 w A0 l0.length l0) (hc0 : l0.length ≤ c0) (h : laws_heldEntryS.f k l0 a1 = some r) :
  Calls Tryd.prog 74 #[.slice A0 l0.length c0, .int .i64 a1] w fun e w' => e = .returned (.int .i64 r) ∧ Below w.heap.size w w' := by
 have ah := Aside0.mk hr0; have HC0 := Aside0.mk hc0; clear hr0 hc0; have HB := Aside0.mk (Below.refl w.heap.size w); have H : (laws_heldEntryS.l0 k l0 a1 0) = some r := h; clear h; have H' := Aside0.mk H; clear H
 go_enter Tryd.func74, Tryd.ntmps74
 go_wp2
 go_loopg [1, 5] k (fun kq v1 v5 w' => ∃ (a4 : Int) (a2 : Int), v1 = .int .i64 a4 ∧ v5 = .int .i64 a2 ∧ Aside0 (laws_heldEntryS.l0 kq l0 a4 a2 = some r) ∧ Aside0 (kq ≤ k) ∧ Aside0 (Below w.heap.size w w'))
 case atStart => exact ⟨(a1), (0), Ye1, Ye1, H', ⟨Nat.le_refl _⟩, ⟨be HB.out⟩⟩
 case round =>
  clear H'; (try clear p2); obtain ⟨a4, a2, rfl, rfl, HA, HK1, HB⟩ := hrel
  cases gk with
  | zero => exact absurd HA.out (by simp [laws_heldEntryS.l0])
  | succ k1 =>
   have H := HA.out; clear HA; simp only [laws_heldEntryS.l0] at H
   by_cases c3 : a2 < (l0.length : Int)
   ·rw [if_pos c3] at H
    have au : decide (a2 < (l0.length : Int)) = true := decide_eq_true c3; clear c3
    by_cases c4 : 0 ≤ a2
    ·rw [if_pos c4] at H
     have c4b0 : decide (0 ≤ a2) = true := decide_eq_true c4; clear c4; replace H := Option.bind_eq_some_iff.mp H; obtain ⟨ae, A50, H⟩ := H; replace H : (if ((rd_T37 l0 a2).f0).toList = ae.toList then ((laws_markText.f k1 (wrap64 (a4 + 1))).bind fun ad => (if ((rd_T37 l0 a2).f1).toList = ad.toList then (if (((rd_T37 l0 a2).f2) != ((Int.tmod (wrap64 ((wrap64 (a4 + 1)) + 1)) 3) == 0)) = true then (some (-1)) else (laws_heldEntryS.l0 k1 l0 (wrap64 ((wrap64 ((wrap64 (a4 + 1)) + 1)) + 1)) (wrap64 (a2 + 1)))) else (some (-1)))) else (some (-1))) = some r := H; have A5 := Aside0.mk A50; clear A50
     by_cases c6 : ((rd_T37 l0 a2).f0).toList = ae.toList
     ·rw [if_pos c6] at H
      have av : (((rd_T37 l0 a2).f0).toList == ae.toList) = true := beq_iff_eq.mpr c6; have aw : (((rd_T37 l0 a2).f0).toList != ae.toList) = false := bne_eq_false_iff_eq.mpr c6; clear c6; replace H := Option.bind_eq_some_iff.mp H; obtain ⟨ad, A70, H⟩ := H; replace H : (if ((rd_T37 l0 a2).f1).toList = ad.toList then (if (((rd_T37 l0 a2).f2) != ((Int.tmod (wrap64 ((wrap64 (a4 + 1)) + 1)) 3) == 0)) = true then (some (-1)) else (laws_heldEntryS.l0 k1 l0 (wrap64 ((wrap64 ((wrap64 (a4 + 1)) + 1)) + 1)) (wrap64 (a2 + 1)))) else (some (-1))) = some r := H; have A7 := Aside0.mk A70; clear A70
      by_cases c8 : ((rd_T37 l0 a2).f1).toList = ad.toList
      ·rw [if_pos c8] at H
       have ax : (((rd_T37 l0 a2).f1).toList == ad.toList) = true := beq_iff_eq.mpr c8; have ay : (((rd_T37 l0 a2).f1).toList != ad.toList) = false := bne_eq_false_iff_eq.mpr c8; clear c8
       by_cases c9 : (((rd_T37 l0 a2).f2) != ((Int.tmod (wrap64 ((wrap64 (a4 + 1)) + 1)) 3) == 0)) = true
       ·rw [if_pos c9] at H
        have az : (((rd_T37 l0 a2).f2) != ((Int.tmod (wrap64 ((wrap64 (a4 + 1)) + 1)) 3) == 0)) = true := c9; (try (have aA : decide (((rd_T37 l0 a2).f2) = ((Int.tmod (wrap64 ((wrap64 (a4 + 1)) + 1)) 3) == 0)) = false := by simpa using c9)); (try (have aB : (((rd_T37 l0 a2).f2) == ((Int.tmod (wrap64 ((wrap64 (a4 + 1)) + 1)) 3) == 0)) = false := by simpa using c9)); (try (have c9b3 : ¬ (((rd_T37 l0 a2).f2) = ((Int.tmod (wrap64 ((wrap64 (a4 + 1)) + 1)) 3) == 0)) := by simpa using c9)); clear c9; obtain rfl := Option.some.inj H
        try go_wp2
        refine Ya1 (below_drew1 HB.out) ?_; clear HB; intro HB; have a8 : 0 ≤ (a2 : Int) := oda; have a9 : a2 < (l0.length : Int) := oda; obtain ⟨a3, ai, a5, a6, a7⟩ := at_T37 ah.out a2 a8 a9; have hw250_2 := a7; have hw250_1 := a6; have hw250_0 := a5
        cases ai
        replace a5 := pw_cell_below HB.out a5; replace a6 := pw_cell_below HB.out a6; replace a7 := pw_cell_below HB.out a7; replace a8 := eq_true a8; replace a9 := eq_true a9; refine start_ (n := 8) (S := fun w' => w'.cell? (a3.add ((a2).toNat * 3)) = some (.string ((rd_T37 l0 a2).f0)) ∧ w'.cell? ⟨(a3.add ((a2).toNat * 3)).block, (a3.add ((a2).toNat * 3)).off + 1, none⟩ = some (.string ((rd_T37 l0 a2).f1)) ∧ w'.cell? ⟨(a3.add ((a2).toNat * 3)).block, (a3.add ((a2).toNat * 3)).off + 2, none⟩ = some (.bool ((rd_T37 l0 a2).f2))) (ds := []) (fb 8 0) (by kernel_rfl) rfl rfl ⟨(pw_cell_below HB.out hw250_0), (pw_cell_below HB.out hw250_1), (pw_cell_below HB.out hw250_2)⟩ (fun hHeld => ?_); refine with_tabW laws_heldEntryS.tab4 laws_heldEntryS.bits4 (fun HT_ HW_ => ?_); generalize wr.drew = w10 at HB a5 a6 a7 hHeld ⊢; refine pu 0 12 (fb 8 1) HT_ ?_; refine pu 1 13 (fb 8 3) HT_ ?_; refine pu 2 14 (fb 8 7) HT_ ?_; refine pu 3 15 (fb 8 15) HT_ ?_; refine pu 5 17 (fb 8 47) HT_ ?_; refine tk 4 16 (fb 8 63) HT_ HW_ hHeld ?_; refine o1 6 (some 18) (fb 8 127) HT_ (fun K hK => ?_); refine gs _ (#[.int .i64 a4]) Tryd.func144 ?_; (with_reducible refine (laws_markText.calls k1 a4 ae _ A5.out).mono ?_); rintro e w11 ⟨rfl, hb⟩; refine ⟨_, rfl, ?_⟩; refine Ya1 (below_step (be HB.out) hb) ?_; clear HB; intro HB; (try clear hb); (try clear hb2); (try clear hk); (try clear hi); refine hK.out _ _ ⟨(pw_cell_below HB.out hw250_0), (pw_cell_below HB.out hw250_1), (pw_cell_below HB.out hw250_2)⟩ (fun hHeld => ?_); clear hK K; refine nm 18 ?_; refine pu 7 19 (fb 8 255) HT_ ?_; refine done_ (done_of HT_.out (by kernel_rfl)) ?_
        try go_wp2
        refine Ya1 (below_drew1 HB.out) ?_; clear HB; intro HB; have af : 0 ≤ (a2 : Int) := oda; have ag : a2 < (l0.length : Int) := oda; obtain ⟨al, am, aa, ab, ac⟩ := at_T37 ah.out a2 af ag; have hw252_2 := ac; have hw252_1 := ab; have hw252_0 := aa
        obtain rfl : a3 = al := (by injection am)
        replace aa := pw_cell_below HB.out aa; replace ab := pw_cell_below HB.out ab; replace ac := pw_cell_below HB.out ac; replace af := eq_true af; replace ag := eq_true ag; refine start_ (n := 8) (S := fun w' => w'.cell? (a3.add ((a2).toNat * 3)) = some (.string ((rd_T37 l0 a2).f0)) ∧ w'.cell? ⟨(a3.add ((a2).toNat * 3)).block, (a3.add ((a2).toNat * 3)).off + 1, none⟩ = some (.string ((rd_T37 l0 a2).f1)) ∧ w'.cell? ⟨(a3.add ((a2).toNat * 3)).block, (a3.add ((a2).toNat * 3)).off + 2, none⟩ = some (.bool ((rd_T37 l0 a2).f2))) (ds := []) (fb 8 0) (by kernel_rfl) rfl rfl ⟨(pw_cell_below HB.out hw252_0), (pw_cell_below HB.out hw252_1), (pw_cell_below HB.out hw252_2)⟩ (fun hHeld => ?_); refine with_tabW laws_heldEntryS.tab7 laws_heldEntryS.bits7 (fun HT_ HW_ => ?_); generalize w11.drew = w12 at HB aa ab ac hHeld ⊢; refine pu 0 22 (fb 8 1) HT_ ?_; refine pu 1 23 (fb 8 3) HT_ ?_; refine pu 2 24 (fb 8 7) HT_ ?_; refine pu 3 25 (fb 8 15) HT_ ?_; refine pu 5 27 (fb 8 47) HT_ ?_; refine tk 4 26 (fb 8 63) HT_ HW_ hHeld ?_; refine o1 6 (some 28) (fb 8 127) HT_ (fun K hK => ?_); refine gs _ (#[.int .i64 (wrap64 (a4 + 1))]) Tryd.func144 ?_; (with_reducible refine (laws_markText.calls k1 (wrap64 (a4 + 1)) ad _ A7.out).mono ?_); rintro e w13 ⟨rfl, hb⟩; refine ⟨_, rfl, ?_⟩; refine Ya1 (below_step (be HB.out) hb) ?_; clear HB; intro HB; (try clear hb); (try clear hb2); (try clear hk); (try clear hi); refine hK.out _ _ ⟨(pw_cell_below HB.out hw252_0), (pw_cell_below HB.out hw252_1), (pw_cell_below HB.out hw252_2)⟩ (fun hHeld => ?_); clear hK K; refine nm 28 ?_; refine pu 7 29 (fb 8 255) HT_ ?_; refine done_ (done_of HT_.out (by kernel_rfl)) ?_; have aj : 0 ≤ (a2 : Int) := oda; have ak : a2 < (l0.length : Int) := oda; obtain ⟨aq, ar, an, ao, ap⟩ := at_T37 ah.out a2 aj ak
        obtain rfl : a3 = aq := (by injection ar)
        replace an := pw_cell_below HB.out an; replace ao := pw_cell_below HB.out ao; replace ap := pw_cell_below HB.out ap; replace aj := eq_true aj; replace ak := eq_true ak
        try go_wp2
        go_ret
        exact ⟨Ye2, be HB.out⟩
       ·rw [if_neg c9] at H
        have az : (((rd_T37 l0 a2).f2) != ((Int.tmod (wrap64 ((wrap64 (a4 + 1)) + 1)) 3) == 0)) = false := by simpa using c9
        (try (have aA : decide (((rd_T37 l0 a2).f2) = ((Int.tmod (wrap64 ((wrap64 (a4 + 1)) + 1)) 3) == 0)) = true := by simpa using c9)); (try (have aB : (((rd_T37 l0 a2).f2) == ((Int.tmod (wrap64 ((wrap64 (a4 + 1)) + 1)) 3) == 0)) = true := by simpa using c9)); clear c9; have H' := Aside0.mk H; clear H
        try go_wp2
        refine Ya1 (below_drew1 HB.out) ?_; clear HB; intro HB; have a8 : 0 ≤ (a2 : Int) := oda; have a9 : a2 < (l0.length : Int) := oda; obtain ⟨a3, ai, a5, a6, a7⟩ := at_T37 ah.out a2 a8 a9; have hw250_2 := a7; have hw250_1 := a6; have hw250_0 := a5
        cases ai
        replace a5 := pw_cell_below HB.out a5; replace a6 := pw_cell_below HB.out a6; replace a7 := pw_cell_below HB.out a7; replace a8 := eq_true a8; replace a9 := eq_true a9; refine start_ (n := 8) (S := fun w' => w'.cell? (a3.add ((a2).toNat * 3)) = some (.string ((rd_T37 l0 a2).f0)) ∧ w'.cell? ⟨(a3.add ((a2).toNat * 3)).block, (a3.add ((a2).toNat * 3)).off + 1, none⟩ = some (.string ((rd_T37 l0 a2).f1)) ∧ w'.cell? ⟨(a3.add ((a2).toNat * 3)).block, (a3.add ((a2).toNat * 3)).off + 2, none⟩ = some (.bool ((rd_T37 l0 a2).f2))) (ds := []) (fb 8 0) (by kernel_rfl) rfl rfl ⟨(pw_cell_below HB.out hw250_0), (pw_cell_below HB.out hw250_1), (pw_cell_below HB.out hw250_2)⟩ (fun hHeld => ?_); refine with_tabW laws_heldEntryS.tab4 laws_heldEntryS.bits4 (fun HT_ HW_ => ?_); generalize wr.drew = w14 at HB a5 a6 a7 hHeld ⊢; refine pu 0 12 (fb 8 1) HT_ ?_; refine pu 1 13 (fb 8 3) HT_ ?_; refine pu 2 14 (fb 8 7) HT_ ?_; refine pu 3 15 (fb 8 15) HT_ ?_; refine pu 5 17 (fb 8 47) HT_ ?_; refine tk 4 16 (fb 8 63) HT_ HW_ hHeld ?_; refine o1 6 (some 18) (fb 8 127) HT_ (fun K hK => ?_); refine gs _ (#[.int .i64 a4]) Tryd.func144 ?_; (with_reducible refine (laws_markText.calls k1 a4 ae _ A5.out).mono ?_); rintro e w15 ⟨rfl, hb⟩; refine ⟨_, rfl, ?_⟩; refine Ya1 (below_step (be HB.out) hb) ?_; clear HB; intro HB; (try clear hb); (try clear hb2); (try clear hk); (try clear hi); refine hK.out _ _ ⟨(pw_cell_below HB.out hw250_0), (pw_cell_below HB.out hw250_1), (pw_cell_below HB.out hw250_2)⟩ (fun hHeld => ?_); clear hK K; refine nm 18 ?_; refine pu 7 19 (fb 8 255) HT_ ?_; refine done_ (done_of HT_.out (by kernel_rfl)) ?_
        try go_wp2
        refine Ya1 (below_drew1 HB.out) ?_; clear HB; intro HB; have af : 0 ≤ (a2 : Int) := oda; have ag : a2 < (l0.length : Int) := oda; obtain ⟨al, am, aa, ab, ac⟩ := at_T37 ah.out a2 af ag; have hw252_2 := ac; have hw252_1 := ab; have hw252_0 := aa
        obtain rfl : a3 = al := (by injection am)
        replace aa := pw_cell_below HB.out aa; replace ab := pw_cell_below HB.out ab; replace ac := pw_cell_below HB.out ac; replace af := eq_true af; replace ag := eq_true ag; refine start_ (n := 8) (S := fun w' => w'.cell? (a3.add ((a2).toNat * 3)) = some (.string ((rd_T37 l0 a2).f0)) ∧ w'.cell? ⟨(a3.add ((a2).toNat * 3)).block, (a3.add ((a2).toNat * 3)).off + 1, none⟩ = some (.string ((rd_T37 l0 a2).f1)) ∧ w'.cell? ⟨(a3.add ((a2).toNat * 3)).block, (a3.add ((a2).toNat * 3)).off + 2, none⟩ = some (.bool ((rd_T37 l0 a2).f2))) (ds := []) (fb 8 0) (by kernel_rfl) rfl rfl ⟨(pw_cell_below HB.out hw252_0), (pw_cell_below HB.out hw252_1), (pw_cell_below HB.out hw252_2)⟩ (fun hHeld => ?_); refine with_tabW laws_heldEntryS.tab7 laws_heldEntryS.bits7 (fun HT_ HW_ => ?_); generalize w15.drew = w16 at HB aa ab ac hHeld ⊢; refine pu 0 22 (fb 8 1) HT_ ?_; refine pu 1 23 (fb 8 3) HT_ ?_; refine pu 2 24 (fb 8 7) HT_ ?_; refine pu 3 25 (fb 8 15) HT_ ?_; refine pu 5 27 (fb 8 47) HT_ ?_; refine tk 4 26 (fb 8 63) HT_ HW_ hHeld ?_; refine o1 6 (some 28) (fb 8 127) HT_ (fun K hK => ?_); refine gs _ (#[.int .i64 (wrap64 (a4 + 1))]) Tryd.func144 ?_; (with_reducible refine (laws_markText.calls k1 (wrap64 (a4 + 1)) ad _ A7.out).mono ?_); rintro e w17 ⟨rfl, hb⟩; refine ⟨_, rfl, ?_⟩; refine Ya1 (below_step (be HB.out) hb) ?_; clear HB; intro HB; (try clear hb); (try clear hb2); (try clear hk); (try clear hi); refine hK.out _ _ ⟨(pw_cell_below HB.out hw252_0), (pw_cell_below HB.out hw252_1), (pw_cell_below HB.out hw252_2)⟩ (fun hHeld => ?_); clear hK K; refine nm 28 ?_; refine pu 7 29 (fb 8 255) HT_ ?_; refine done_ (done_of HT_.out (by kernel_rfl)) ?_; have aj : 0 ≤ (a2 : Int) := oda; have ak : a2 < (l0.length : Int) := oda; obtain ⟨aq, ar, an, ao, ap⟩ := at_T37 ah.out a2 aj ak
        obtain rfl : a3 = aq := (by injection ar)
        replace an := pw_cell_below HB.out an; replace ao := pw_cell_below HB.out ao; replace ap := pw_cell_below HB.out ap; replace aj := eq_true aj; replace ak := eq_true ak
        try go_wp2
        go_roundg k1
        case measure => have := HK1.out; omega
        case rel => exact ⟨(wrap64 ((wrap64 ((wrap64 (a4 + 1)) + 1)) + 1)), (wrap64 (a2 + 1)), Ye1, Ye1, H', ⟨by have := HK1.out; omega⟩, ⟨be HB.out⟩⟩
      ·rw [if_neg c8] at H
       have ax : (((rd_T37 l0 a2).f1).toList == ad.toList) = false := beq_eq_false_iff_ne.mpr c8; have ay : (((rd_T37 l0 a2).f1).toList != ad.toList) = true := bne_iff_ne.mpr c8; obtain rfl := Option.some.inj H
       try go_wp2
       refine Ya1 (below_drew1 HB.out) ?_; clear HB; intro HB; have a8 : 0 ≤ (a2 : Int) := oda; have a9 : a2 < (l0.length : Int) := oda; obtain ⟨a3, ai, a5, a6, a7⟩ := at_T37 ah.out a2 a8 a9; have hw250_2 := a7; have hw250_1 := a6; have hw250_0 := a5
       cases ai
       replace a5 := pw_cell_below HB.out a5; replace a6 := pw_cell_below HB.out a6; replace a7 := pw_cell_below HB.out a7; replace a8 := eq_true a8; replace a9 := eq_true a9; refine start_ (n := 8) (S := fun w' => w'.cell? (a3.add ((a2).toNat * 3)) = some (.string ((rd_T37 l0 a2).f0)) ∧ w'.cell? ⟨(a3.add ((a2).toNat * 3)).block, (a3.add ((a2).toNat * 3)).off + 1, none⟩ = some (.string ((rd_T37 l0 a2).f1)) ∧ w'.cell? ⟨(a3.add ((a2).toNat * 3)).block, (a3.add ((a2).toNat * 3)).off + 2, none⟩ = some (.bool ((rd_T37 l0 a2).f2))) (ds := []) (fb 8 0) (by kernel_rfl) rfl rfl ⟨(pw_cell_below HB.out hw250_0), (pw_cell_below HB.out hw250_1), (pw_cell_below HB.out hw250_2)⟩ (fun hHeld => ?_); refine with_tabW laws_heldEntryS.tab4 laws_heldEntryS.bits4 (fun HT_ HW_ => ?_); generalize wr.drew = w18 at HB a5 a6 a7 hHeld ⊢; refine pu 0 12 (fb 8 1) HT_ ?_; refine pu 1 13 (fb 8 3) HT_ ?_; refine pu 2 14 (fb 8 7) HT_ ?_; refine pu 3 15 (fb 8 15) HT_ ?_; refine pu 5 17 (fb 8 47) HT_ ?_; refine tk 4 16 (fb 8 63) HT_ HW_ hHeld ?_; refine o1 6 (some 18) (fb 8 127) HT_ (fun K hK => ?_); refine gs _ (#[.int .i64 a4]) Tryd.func144 ?_; (with_reducible refine (laws_markText.calls k1 a4 ae _ A5.out).mono ?_); rintro e w19 ⟨rfl, hb⟩; refine ⟨_, rfl, ?_⟩; refine Ya1 (below_step (be HB.out) hb) ?_; clear HB; intro HB; (try clear hb); (try clear hb2); (try clear hk); (try clear hi); refine hK.out _ _ ⟨(pw_cell_below HB.out hw250_0), (pw_cell_below HB.out hw250_1), (pw_cell_below HB.out hw250_2)⟩ (fun hHeld => ?_); clear hK K; refine nm 18 ?_; refine pu 7 19 (fb 8 255) HT_ ?_; refine done_ (done_of HT_.out (by kernel_rfl)) ?_
       try go_wp2
       refine Ya1 (below_drew1 HB.out) ?_; clear HB; intro HB; have af : 0 ≤ (a2 : Int) := oda; have ag : a2 < (l0.length : Int) := oda; obtain ⟨al, am, aa, ab, ac⟩ := at_T37 ah.out a2 af ag; have hw252_2 := ac; have hw252_1 := ab; have hw252_0 := aa
       obtain rfl : a3 = al := (by injection am)
       replace aa := pw_cell_below HB.out aa; replace ab := pw_cell_below HB.out ab; replace ac := pw_cell_below HB.out ac; replace af := eq_true af; replace ag := eq_true ag; refine start_ (n := 8) (S := fun w' => w'.cell? (a3.add ((a2).toNat * 3)) = some (.string ((rd_T37 l0 a2).f0)) ∧ w'.cell? ⟨(a3.add ((a2).toNat * 3)).block, (a3.add ((a2).toNat * 3)).off + 1, none⟩ = some (.string ((rd_T37 l0 a2).f1)) ∧ w'.cell? ⟨(a3.add ((a2).toNat * 3)).block, (a3.add ((a2).toNat * 3)).off + 2, none⟩ = some (.bool ((rd_T37 l0 a2).f2))) (ds := []) (fb 8 0) (by kernel_rfl) rfl rfl ⟨(pw_cell_below HB.out hw252_0), (pw_cell_below HB.out hw252_1), (pw_cell_below HB.out hw252_2)⟩ (fun hHeld => ?_); refine with_tabW laws_heldEntryS.tab7 laws_heldEntryS.bits7 (fun HT_ HW_ => ?_); generalize w19.drew = w20 at HB aa ab ac hHeld ⊢; refine pu 0 22 (fb 8 1) HT_ ?_; refine pu 1 23 (fb 8 3) HT_ ?_; refine pu 2 24 (fb 8 7) HT_ ?_; refine pu 3 25 (fb 8 15) HT_ ?_; refine pu 5 27 (fb 8 47) HT_ ?_; refine tk 4 26 (fb 8 63) HT_ HW_ hHeld ?_; refine o1 6 (some 28) (fb 8 127) HT_ (fun K hK => ?_); refine gs _ (#[.int .i64 (wrap64 (a4 + 1))]) Tryd.func144 ?_; (with_reducible refine (laws_markText.calls k1 (wrap64 (a4 + 1)) ad _ A7.out).mono ?_); rintro e w21 ⟨rfl, hb⟩; refine ⟨_, rfl, ?_⟩; refine Ya1 (below_step (be HB.out) hb) ?_; clear HB; intro HB; (try clear hb); (try clear hb2); (try clear hk); (try clear hi); refine hK.out _ _ ⟨(pw_cell_below HB.out hw252_0), (pw_cell_below HB.out hw252_1), (pw_cell_below HB.out hw252_2)⟩ (fun hHeld => ?_); clear hK K; refine nm 28 ?_; refine pu 7 29 (fb 8 255) HT_ ?_; refine done_ (done_of HT_.out (by kernel_rfl)) ?_
       try go_wp2
       go_ret
       exact ⟨Ye2, be HB.out⟩
     ·rw [if_neg c6] at H
      have av : (((rd_T37 l0 a2).f0).toList == ae.toList) = false := beq_eq_false_iff_ne.mpr c6; have aw : (((rd_T37 l0 a2).f0).toList != ae.toList) = true := bne_iff_ne.mpr c6; obtain rfl := Option.some.inj H
      try go_wp2
      refine Ya1 (below_drew1 HB.out) ?_; clear HB; intro HB; have a8 : 0 ≤ (a2 : Int) := oda; have a9 : a2 < (l0.length : Int) := oda; obtain ⟨a3, ai, a5, a6, a7⟩ := at_T37 ah.out a2 a8 a9; have hw250_2 := a7; have hw250_1 := a6; have hw250_0 := a5
      cases ai
      replace a5 := pw_cell_below HB.out a5; replace a6 := pw_cell_below HB.out a6; replace a7 := pw_cell_below HB.out a7; replace a8 := eq_true a8; replace a9 := eq_true a9; refine start_ (n := 8) (S := fun w' => w'.cell? (a3.add ((a2).toNat * 3)) = some (.string ((rd_T37 l0 a2).f0)) ∧ w'.cell? ⟨(a3.add ((a2).toNat * 3)).block, (a3.add ((a2).toNat * 3)).off + 1, none⟩ = some (.string ((rd_T37 l0 a2).f1)) ∧ w'.cell? ⟨(a3.add ((a2).toNat * 3)).block, (a3.add ((a2).toNat * 3)).off + 2, none⟩ = some (.bool ((rd_T37 l0 a2).f2))) (ds := []) (fb 8 0) (by kernel_rfl) rfl rfl ⟨(pw_cell_below HB.out hw250_0), (pw_cell_below HB.out hw250_1), (pw_cell_below HB.out hw250_2)⟩ (fun hHeld => ?_); refine with_tabW laws_heldEntryS.tab4 laws_heldEntryS.bits4 (fun HT_ HW_ => ?_); generalize wr.drew = w22 at HB a5 a6 a7 hHeld ⊢; refine pu 0 12 (fb 8 1) HT_ ?_; refine pu 1 13 (fb 8 3) HT_ ?_; refine pu 2 14 (fb 8 7) HT_ ?_; refine pu 3 15 (fb 8 15) HT_ ?_; refine pu 5 17 (fb 8 47) HT_ ?_; refine tk 4 16 (fb 8 63) HT_ HW_ hHeld ?_; refine o1 6 (some 18) (fb 8 127) HT_ (fun K hK => ?_); refine gs _ (#[.int .i64 a4]) Tryd.func144 ?_; (with_reducible refine (laws_markText.calls k1 a4 ae _ A5.out).mono ?_); rintro e w23 ⟨rfl, hb⟩; refine ⟨_, rfl, ?_⟩; refine Ya1 (below_step (be HB.out) hb) ?_; clear HB; intro HB; (try clear hb); (try clear hb2); (try clear hk); (try clear hi); refine hK.out _ _ ⟨(pw_cell_below HB.out hw250_0), (pw_cell_below HB.out hw250_1), (pw_cell_below HB.out hw250_2)⟩ (fun hHeld => ?_); clear hK K; refine nm 18 ?_; refine pu 7 19 (fb 8 255) HT_ ?_; refine done_ (done_of HT_.out (by kernel_rfl)) ?_
      try go_wp2
      go_ret
      exact ⟨Ye2, be HB.out⟩
    ·rw [if_neg c4] at H
     exact absurd H (by simp)
   ·rw [if_neg c3] at H
    have au : decide (a2 < (l0.length : Int)) = false := decide_eq_false c3; clear c3; obtain rfl := Option.some.inj H
    go_wp2
    go_ret
    exact ⟨Ye2, be HB.out⟩

end Go.Proofs.YtgnmledjkamojaaDoor.P


namespace Go.Proofs.YtgnmledjkamojaaDoor.P
open Go.RowKit Go.Proofs.YtgnmledjkamojaaDoorW.PrintWords Go.Proofs.YtgnmledjkamojaaDoorW.PrintLast Go.Proofs.YtgnmledjkamojaaDoorW.PrintMore
attribute [local go_sem] max2_int min2_int max_two min_two max_three min_three max_four min_four
set_option linter.unusedVariables false
set_option linter.unusedSimpArgs false

/-! ### laws_heldTree: function 19 -/
def laws_heldTree.f (k : Nat) (a2 : List (S37)) (a1 : Int) : Option (Int) := (laws_heldEntryS.f k a2 a1).bind fun a3 => (if a3 < 0 then (some (-1)) else (some a3))
theorem laws_heldTree.mono : ∀ a0 a1 k, LeO (laws_heldTree.f k a0 a1) (laws_heldTree.f (k + 1) a0 a1) := by
 intro a0 a1 k
 unfold laws_heldTree.f
 repeat' first
   | (with_reducible exact laws_heldEntryS.mono _ _ _)
   | (with_reducible exact LeO.refl _)
   | (with_reducible exact LeO.none _)
   | (with_reducible refine LeO.ite ?_ ?_)
   | (with_reducible refine LeO.bind ?_ (fun _ => ?_))
   | exact laws_heldEntryS.mono _ _ _
   | exact LeO.none _
   | refine LeO.ite ?_ ?_
   | refine LeO.bind ?_ (fun _ => ?_)
set_option maxHeartbeats 8000000 in
set_option maxRecDepth 100000 in
theorem laws_heldTree.calls (k : Nat) (a5 : Option Addr) (a6 : Nat) (a2 : List (S37)) (a1 : Int) (r : Int) (w : World) (a7 : Kd.C k37 w a5 a2.length a2) (a8 : a2.length ≤ a6) (h : laws_heldTree.f k a2 a1 = some r) :
  Calls Tryd.prog 19 #[.agg #[.slice a5 a2.length a6], .int .i64 a1] w fun e w' => e = .returned (.int .i64 r) ∧ Below w.heap.size w w' := by
 have hu28 := Tryd.underlying28; have a9 := Aside0.mk a7; have aa := Aside0.mk a8; clear a7 a8; have HB := Aside0.mk (Below.refl w.heap.size w); have H : ((laws_heldEntryS.f k a2 a1).bind fun a3 => (if a3 < 0 then (some (-1)) else (some a3))) = some r := h; clear h; replace H := Option.bind_eq_some_iff.mp H; obtain ⟨a3, A30, H⟩ := H; replace H : (if a3 < 0 then (some (-1)) else (some a3)) = some r := H; have A3 := Aside0.mk A30; clear A30
 by_cases c4 : a3 < 0
 ·rw [if_pos c4] at H
  have ab : decide (a3 < 0) = true := decide_eq_true c4; clear c4; obtain rfl := Option.some.inj H
  go_enter Tryd.func19, Tryd.ntmps19
  go_wp2_with (first | ((with_reducible refine gd 2 rfl ?_); refine bx 2 28 (#[.slice a5 a2.length a6]) ?_; intro ac hg w5 hbox hb; refine Ya4 (below_step (be HB.out) hb) (hbox) (bs hg (be HB.out)) (bs hg (be HB.out)) ?_; clear HB; intro HB a4 ad ae; clear hb hbox hg; have ⟨af, ag⟩ := Yc1 a4.out) | ((with_reducible refine gc 74 rfl ?_); refine gl (some 8) _ (#[.slice a5 a2.length a6, .int .i64 a1]) Tryd.func74 ?_; (with_reducible refine (laws_heldEntryS.calls k _ _ a2 a1 a3 _ ?side1 ?side2 A3.out).mono ?_); (case side1 => exact cb (Kd.C_below a9.out HB.out)); (case side2 => exact aa.out); rintro e w7 ⟨rfl, hb⟩; refine ⟨_, rfl, ?_⟩; refine Ya2 (bb a4 hb) (below_step (bf HB.out) hb) ?_; clear a4 HB; intro a4 HB; (try clear hb); (try clear hb2); (try clear hk); (try clear hi)))
  go_ret
  exact ⟨Ye2, (bf HB.out)⟩
 ·rw [if_neg c4] at H
  have ab : decide (a3 < 0) = false := decide_eq_false c4; clear c4; obtain rfl := Option.some.inj H
  go_enter Tryd.func19, Tryd.ntmps19
  go_wp2_with (first | ((with_reducible refine gd 2 rfl ?_); refine bx 2 28 (#[.slice a5 a2.length a6]) ?_; intro ac hg w8 hbox hb; refine Ya4 (below_step (be HB.out) hb) (hbox) (bs hg (be HB.out)) (bs hg (be HB.out)) ?_; clear HB; intro HB a4 ad ae; clear hb hbox hg; have ⟨ah, ai⟩ := Yc1 a4.out) | ((with_reducible refine gc 74 rfl ?_); refine gl (some 8) _ (#[.slice a5 a2.length a6, .int .i64 a1]) Tryd.func74 ?_; (with_reducible refine (laws_heldEntryS.calls k _ _ a2 a1 a3 _ ?side1 ?side2 A3.out).mono ?_); (case side1 => exact cb (Kd.C_below a9.out HB.out)); (case side2 => exact aa.out); rintro e w10 ⟨rfl, hb⟩; refine ⟨_, rfl, ?_⟩; refine Ya2 (bb a4 hb) (below_step (bf HB.out) hb) ?_; clear a4 HB; intro a4 HB; (try clear hb); (try clear hb2); (try clear hk); (try clear hi)))
  go_ret
  exact ⟨Ye2, (bf HB.out)⟩

end Go.Proofs.YtgnmledjkamojaaDoor.P

