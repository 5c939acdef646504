-- Printed for this claim by a small program of this session (kprint.py), which drives the kit's print program.
import Derived.Test.YtgaibeckblmbbaaP0
namespace Go.Proofs.Ytgaibeckblmbbaa.P
open Go.RowKit Go.Proofs.YtgaibeckblmbbaaW.PrintWords Go.Proofs.YtgaibeckblmbbaaW.PrintLast Go.Proofs.YtgaibeckblmbbaaW.PrintMore
attribute [local go_sem] max2_int min2_int max_two min_two max_three min_three max_four min_four
set_option linter.unusedVariables false
set_option linter.unusedSimpArgs false

/-! ### spec_l2AtomOk: function 48 -/
mutual
def spec_l2AtomOk.j0 : Nat → Bool → Int → Int → ByteArray → Int → Option (Bool)
 | 0, _, _, _, _, _ => none
 | k + 1, x40, x473000, x473001, x473002, x473003 => if x40 = true then (some false) else (if x473000 = 1 then (if x473001 = 0 then (some true) else (some (x473001 == 1))) else (if x473000 = 2 then (spec_l2AtomOk.j1 k x473000 (x473000 == 2) x473000 x473001 x473002 x473003) else (spec_l2AtomOk.j1 k x473000 (x473000 == 4) x473000 x473001 x473002 x473003)))
def spec_l2AtomOk.j1 : Nat → Int → Bool → Int → Int → ByteArray → Int → Option (Bool)
 | 0, _, _, _, _, _, _ => none
 | k + 1, x42, x53, x473000, x473001, x473002, x473003 => if x53 = true then (some (decide (x473003 ≥ 0))) else (if x42 = 3 then (some (decide ((x473002.size : Int) ≤ 1500))) else (if x42 = 5 then (if x473003 ≥ 0 then (some ((Int.tmod x473003 2) == 0)) else (some false)) else (some false)))
end
def spec_l2AtomOk.f (k : Nat) (a0_0 : Int) (a0_1 : Int) (a0_2 : ByteArray) (a0_3 : Int) : Option (Bool) := if a0_0 = 1 then (if a0_0 = 3 then (if a0_0 = 4 then (spec_l2AtomOk.j0 k false a0_0 a0_1 a0_2 a0_3) else (if a0_0 = 5 then (spec_l2AtomOk.j0 k false a0_0 a0_1 a0_2 a0_3) else (spec_l2AtomOk.j0 k (a0_3 != 0) a0_0 a0_1 a0_2 a0_3))) else (if a0_2.toList = ([] : List UInt8) then (if a0_0 = 4 then (spec_l2AtomOk.j0 k false a0_0 a0_1 a0_2 a0_3) else (if a0_0 = 5 then (spec_l2AtomOk.j0 k false a0_0 a0_1 a0_2 a0_3) else (spec_l2AtomOk.j0 k (a0_3 != 0) a0_0 a0_1 a0_2 a0_3))) else (spec_l2AtomOk.j0 k true a0_0 a0_1 a0_2 a0_3))) else (if a0_0 = 2 then (if a0_0 = 3 then (if a0_0 = 4 then (spec_l2AtomOk.j0 k false a0_0 a0_1 a0_2 a0_3) else (if a0_0 = 5 then (spec_l2AtomOk.j0 k false a0_0 a0_1 a0_2 a0_3) else (spec_l2AtomOk.j0 k (a0_3 != 0) a0_0 a0_1 a0_2 a0_3))) else (if a0_2.toList = ([] : List UInt8) then (if a0_0 = 4 then (spec_l2AtomOk.j0 k false a0_0 a0_1 a0_2 a0_3) else (if a0_0 = 5 then (spec_l2AtomOk.j0 k false a0_0 a0_1 a0_2 a0_3) else (spec_l2AtomOk.j0 k (a0_3 != 0) a0_0 a0_1 a0_2 a0_3))) else (spec_l2AtomOk.j0 k true a0_0 a0_1 a0_2 a0_3))) else (if a0_1 = 0 then (if a0_0 = 3 then (if a0_0 = 4 then (spec_l2AtomOk.j0 k false a0_0 a0_1 a0_2 a0_3) else (if a0_0 = 5 then (spec_l2AtomOk.j0 k false a0_0 a0_1 a0_2 a0_3) else (spec_l2AtomOk.j0 k (a0_3 != 0) a0_0 a0_1 a0_2 a0_3))) else (if a0_2.toList = ([] : List UInt8) then (if a0_0 = 4 then (spec_l2AtomOk.j0 k false a0_0 a0_1 a0_2 a0_3) else (if a0_0 = 5 then (spec_l2AtomOk.j0 k false a0_0 a0_1 a0_2 a0_3) else (spec_l2AtomOk.j0 k (a0_3 != 0) a0_0 a0_1 a0_2 a0_3))) else (spec_l2AtomOk.j0 k true a0_0 a0_1 a0_2 a0_3))) else (spec_l2AtomOk.j0 k true a0_0 a0_1 a0_2 a0_3)))
theorem spec_l2AtomOk.mono_l : ∀ k, (∀ y0 y1 y2 y3 y4, LeO (spec_l2AtomOk.j0 k y0 y1 y2 y3 y4) (spec_l2AtomOk.j0 (k + 1) y0 y1 y2 y3 y4)) ∧ (∀ y0 y1 y2 y3 y4 y5, LeO (spec_l2AtomOk.j1 k y0 y1 y2 y3 y4 y5) (spec_l2AtomOk.j1 (k + 1) y0 y1 y2 y3 y4 y5))
 | 0 => ⟨fun _ _ _ _ _ r h => by simp [spec_l2AtomOk.j0] at h, fun _ _ _ _ _ _ r h => by simp [spec_l2AtomOk.j1] at h⟩
 | k + 1 => by
  obtain ⟨ih0, ih1⟩ := spec_l2AtomOk.mono_l k
  refine ⟨?_, ?_⟩
  ·intro y0 y1 y2 y3 y4
   unfold spec_l2AtomOk.j0
   repeat' first
   | (with_reducible exact ih0 _ _ _ _ _)
   | (with_reducible exact ih1 _ _ _ _ _ _)
   | (with_reducible exact LeO.refl _)
   | (with_reducible exact LeO.none _)
   | (with_reducible refine LeO.ite ?_ ?_)
   | (with_reducible refine LeO.bind ?_ (fun _ => ?_))
   | exact ih0 _ _ _ _ _
   | exact ih1 _ _ _ _ _ _
   | exact LeO.none _
   | refine LeO.ite ?_ ?_
   | refine LeO.bind ?_ (fun _ => ?_)
  ·intro y0 y1 y2 y3 y4 y5
   unfold spec_l2AtomOk.j1
   repeat' first
   | (with_reducible exact ih0 _ _ _ _ _)
   | (with_reducible exact ih1 _ _ _ _ _ _)
   | (with_reducible exact LeO.refl _)
   | (with_reducible exact LeO.none _)
   | (with_reducible refine LeO.ite ?_ ?_)
   | (with_reducible refine LeO.bind ?_ (fun _ => ?_))
   | exact ih0 _ _ _ _ _
   | exact ih1 _ _ _ _ _ _
   | exact LeO.none _
   | refine LeO.ite ?_ ?_
   | refine LeO.bind ?_ (fun _ => ?_)
theorem spec_l2AtomOk.mono : ∀ a0 a1 a2 a3 k, LeO (spec_l2AtomOk.f k a0 a1 a2 a3) (spec_l2AtomOk.f (k + 1) a0 a1 a2 a3) := by
 intro a0 a1 a2 a3 k
 obtain ⟨ih0, ih1⟩ := spec_l2AtomOk.mono_l k
 unfold spec_l2AtomOk.f
 repeat' first
   | (with_reducible exact ih0 _ _ _ _ _)
   | (with_reducible exact ih1 _ _ _ _ _ _)
   | (with_reducible exact LeO.refl _)
   | (with_reducible exact LeO.none _)
   | (with_reducible refine LeO.ite ?_ ?_)
   | (with_reducible refine LeO.bind ?_ (fun _ => ?_))
   | exact ih0 _ _ _ _ _
   | exact ih1 _ _ _ _ _ _
   | exact LeO.none _
   | refine LeO.ite ?_ ?_
   | refine LeO.bind ?_ (fun _ => ?_)
set_option maxHeartbeats 8000000 in
set_option maxRecDepth 100000 in
theorem spec_l2AtomOk.calls (k : Nat) (a0_0 : Int) (a0_1 : Int) (a0_2 : ByteArray) (a0_3 : Int) (r : Bool) (w : World) (h : spec_l2AtomOk.f k a0_0 a0_1 a0_2 a0_3 = some r) :
  Calls Try.prog 48 #[.agg #[.int .i64 a0_0, .int .i64 a0_1, .string a0_2, .int .i64 a0_3]] w fun e w' => e = .returned (.bool r) ∧ Below w.heap.size w w' := by
 have hu89 := Try.underlying89
 have HB := Aside0.mk (Below.refl w.heap.size w)
 have H : (if a0_0 = 1 then (if a0_0 = 3 then (if a0_0 = 4 then (spec_l2AtomOk.j0 k false a0_0 a0_1 a0_2 a0_3) else (if a0_0 = 5 then (spec_l2AtomOk.j0 k false a0_0 a0_1 a0_2 a0_3) else (spec_l2AtomOk.j0 k (a0_3 != 0) a0_0 a0_1 a0_2 a0_3))) else (if a0_2.toList = ([] : List UInt8) then (if a0_0 = 4 then (spec_l2AtomOk.j0 k false a0_0 a0_1 a0_2 a0_3) else (if a0_0 = 5 then (spec_l2AtomOk.j0 k false a0_0 a0_1 a0_2 a0_3) else (spec_l2AtomOk.j0 k (a0_3 != 0) a0_0 a0_1 a0_2 a0_3))) else (spec_l2AtomOk.j0 k true a0_0 a0_1 a0_2 a0_3))) else (if a0_0 = 2 then (if a0_0 = 3 then (if a0_0 = 4 then (spec_l2AtomOk.j0 k false a0_0 a0_1 a0_2 a0_3) else (if a0_0 = 5 then (spec_l2AtomOk.j0 k false a0_0 a0_1 a0_2 a0_3) else (spec_l2AtomOk.j0 k (a0_3 != 0) a0_0 a0_1 a0_2 a0_3))) else (if a0_2.toList = ([] : List UInt8) then (if a0_0 = 4 then (spec_l2AtomOk.j0 k false a0_0 a0_1 a0_2 a0_3) else (if a0_0 = 5 then (spec_l2AtomOk.j0 k false a0_0 a0_1 a0_2 a0_3) else (spec_l2AtomOk.j0 k (a0_3 != 0) a0_0 a0_1 a0_2 a0_3))) else (spec_l2AtomOk.j0 k true a0_0 a0_1 a0_2 a0_3))) else (if a0_1 = 0 then (if a0_0 = 3 then (if a0_0 = 4 then (spec_l2AtomOk.j0 k false a0_0 a0_1 a0_2 a0_3) else (if a0_0 = 5 then (spec_l2AtomOk.j0 k false a0_0 a0_1 a0_2 a0_3) else (spec_l2AtomOk.j0 k (a0_3 != 0) a0_0 a0_1 a0_2 a0_3))) else (if a0_2.toList = ([] : List UInt8) then (if a0_0 = 4 then (spec_l2AtomOk.j0 k false a0_0 a0_1 a0_2 a0_3) else (if a0_0 = 5 then (spec_l2AtomOk.j0 k false a0_0 a0_1 a0_2 a0_3) else (spec_l2AtomOk.j0 k (a0_3 != 0) a0_0 a0_1 a0_2 a0_3))) else (spec_l2AtomOk.j0 k true a0_0 a0_1 a0_2 a0_3))) else (spec_l2AtomOk.j0 k true a0_0 a0_1 a0_2 a0_3)))) = some r := h
 clear h
 have HC2 := Aside0.mk H
 clear H
 go_enter Try.func48, Try.ntmps48
 go_upto_region 1 with (first | ((with_reducible refine gate_dst (N := 1) rfl ?_); refine box_event ?hg (N := 1) ?hd (cs := #[.int .i64 a0_0, .int .i64 a0_1, .string a0_2, .int .i64 a0_3]) (t := 89) ?hr ?_; (case hd => rfl); (case hg => rfl); (case hr => first | (go_simp; done) | (go_simp; rfl)); intro gb472 hg w3 hbox hb; have n0_ := Aside0.mk (below_step (by repeat (first | (with_reducible first | exact HB.out | apply below_alloc | apply pw_below_drewN | apply below_drew1) | exact HB.out)) hb); have n1_ := Aside0.mk (hbox); have n2_ := Aside0.mk ((by rw [hg]; exact (below_size (by repeat (first | (with_reducible first | exact HB.out | apply below_alloc | apply pw_below_drewN | apply below_drew1) | exact HB.out))) : w.heap.size ≤ gb472)); have n3_ := Aside0.mk ((by rw [hg]; exact (below_size (by repeat (first | (with_reducible first | exact HB.out | apply below_alloc | apply pw_below_drewN | apply below_drew1) | exact HB.out))) : w.heap.size ≤ gb472)); clear HB; have HB := n0_; have BK472 := n1_; have GW472 := n2_; have GE472 := n3_; clear n0_ n1_ n2_ n3_; clear hb hbox hg))
 (try simp only [Act.put, List.setIfInBounds_toArray, List.set_cons_zero, List.set_cons_succ])
 go_cut [40] (fun v40 wc => ∃ (kq : Nat) (x40_1 : Bool), v40 = .bool x40_1 ∧ Aside0 (spec_l2AtomOk.j0 kq x40_1 a0_0 a0_1 a0_2 a0_3 = some r) ∧ Aside0 (kq ≤ k) ∧ Aside0 (wc.heap[gb472]? = some (.cells #[.int .i64 a0_0, .int .i64 a0_1, .string a0_2, .int .i64 a0_3] 89 (0, 0))) ∧ Aside0 (Below w.heap.size w wc))
 case first =>
  have H := HC2.out
  clear HC2
  by_cases c4 : a0_0 = 1
  ·rw [if_pos c4] at H
   have c4b0 : (a0_0 == 1) = true := beq_iff_eq.mpr c4
   have c4b1 : (a0_0 != 1) = false := bne_eq_false_iff_eq.mpr c4
   clear c4
   (first | rw [c4b0] | (simp only [i64_w, i32_w]; rw [c4b0]) | skip)
   by_cases c5 : a0_0 = 3
   ·rw [if_pos c5] at H
    have c5b0 : (a0_0 == 3) = true := beq_iff_eq.mpr c5
    have c5b1 : (a0_0 != 3) = false := bne_eq_false_iff_eq.mpr c5
    clear c5
    by_cases c6 : a0_0 = 4
    ·rw [if_pos c6] at H
     have c6b0 : (a0_0 == 4) = true := beq_iff_eq.mpr c6
     have c6b1 : (a0_0 != 4) = false := bne_eq_false_iff_eq.mpr c6
     clear c6
     have H' := Aside0.mk H
     clear H
     have hcz7_0 : w3.cell? ⟨gb472, 0, none⟩ = some (.int .i64 a0_0) := (blk_cell BK472.out 0).trans rfl
     have hcz7_1 : w3.cell? ⟨gb472, 1, none⟩ = some (.int .i64 a0_1) := (blk_cell BK472.out 1).trans rfl
     have hcz7_2 : w3.cell? ⟨gb472, 2, none⟩ = some (.string a0_2) := (blk_cell BK472.out 2).trans rfl
     have hcz7_3 : w3.cell? ⟨gb472, 3, none⟩ = some (.int .i64 a0_3) := (blk_cell BK472.out 3).trans rfl
     have hfz7_0 := blk_frozen BK472.out 0
     have hfz7_1 := blk_frozen BK472.out 1
     have hfz7_2 := blk_frozen BK472.out 2
     have hfz7_3 := blk_frozen BK472.out 3
     go_wp2
     go_meet
     case rel => exact ⟨_, (false), (by first | rfl | (simp; done) | (simp [*]; done)), H', ⟨by first | omega | exact Nat.le_refl _⟩, ⟨by (with_reducible repeat (first | refine blk_drewN ?_ _ | refine blk_drew ?_ | refine blk_alloc ?_ _)); exact BK472.out⟩, ⟨by repeat (first | (with_reducible first | exact HB.out | apply below_alloc | apply pw_below_drewN | apply below_drew1 | refine below_set ?_ GE472.out) | exact HB.out)⟩⟩
    ·rw [if_neg c6] at H
     have c6b0 : (a0_0 == 4) = false := beq_eq_false_iff_ne.mpr c6
     have c6b1 : (a0_0 != 4) = true := bne_iff_ne.mpr c6
     by_cases c8 : a0_0 = 5
     ·rw [if_pos c8] at H
      have c8b0 : (a0_0 == 5) = true := beq_iff_eq.mpr c8
      have c8b1 : (a0_0 != 5) = false := bne_eq_false_iff_eq.mpr c8
      clear c8
      have H' := Aside0.mk H
      clear H
      have hcz9_0 : w3.cell? ⟨gb472, 0, none⟩ = some (.int .i64 a0_0) := (blk_cell BK472.out 0).trans rfl
      have hcz9_1 : w3.cell? ⟨gb472, 1, none⟩ = some (.int .i64 a0_1) := (blk_cell BK472.out 1).trans rfl
      have hcz9_2 : w3.cell? ⟨gb472, 2, none⟩ = some (.string a0_2) := (blk_cell BK472.out 2).trans rfl
      have hcz9_3 : w3.cell? ⟨gb472, 3, none⟩ = some (.int .i64 a0_3) := (blk_cell BK472.out 3).trans rfl
      have hfz9_0 := blk_frozen BK472.out 0
      have hfz9_1 := blk_frozen BK472.out 1
      have hfz9_2 := blk_frozen BK472.out 2
      have hfz9_3 := blk_frozen BK472.out 3
      go_wp2
      go_meet
      case rel => exact ⟨_, (false), (by first | rfl | (simp; done) | (simp [*]; done)), H', ⟨by first | omega | exact Nat.le_refl _⟩, ⟨by (with_reducible repeat (first | refine blk_drewN ?_ _ | refine blk_drew ?_ | refine blk_alloc ?_ _)); exact BK472.out⟩, ⟨by repeat (first | (with_reducible first | exact HB.out | apply below_alloc | apply pw_below_drewN | apply below_drew1 | refine below_set ?_ GE472.out) | exact HB.out)⟩⟩
     ·rw [if_neg c8] at H
      have c8b0 : (a0_0 == 5) = false := beq_eq_false_iff_ne.mpr c8
      have c8b1 : (a0_0 != 5) = true := bne_iff_ne.mpr c8
      have H' := Aside0.mk H
      clear H
      have hcz10_0 : w3.cell? ⟨gb472, 0, none⟩ = some (.int .i64 a0_0) := (blk_cell BK472.out 0).trans rfl
      have hcz10_1 : w3.cell? ⟨gb472, 1, none⟩ = some (.int .i64 a0_1) := (blk_cell BK472.out 1).trans rfl
      have hcz10_2 : w3.cell? ⟨gb472, 2, none⟩ = some (.string a0_2) := (blk_cell BK472.out 2).trans rfl
      have hcz10_3 : w3.cell? ⟨gb472, 3, none⟩ = some (.int .i64 a0_3) := (blk_cell BK472.out 3).trans rfl
      have hfz10_0 := blk_frozen BK472.out 0
      have hfz10_1 := blk_frozen BK472.out 1
      have hfz10_2 := blk_frozen BK472.out 2
      have hfz10_3 := blk_frozen BK472.out 3
      go_wp2
      go_meet
      case rel => exact ⟨_, ((a0_3 != 0)), (by first | rfl | (simp; done) | (simp [*]; done)), H', ⟨by first | omega | exact Nat.le_refl _⟩, ⟨by (with_reducible repeat (first | refine blk_drewN ?_ _ | refine blk_drew ?_ | refine blk_alloc ?_ _)); exact BK472.out⟩, ⟨by repeat (first | (with_reducible first | exact HB.out | apply below_alloc | apply pw_below_drewN | apply below_drew1 | refine below_set ?_ GE472.out) | exact HB.out)⟩⟩
   ·rw [if_neg c5] at H
    have c5b0 : (a0_0 == 3) = false := beq_eq_false_iff_ne.mpr c5
    have c5b1 : (a0_0 != 3) = true := bne_iff_ne.mpr c5
    by_cases c11 : a0_2.toList = ([] : List UInt8)
    ·rw [if_pos c11] at H
     have c11b0 : (a0_2.toList == ([] : List UInt8)) = true := beq_iff_eq.mpr c11
     have c11b1 : (a0_2.toList != ([] : List UInt8)) = false := bne_eq_false_iff_eq.mpr c11
     clear c11
     by_cases c12 : a0_0 = 4
     ·rw [if_pos c12] at H
      have c12b0 : (a0_0 == 4) = true := beq_iff_eq.mpr c12
      have c12b1 : (a0_0 != 4) = false := bne_eq_false_iff_eq.mpr c12
      clear c12
      have H' := Aside0.mk H
      clear H
      have hcz13_0 : w3.cell? ⟨gb472, 0, none⟩ = some (.int .i64 a0_0) := (blk_cell BK472.out 0).trans rfl
      have hcz13_1 : w3.cell? ⟨gb472, 1, none⟩ = some (.int .i64 a0_1) := (blk_cell BK472.out 1).trans rfl
      have hcz13_2 : w3.cell? ⟨gb472, 2, none⟩ = some (.string a0_2) := (blk_cell BK472.out 2).trans rfl
      have hcz13_3 : w3.cell? ⟨gb472, 3, none⟩ = some (.int .i64 a0_3) := (blk_cell BK472.out 3).trans rfl
      have hfz13_0 := blk_frozen BK472.out 0
      have hfz13_1 := blk_frozen BK472.out 1
      have hfz13_2 := blk_frozen BK472.out 2
      have hfz13_3 := blk_frozen BK472.out 3
      go_wp2
      go_meet
      case rel => exact ⟨_, (false), (by first | rfl | (simp; done) | (simp [*]; done)), H', ⟨by first | omega | exact Nat.le_refl _⟩, ⟨by (with_reducible repeat (first | refine blk_drewN ?_ _ | refine blk_drew ?_ | refine blk_alloc ?_ _)); exact BK472.out⟩, ⟨by repeat (first | (with_reducible first | exact HB.out | apply below_alloc | apply pw_below_drewN | apply below_drew1 | refine below_set ?_ GE472.out) | exact HB.out)⟩⟩
     ·rw [if_neg c12] at H
      have c12b0 : (a0_0 == 4) = false := beq_eq_false_iff_ne.mpr c12
      have c12b1 : (a0_0 != 4) = true := bne_iff_ne.mpr c12
      by_cases c14 : a0_0 = 5
      ·rw [if_pos c14] at H
       have c14b0 : (a0_0 == 5) = true := beq_iff_eq.mpr c14
       have c14b1 : (a0_0 != 5) = false := bne_eq_false_iff_eq.mpr c14
       clear c14
       have H' := Aside0.mk H
       clear H
       have hcz15_0 : w3.cell? ⟨gb472, 0, none⟩ = some (.int .i64 a0_0) := (blk_cell BK472.out 0).trans rfl
       have hcz15_1 : w3.cell? ⟨gb472, 1, none⟩ = some (.int .i64 a0_1) := (blk_cell BK472.out 1).trans rfl
       have hcz15_2 : w3.cell? ⟨gb472, 2, none⟩ = some (.string a0_2) := (blk_cell BK472.out 2).trans rfl
       have hcz15_3 : w3.cell? ⟨gb472, 3, none⟩ = some (.int .i64 a0_3) := (blk_cell BK472.out 3).trans rfl
       have hfz15_0 := blk_frozen BK472.out 0
       have hfz15_1 := blk_frozen BK472.out 1
       have hfz15_2 := blk_frozen BK472.out 2
       have hfz15_3 := blk_frozen BK472.out 3
       go_wp2
       go_meet
       case rel => exact ⟨_, (false), (by first | rfl | (simp; done) | (simp [*]; done)), H', ⟨by first | omega | exact Nat.le_refl _⟩, ⟨by (with_reducible repeat (first | refine blk_drewN ?_ _ | refine blk_drew ?_ | refine blk_alloc ?_ _)); exact BK472.out⟩, ⟨by repeat (first | (with_reducible first | exact HB.out | apply below_alloc | apply pw_below_drewN | apply below_drew1 | refine below_set ?_ GE472.out) | exact HB.out)⟩⟩
      ·rw [if_neg c14] at H
       have c14b0 : (a0_0 == 5) = false := beq_eq_false_iff_ne.mpr c14
       have c14b1 : (a0_0 != 5) = true := bne_iff_ne.mpr c14
       have H' := Aside0.mk H
       clear H
       have hcz16_0 : w3.cell? ⟨gb472, 0, none⟩ = some (.int .i64 a0_0) := (blk_cell BK472.out 0).trans rfl
       have hcz16_1 : w3.cell? ⟨gb472, 1, none⟩ = some (.int .i64 a0_1) := (blk_cell BK472.out 1).trans rfl
       have hcz16_2 : w3.cell? ⟨gb472, 2, none⟩ = some (.string a0_2) := (blk_cell BK472.out 2).trans rfl
       have hcz16_3 : w3.cell? ⟨gb472, 3, none⟩ = some (.int .i64 a0_3) := (blk_cell BK472.out 3).trans rfl
       have hfz16_0 := blk_frozen BK472.out 0
       have hfz16_1 := blk_frozen BK472.out 1
       have hfz16_2 := blk_frozen BK472.out 2
       have hfz16_3 := blk_frozen BK472.out 3
       go_wp2
       go_meet
       case rel => exact ⟨_, ((a0_3 != 0)), (by first | rfl | (simp; done) | (simp [*]; done)), H', ⟨by first | omega | exact Nat.le_refl _⟩, ⟨by (with_reducible repeat (first | refine blk_drewN ?_ _ | refine blk_drew ?_ | refine blk_alloc ?_ _)); exact BK472.out⟩, ⟨by repeat (first | (with_reducible first | exact HB.out | apply below_alloc | apply pw_below_drewN | apply below_drew1 | refine below_set ?_ GE472.out) | exact HB.out)⟩⟩
    ·rw [if_neg c11] at H
     have c11b0 : (a0_2.toList == ([] : List UInt8)) = false := beq_eq_false_iff_ne.mpr c11
     have c11b1 : (a0_2.toList != ([] : List UInt8)) = true := bne_iff_ne.mpr c11
     have H' := Aside0.mk H
     clear H
     have hcz17_0 : w3.cell? ⟨gb472, 0, none⟩ = some (.int .i64 a0_0) := (blk_cell BK472.out 0).trans rfl
     have hcz17_1 : w3.cell? ⟨gb472, 1, none⟩ = some (.int .i64 a0_1) := (blk_cell BK472.out 1).trans rfl
     have hcz17_2 : w3.cell? ⟨gb472, 2, none⟩ = some (.string a0_2) := (blk_cell BK472.out 2).trans rfl
     have hcz17_3 : w3.cell? ⟨gb472, 3, none⟩ = some (.int .i64 a0_3) := (blk_cell BK472.out 3).trans rfl
     have hfz17_0 := blk_frozen BK472.out 0
     have hfz17_1 := blk_frozen BK472.out 1
     have hfz17_2 := blk_frozen BK472.out 2
     have hfz17_3 := blk_frozen BK472.out 3
     go_wp2
     go_meet
     case rel => exact ⟨_, (true), (by first | rfl | (simp; done) | (simp [*]; done)), H', ⟨by first | omega | exact Nat.le_refl _⟩, ⟨by (with_reducible repeat (first | refine blk_drewN ?_ _ | refine blk_drew ?_ | refine blk_alloc ?_ _)); exact BK472.out⟩, ⟨by repeat (first | (with_reducible first | exact HB.out | apply below_alloc | apply pw_below_drewN | apply below_drew1 | refine below_set ?_ GE472.out) | exact HB.out)⟩⟩
  ·rw [if_neg c4] at H
   have c4b0 : (a0_0 == 1) = false := beq_eq_false_iff_ne.mpr c4
   have c4b1 : (a0_0 != 1) = true := bne_iff_ne.mpr c4
   (first | rw [c4b0] | (simp only [i64_w, i32_w]; rw [c4b0]) | skip)
   by_cases c18 : a0_0 = 2
   ·rw [if_pos c18] at H
    have c18b0 : (a0_0 == 2) = true := beq_iff_eq.mpr c18
    have c18b1 : (a0_0 != 2) = false := bne_eq_false_iff_eq.mpr c18
    clear c18
    by_cases c19 : a0_0 = 3
    ·rw [if_pos c19] at H
     have c19b0 : (a0_0 == 3) = true := beq_iff_eq.mpr c19
     have c19b1 : (a0_0 != 3) = false := bne_eq_false_iff_eq.mpr c19
     clear c19
     by_cases c20 : a0_0 = 4
     ·rw [if_pos c20] at H
      have c20b0 : (a0_0 == 4) = true := beq_iff_eq.mpr c20
      have c20b1 : (a0_0 != 4) = false := bne_eq_false_iff_eq.mpr c20
      clear c20
      have H' := Aside0.mk H
      clear H
      have hcz21_0 : w3.cell? ⟨gb472, 0, none⟩ = some (.int .i64 a0_0) := (blk_cell BK472.out 0).trans rfl
      have hcz21_1 : w3.cell? ⟨gb472, 1, none⟩ = some (.int .i64 a0_1) := (blk_cell BK472.out 1).trans rfl
      have hcz21_2 : w3.cell? ⟨gb472, 2, none⟩ = some (.string a0_2) := (blk_cell BK472.out 2).trans rfl
      have hcz21_3 : w3.cell? ⟨gb472, 3, none⟩ = some (.int .i64 a0_3) := (blk_cell BK472.out 3).trans rfl
      have hfz21_0 := blk_frozen BK472.out 0
      have hfz21_1 := blk_frozen BK472.out 1
      have hfz21_2 := blk_frozen BK472.out 2
      have hfz21_3 := blk_frozen BK472.out 3
      go_wp2
      go_meet
      case rel => exact ⟨_, (false), (by first | rfl | (simp; done) | (simp [*]; done)), H', ⟨by first | omega | exact Nat.le_refl _⟩, ⟨by (with_reducible repeat (first | refine blk_drewN ?_ _ | refine blk_drew ?_ | refine blk_alloc ?_ _)); exact BK472.out⟩, ⟨by repeat (first | (with_reducible first | exact HB.out | apply below_alloc | apply pw_below_drewN | apply below_drew1 | refine below_set ?_ GE472.out) | exact HB.out)⟩⟩
     ·rw [if_neg c20] at H
      have c20b0 : (a0_0 == 4) = false := beq_eq_false_iff_ne.mpr c20
      have c20b1 : (a0_0 != 4) = true := bne_iff_ne.mpr c20
      by_cases c22 : a0_0 = 5
      ·rw [if_pos c22] at H
       have c22b0 : (a0_0 == 5) = true := beq_iff_eq.mpr c22
       have c22b1 : (a0_0 != 5) = false := bne_eq_false_iff_eq.mpr c22
       clear c22
       have H' := Aside0.mk H
       clear H
       have hcz23_0 : w3.cell? ⟨gb472, 0, none⟩ = some (.int .i64 a0_0) := (blk_cell BK472.out 0).trans rfl
       have hcz23_1 : w3.cell? ⟨gb472, 1, none⟩ = some (.int .i64 a0_1) := (blk_cell BK472.out 1).trans rfl
       have hcz23_2 : w3.cell? ⟨gb472, 2, none⟩ = some (.string a0_2) := (blk_cell BK472.out 2).trans rfl
       have hcz23_3 : w3.cell? ⟨gb472, 3, none⟩ = some (.int .i64 a0_3) := (blk_cell BK472.out 3).trans rfl
       have hfz23_0 := blk_frozen BK472.out 0
       have hfz23_1 := blk_frozen BK472.out 1
       have hfz23_2 := blk_frozen BK472.out 2
       have hfz23_3 := blk_frozen BK472.out 3
       go_wp2
       go_meet
       case rel => exact ⟨_, (false), (by first | rfl | (simp; done) | (simp [*]; done)), H', ⟨by first | omega | exact Nat.le_refl _⟩, ⟨by (with_reducible repeat (first | refine blk_drewN ?_ _ | refine blk_drew ?_ | refine blk_alloc ?_ _)); exact BK472.out⟩, ⟨by repeat (first | (with_reducible first | exact HB.out | apply below_alloc | apply pw_below_drewN | apply below_drew1 | refine below_set ?_ GE472.out) | exact HB.out)⟩⟩
      ·rw [if_neg c22] at H
       have c22b0 : (a0_0 == 5) = false := beq_eq_false_iff_ne.mpr c22
       have c22b1 : (a0_0 != 5) = true := bne_iff_ne.mpr c22
       have H' := Aside0.mk H
       clear H
       have hcz24_0 : w3.cell? ⟨gb472, 0, none⟩ = some (.int .i64 a0_0) := (blk_cell BK472.out 0).trans rfl
       have hcz24_1 : w3.cell? ⟨gb472, 1, none⟩ = some (.int .i64 a0_1) := (blk_cell BK472.out 1).trans rfl
       have hcz24_2 : w3.cell? ⟨gb472, 2, none⟩ = some (.string a0_2) := (blk_cell BK472.out 2).trans rfl
       have hcz24_3 : w3.cell? ⟨gb472, 3, none⟩ = some (.int .i64 a0_3) := (blk_cell BK472.out 3).trans rfl
       have hfz24_0 := blk_frozen BK472.out 0
       have hfz24_1 := blk_frozen BK472.out 1
       have hfz24_2 := blk_frozen BK472.out 2
       have hfz24_3 := blk_frozen BK472.out 3
       go_wp2
       go_meet
       case rel => exact ⟨_, ((a0_3 != 0)), (by first | rfl | (simp; done) | (simp [*]; done)), H', ⟨by first | omega | exact Nat.le_refl _⟩, ⟨by (with_reducible repeat (first | refine blk_drewN ?_ _ | refine blk_drew ?_ | refine blk_alloc ?_ _)); exact BK472.out⟩, ⟨by repeat (first | (with_reducible first | exact HB.out | apply below_alloc | apply pw_below_drewN | apply below_drew1 | refine below_set ?_ GE472.out) | exact HB.out)⟩⟩
    ·rw [if_neg c19] at H
     have c19b0 : (a0_0 == 3) = false := beq_eq_false_iff_ne.mpr c19
     have c19b1 : (a0_0 != 3) = true := bne_iff_ne.mpr c19
     by_cases c25 : a0_2.toList = ([] : List UInt8)
     ·rw [if_pos c25] at H
      have c25b0 : (a0_2.toList == ([] : List UInt8)) = true := beq_iff_eq.mpr c25
      have c25b1 : (a0_2.toList != ([] : List UInt8)) = false := bne_eq_false_iff_eq.mpr c25
      clear c25
      by_cases c26 : a0_0 = 4
      ·rw [if_pos c26] at H
       have c26b0 : (a0_0 == 4) = true := beq_iff_eq.mpr c26
       have c26b1 : (a0_0 != 4) = false := bne_eq_false_iff_eq.mpr c26
       clear c26
       have H' := Aside0.mk H
       clear H
       have hcz27_0 : w3.cell? ⟨gb472, 0, none⟩ = some (.int .i64 a0_0) := (blk_cell BK472.out 0).trans rfl
       have hcz27_1 : w3.cell? ⟨gb472, 1, none⟩ = some (.int .i64 a0_1) := (blk_cell BK472.out 1).trans rfl
       have hcz27_2 : w3.cell? ⟨gb472, 2, none⟩ = some (.string a0_2) := (blk_cell BK472.out 2).trans rfl
       have hcz27_3 : w3.cell? ⟨gb472, 3, none⟩ = some (.int .i64 a0_3) := (blk_cell BK472.out 3).trans rfl
       have hfz27_0 := blk_frozen BK472.out 0
       have hfz27_1 := blk_frozen BK472.out 1
       have hfz27_2 := blk_frozen BK472.out 2
       have hfz27_3 := blk_frozen BK472.out 3
       go_wp2
       go_meet
       case rel => exact ⟨_, (false), (by first | rfl | (simp; done) | (simp [*]; done)), H', ⟨by first | omega | exact Nat.le_refl _⟩, ⟨by (with_reducible repeat (first | refine blk_drewN ?_ _ | refine blk_drew ?_ | refine blk_alloc ?_ _)); exact BK472.out⟩, ⟨by repeat (first | (with_reducible first | exact HB.out | apply below_alloc | apply pw_below_drewN | apply below_drew1 | refine below_set ?_ GE472.out) | exact HB.out)⟩⟩
      ·rw [if_neg c26] at H
       have c26b0 : (a0_0 == 4) = false := beq_eq_false_iff_ne.mpr c26
       have c26b1 : (a0_0 != 4) = true := bne_iff_ne.mpr c26
       by_cases c28 : a0_0 = 5
       ·rw [if_pos c28] at H
        have c28b0 : (a0_0 == 5) = true := beq_iff_eq.mpr c28
        have c28b1 : (a0_0 != 5) = false := bne_eq_false_iff_eq.mpr c28
        clear c28
        have H' := Aside0.mk H
        clear H
        have hcz29_0 : w3.cell? ⟨gb472, 0, none⟩ = some (.int .i64 a0_0) := (blk_cell BK472.out 0).trans rfl
        have hcz29_1 : w3.cell? ⟨gb472, 1, none⟩ = some (.int .i64 a0_1) := (blk_cell BK472.out 1).trans rfl
        have hcz29_2 : w3.cell? ⟨gb472, 2, none⟩ = some (.string a0_2) := (blk_cell BK472.out 2).trans rfl
        have hcz29_3 : w3.cell? ⟨gb472, 3, none⟩ = some (.int .i64 a0_3) := (blk_cell BK472.out 3).trans rfl
        have hfz29_0 := blk_frozen BK472.out 0
        have hfz29_1 := blk_frozen BK472.out 1
        have hfz29_2 := blk_frozen BK472.out 2
        have hfz29_3 := blk_frozen BK472.out 3
        go_wp2
        go_meet
        case rel => exact ⟨_, (false), (by first | rfl | (simp; done) | (simp [*]; done)), H', ⟨by first | omega | exact Nat.le_refl _⟩, ⟨by (with_reducible repeat (first | refine blk_drewN ?_ _ | refine blk_drew ?_ | refine blk_alloc ?_ _)); exact BK472.out⟩, ⟨by repeat (first | (with_reducible first | exact HB.out | apply below_alloc | apply pw_below_drewN | apply below_drew1 | refine below_set ?_ GE472.out) | exact HB.out)⟩⟩
       ·rw [if_neg c28] at H
        have c28b0 : (a0_0 == 5) = false := beq_eq_false_iff_ne.mpr c28
        have c28b1 : (a0_0 != 5) = true := bne_iff_ne.mpr c28
        have H' := Aside0.mk H
        clear H
        have hcz30_0 : w3.cell? ⟨gb472, 0, none⟩ = some (.int .i64 a0_0) := (blk_cell BK472.out 0).trans rfl
        have hcz30_1 : w3.cell? ⟨gb472, 1, none⟩ = some (.int .i64 a0_1) := (blk_cell BK472.out 1).trans rfl
        have hcz30_2 : w3.cell? ⟨gb472, 2, none⟩ = some (.string a0_2) := (blk_cell BK472.out 2).trans rfl
        have hcz30_3 : w3.cell? ⟨gb472, 3, none⟩ = some (.int .i64 a0_3) := (blk_cell BK472.out 3).trans rfl
        have hfz30_0 := blk_frozen BK472.out 0
        have hfz30_1 := blk_frozen BK472.out 1
        have hfz30_2 := blk_frozen BK472.out 2
        have hfz30_3 := blk_frozen BK472.out 3
        go_wp2
        go_meet
        case rel => exact ⟨_, ((a0_3 != 0)), (by first | rfl | (simp; done) | (simp [*]; done)), H', ⟨by first | omega | exact Nat.le_refl _⟩, ⟨by (with_reducible repeat (first | refine blk_drewN ?_ _ | refine blk_drew ?_ | refine blk_alloc ?_ _)); exact BK472.out⟩, ⟨by repeat (first | (with_reducible first | exact HB.out | apply below_alloc | apply pw_below_drewN | apply below_drew1 | refine below_set ?_ GE472.out) | exact HB.out)⟩⟩
     ·rw [if_neg c25] at H
      have c25b0 : (a0_2.toList == ([] : List UInt8)) = false := beq_eq_false_iff_ne.mpr c25
      have c25b1 : (a0_2.toList != ([] : List UInt8)) = true := bne_iff_ne.mpr c25
      have H' := Aside0.mk H
      clear H
      have hcz31_0 : w3.cell? ⟨gb472, 0, none⟩ = some (.int .i64 a0_0) := (blk_cell BK472.out 0).trans rfl
      have hcz31_1 : w3.cell? ⟨gb472, 1, none⟩ = some (.int .i64 a0_1) := (blk_cell BK472.out 1).trans rfl
      have hcz31_2 : w3.cell? ⟨gb472, 2, none⟩ = some (.string a0_2) := (blk_cell BK472.out 2).trans rfl
      have hcz31_3 : w3.cell? ⟨gb472, 3, none⟩ = some (.int .i64 a0_3) := (blk_cell BK472.out 3).trans rfl
      have hfz31_0 := blk_frozen BK472.out 0
      have hfz31_1 := blk_frozen BK472.out 1
      have hfz31_2 := blk_frozen BK472.out 2
      have hfz31_3 := blk_frozen BK472.out 3
      go_wp2
      go_meet
      case rel => exact ⟨_, (true), (by first | rfl | (simp; done) | (simp [*]; done)), H', ⟨by first | omega | exact Nat.le_refl _⟩, ⟨by (with_reducible repeat (first | refine blk_drewN ?_ _ | refine blk_drew ?_ | refine blk_alloc ?_ _)); exact BK472.out⟩, ⟨by repeat (first | (with_reducible first | exact HB.out | apply below_alloc | apply pw_below_drewN | apply below_drew1 | refine below_set ?_ GE472.out) | exact HB.out)⟩⟩
   ·rw [if_neg c18] at H
    have c18b0 : (a0_0 == 2) = false := beq_eq_false_iff_ne.mpr c18
    have c18b1 : (a0_0 != 2) = true := bne_iff_ne.mpr c18
    by_cases c32 : a0_1 = 0
    ·rw [if_pos c32] at H
     have c32b0 : (a0_1 == 0) = true := beq_iff_eq.mpr c32
     have c32b1 : (a0_1 != 0) = false := bne_eq_false_iff_eq.mpr c32
     clear c32
     by_cases c33 : a0_0 = 3
     ·rw [if_pos c33] at H
      have c33b0 : (a0_0 == 3) = true := beq_iff_eq.mpr c33
      have c33b1 : (a0_0 != 3) = false := bne_eq_false_iff_eq.mpr c33
      clear c33
      by_cases c34 : a0_0 = 4
      ·rw [if_pos c34] at H
       have c34b0 : (a0_0 == 4) = true := beq_iff_eq.mpr c34
       have c34b1 : (a0_0 != 4) = false := bne_eq_false_iff_eq.mpr c34
       clear c34
       have H' := Aside0.mk H
       clear H
       have hcz35_0 : w3.cell? ⟨gb472, 0, none⟩ = some (.int .i64 a0_0) := (blk_cell BK472.out 0).trans rfl
       have hcz35_1 : w3.cell? ⟨gb472, 1, none⟩ = some (.int .i64 a0_1) := (blk_cell BK472.out 1).trans rfl
       have hcz35_2 : w3.cell? ⟨gb472, 2, none⟩ = some (.string a0_2) := (blk_cell BK472.out 2).trans rfl
       have hcz35_3 : w3.cell? ⟨gb472, 3, none⟩ = some (.int .i64 a0_3) := (blk_cell BK472.out 3).trans rfl
       have hfz35_0 := blk_frozen BK472.out 0
       have hfz35_1 := blk_frozen BK472.out 1
       have hfz35_2 := blk_frozen BK472.out 2
       have hfz35_3 := blk_frozen BK472.out 3
       go_wp2
       go_meet
       case rel => exact ⟨_, (false), (by first | rfl | (simp; done) | (simp [*]; done)), H', ⟨by first | omega | exact Nat.le_refl _⟩, ⟨by (with_reducible repeat (first | refine blk_drewN ?_ _ | refine blk_drew ?_ | refine blk_alloc ?_ _)); exact BK472.out⟩, ⟨by repeat (first | (with_reducible first | exact HB.out | apply below_alloc | apply pw_below_drewN | apply below_drew1 | refine below_set ?_ GE472.out) | exact HB.out)⟩⟩
      ·rw [if_neg c34] at H
       have c34b0 : (a0_0 == 4) = false := beq_eq_false_iff_ne.mpr c34
       have c34b1 : (a0_0 != 4) = true := bne_iff_ne.mpr c34
       by_cases c36 : a0_0 = 5
       ·rw [if_pos c36] at H
        have c36b0 : (a0_0 == 5) = true := beq_iff_eq.mpr c36
        have c36b1 : (a0_0 != 5) = false := bne_eq_false_iff_eq.mpr c36
        clear c36
        have H' := Aside0.mk H
        clear H
        have hcz37_0 : w3.cell? ⟨gb472, 0, none⟩ = some (.int .i64 a0_0) := (blk_cell BK472.out 0).trans rfl
        have hcz37_1 : w3.cell? ⟨gb472, 1, none⟩ = some (.int .i64 a0_1) := (blk_cell BK472.out 1).trans rfl
        have hcz37_2 : w3.cell? ⟨gb472, 2, none⟩ = some (.string a0_2) := (blk_cell BK472.out 2).trans rfl
        have hcz37_3 : w3.cell? ⟨gb472, 3, none⟩ = some (.int .i64 a0_3) := (blk_cell BK472.out 3).trans rfl
        have hfz37_0 := blk_frozen BK472.out 0
        have hfz37_1 := blk_frozen BK472.out 1
        have hfz37_2 := blk_frozen BK472.out 2
        have hfz37_3 := blk_frozen BK472.out 3
        go_wp2
        go_meet
        case rel => exact ⟨_, (false), (by first | rfl | (simp; done) | (simp [*]; done)), H', ⟨by first | omega | exact Nat.le_refl _⟩, ⟨by (with_reducible repeat (first | refine blk_drewN ?_ _ | refine blk_drew ?_ | refine blk_alloc ?_ _)); exact BK472.out⟩, ⟨by repeat (first | (with_reducible first | exact HB.out | apply below_alloc | apply pw_below_drewN | apply below_drew1 | refine below_set ?_ GE472.out) | exact HB.out)⟩⟩
       ·rw [if_neg c36] at H
        have c36b0 : (a0_0 == 5) = false := beq_eq_false_iff_ne.mpr c36
        have c36b1 : (a0_0 != 5) = true := bne_iff_ne.mpr c36
        have H' := Aside0.mk H
        clear H
        have hcz38_0 : w3.cell? ⟨gb472, 0, none⟩ = some (.int .i64 a0_0) := (blk_cell BK472.out 0).trans rfl
        have hcz38_1 : w3.cell? ⟨gb472, 1, none⟩ = some (.int .i64 a0_1) := (blk_cell BK472.out 1).trans rfl
        have hcz38_2 : w3.cell? ⟨gb472, 2, none⟩ = some (.string a0_2) := (blk_cell BK472.out 2).trans rfl
        have hcz38_3 : w3.cell? ⟨gb472, 3, none⟩ = some (.int .i64 a0_3) := (blk_cell BK472.out 3).trans rfl
        have hfz38_0 := blk_frozen BK472.out 0
        have hfz38_1 := blk_frozen BK472.out 1
        have hfz38_2 := blk_frozen BK472.out 2
        have hfz38_3 := blk_frozen BK472.out 3
        go_wp2
        go_meet
        case rel => exact ⟨_, ((a0_3 != 0)), (by first | rfl | (simp; done) | (simp [*]; done)), H', ⟨by first | omega | exact Nat.le_refl _⟩, ⟨by (with_reducible repeat (first | refine blk_drewN ?_ _ | refine blk_drew ?_ | refine blk_alloc ?_ _)); exact BK472.out⟩, ⟨by repeat (first | (with_reducible first | exact HB.out | apply below_alloc | apply pw_below_drewN | apply below_drew1 | refine below_set ?_ GE472.out) | exact HB.out)⟩⟩
     ·rw [if_neg c33] at H
      have c33b0 : (a0_0 == 3) = false := beq_eq_false_iff_ne.mpr c33
      have c33b1 : (a0_0 != 3) = true := bne_iff_ne.mpr c33
      by_cases c39 : a0_2.toList = ([] : List UInt8)
      ·rw [if_pos c39] at H
       have c39b0 : (a0_2.toList == ([] : List UInt8)) = true := beq_iff_eq.mpr c39
       have c39b1 : (a0_2.toList != ([] : List UInt8)) = false := bne_eq_false_iff_eq.mpr c39
       clear c39
       by_cases c40 : a0_0 = 4
       ·rw [if_pos c40] at H
        have c40b0 : (a0_0 == 4) = true := beq_iff_eq.mpr c40
        have c40b1 : (a0_0 != 4) = false := bne_eq_false_iff_eq.mpr c40
        clear c40
        have H' := Aside0.mk H
        clear H
        have hcz41_0 : w3.cell? ⟨gb472, 0, none⟩ = some (.int .i64 a0_0) := (blk_cell BK472.out 0).trans rfl
        have hcz41_1 : w3.cell? ⟨gb472, 1, none⟩ = some (.int .i64 a0_1) := (blk_cell BK472.out 1).trans rfl
        have hcz41_2 : w3.cell? ⟨gb472, 2, none⟩ = some (.string a0_2) := (blk_cell BK472.out 2).trans rfl
        have hcz41_3 : w3.cell? ⟨gb472, 3, none⟩ = some (.int .i64 a0_3) := (blk_cell BK472.out 3).trans rfl
        have hfz41_0 := blk_frozen BK472.out 0
        have hfz41_1 := blk_frozen BK472.out 1
        have hfz41_2 := blk_frozen BK472.out 2
        have hfz41_3 := blk_frozen BK472.out 3
        go_wp2
        go_meet
        case rel => exact ⟨_, (false), (by first | rfl | (simp; done) | (simp [*]; done)), H', ⟨by first | omega | exact Nat.le_refl _⟩, ⟨by (with_reducible repeat (first | refine blk_drewN ?_ _ | refine blk_drew ?_ | refine blk_alloc ?_ _)); exact BK472.out⟩, ⟨by repeat (first | (with_reducible first | exact HB.out | apply below_alloc | apply pw_below_drewN | apply below_drew1 | refine below_set ?_ GE472.out) | exact HB.out)⟩⟩
       ·rw [if_neg c40] at H
        have c40b0 : (a0_0 == 4) = false := beq_eq_false_iff_ne.mpr c40
        have c40b1 : (a0_0 != 4) = true := bne_iff_ne.mpr c40
        by_cases c42 : a0_0 = 5
        ·rw [if_pos c42] at H
         have c42b0 : (a0_0 == 5) = true := beq_iff_eq.mpr c42
         have c42b1 : (a0_0 != 5) = false := bne_eq_false_iff_eq.mpr c42
         clear c42
         have H' := Aside0.mk H
         clear H
         have hcz43_0 : w3.cell? ⟨gb472, 0, none⟩ = some (.int .i64 a0_0) := (blk_cell BK472.out 0).trans rfl
         have hcz43_1 : w3.cell? ⟨gb472, 1, none⟩ = some (.int .i64 a0_1) := (blk_cell BK472.out 1).trans rfl
         have hcz43_2 : w3.cell? ⟨gb472, 2, none⟩ = some (.string a0_2) := (blk_cell BK472.out 2).trans rfl
         have hcz43_3 : w3.cell? ⟨gb472, 3, none⟩ = some (.int .i64 a0_3) := (blk_cell BK472.out 3).trans rfl
         have hfz43_0 := blk_frozen BK472.out 0
         have hfz43_1 := blk_frozen BK472.out 1
         have hfz43_2 := blk_frozen BK472.out 2
         have hfz43_3 := blk_frozen BK472.out 3
         go_wp2
         go_meet
         case rel => exact ⟨_, (false), (by first | rfl | (simp; done) | (simp [*]; done)), H', ⟨by first | omega | exact Nat.le_refl _⟩, ⟨by (with_reducible repeat (first | refine blk_drewN ?_ _ | refine blk_drew ?_ | refine blk_alloc ?_ _)); exact BK472.out⟩, ⟨by repeat (first | (with_reducible first | exact HB.out | apply below_alloc | apply pw_below_drewN | apply below_drew1 | refine below_set ?_ GE472.out) | exact HB.out)⟩⟩
        ·rw [if_neg c42] at H
         have c42b0 : (a0_0 == 5) = false := beq_eq_false_iff_ne.mpr c42
         have c42b1 : (a0_0 != 5) = true := bne_iff_ne.mpr c42
         have H' := Aside0.mk H
         clear H
         have hcz44_0 : w3.cell? ⟨gb472, 0, none⟩ = some (.int .i64 a0_0) := (blk_cell BK472.out 0).trans rfl
         have hcz44_1 : w3.cell? ⟨gb472, 1, none⟩ = some (.int .i64 a0_1) := (blk_cell BK472.out 1).trans rfl
         have hcz44_2 : w3.cell? ⟨gb472, 2, none⟩ = some (.string a0_2) := (blk_cell BK472.out 2).trans rfl
         have hcz44_3 : w3.cell? ⟨gb472, 3, none⟩ = some (.int .i64 a0_3) := (blk_cell BK472.out 3).trans rfl
         have hfz44_0 := blk_frozen BK472.out 0
         have hfz44_1 := blk_frozen BK472.out 1
         have hfz44_2 := blk_frozen BK472.out 2
         have hfz44_3 := blk_frozen BK472.out 3
         go_wp2
         go_meet
         case rel => exact ⟨_, ((a0_3 != 0)), (by first | rfl | (simp; done) | (simp [*]; done)), H', ⟨by first | omega | exact Nat.le_refl _⟩, ⟨by (with_reducible repeat (first | refine blk_drewN ?_ _ | refine blk_drew ?_ | refine blk_alloc ?_ _)); exact BK472.out⟩, ⟨by repeat (first | (with_reducible first | exact HB.out | apply below_alloc | apply pw_below_drewN | apply below_drew1 | refine below_set ?_ GE472.out) | exact HB.out)⟩⟩
      ·rw [if_neg c39] at H
       have c39b0 : (a0_2.toList == ([] : List UInt8)) = false := beq_eq_false_iff_ne.mpr c39
       have c39b1 : (a0_2.toList != ([] : List UInt8)) = true := bne_iff_ne.mpr c39
       have H' := Aside0.mk H
       clear H
       have hcz45_0 : w3.cell? ⟨gb472, 0, none⟩ = some (.int .i64 a0_0) := (blk_cell BK472.out 0).trans rfl
       have hcz45_1 : w3.cell? ⟨gb472, 1, none⟩ = some (.int .i64 a0_1) := (blk_cell BK472.out 1).trans rfl
       have hcz45_2 : w3.cell? ⟨gb472, 2, none⟩ = some (.string a0_2) := (blk_cell BK472.out 2).trans rfl
       have hcz45_3 : w3.cell? ⟨gb472, 3, none⟩ = some (.int .i64 a0_3) := (blk_cell BK472.out 3).trans rfl
       have hfz45_0 := blk_frozen BK472.out 0
       have hfz45_1 := blk_frozen BK472.out 1
       have hfz45_2 := blk_frozen BK472.out 2
       have hfz45_3 := blk_frozen BK472.out 3
       go_wp2
       go_meet
       case rel => exact ⟨_, (true), (by first | rfl | (simp; done) | (simp [*]; done)), H', ⟨by first | omega | exact Nat.le_refl _⟩, ⟨by (with_reducible repeat (first | refine blk_drewN ?_ _ | refine blk_drew ?_ | refine blk_alloc ?_ _)); exact BK472.out⟩, ⟨by repeat (first | (with_reducible first | exact HB.out | apply below_alloc | apply pw_below_drewN | apply below_drew1 | refine below_set ?_ GE472.out) | exact HB.out)⟩⟩
    ·rw [if_neg c32] at H
     have c32b0 : (a0_1 == 0) = false := beq_eq_false_iff_ne.mpr c32
     have c32b1 : (a0_1 != 0) = true := bne_iff_ne.mpr c32
     have H' := Aside0.mk H
     clear H
     have hcz46_0 : w3.cell? ⟨gb472, 0, none⟩ = some (.int .i64 a0_0) := (blk_cell BK472.out 0).trans rfl
     have hcz46_1 : w3.cell? ⟨gb472, 1, none⟩ = some (.int .i64 a0_1) := (blk_cell BK472.out 1).trans rfl
     have hcz46_2 : w3.cell? ⟨gb472, 2, none⟩ = some (.string a0_2) := (blk_cell BK472.out 2).trans rfl
     have hcz46_3 : w3.cell? ⟨gb472, 3, none⟩ = some (.int .i64 a0_3) := (blk_cell BK472.out 3).trans rfl
     have hfz46_0 := blk_frozen BK472.out 0
     have hfz46_1 := blk_frozen BK472.out 1
     have hfz46_2 := blk_frozen BK472.out 2
     have hfz46_3 := blk_frozen BK472.out 3
     go_wp2
     go_meet
     case rel => exact ⟨_, (true), (by first | rfl | (simp; done) | (simp [*]; done)), H', ⟨by first | omega | exact Nat.le_refl _⟩, ⟨by (with_reducible repeat (first | refine blk_drewN ?_ _ | refine blk_drew ?_ | refine blk_alloc ?_ _)); exact BK472.out⟩, ⟨by repeat (first | (with_reducible first | exact HB.out | apply below_alloc | apply pw_below_drewN | apply below_drew1 | refine below_set ?_ GE472.out) | exact HB.out)⟩⟩
 case rest =>
  clear HC2
  try clear c1
  try clear c2
  try clear p2
  try clear c3
  try clear c4
  try clear c4b0
  try clear c4b1
  try clear c5
  try clear c5b0
  try clear c5b1
  try clear c6
  try clear c6b0
  try clear c6b1
  try clear c8
  try clear c8b0
  try clear c8b1
  try clear c11
  try clear c11b0
  try clear c11b1
  try clear c12
  try clear c12b0
  try clear c12b1
  try clear c14
  try clear c14b0
  try clear c14b1
  try clear c18
  try clear c18b0
  try clear c18b1
  try clear c19
  try clear c19b0
  try clear c19b1
  try clear c20
  try clear c20b0
  try clear c20b1
  try clear c22
  try clear c22b0
  try clear c22b1
  try clear c25
  try clear c25b0
  try clear c25b1
  try clear c26
  try clear c26b0
  try clear c26b1
  try clear c28
  try clear c28b0
  try clear c28b1
  try clear c32
  try clear c32b0
  try clear c32b1
  try clear c33
  try clear c33b0
  try clear c33b1
  try clear c34
  try clear c34b0
  try clear c34b1
  try clear c36
  try clear c36b0
  try clear c36b1
  try clear c39
  try clear c39b0
  try clear c39b1
  try clear c40
  try clear c40b0
  try clear c40b1
  try clear c42
  try clear c42b0
  try clear c42b1
  try clear hcz10_0
  try clear hcz10_1
  try clear hcz10_2
  try clear hcz10_3
  try clear hcz13_0
  try clear hcz13_1
  try clear hcz13_2
  try clear hcz13_3
  try clear hcz15_0
  try clear hcz15_1
  try clear hcz15_2
  try clear hcz15_3
  try clear hcz16_0
  try clear hcz16_1
  try clear hcz16_2
  try clear hcz16_3
  try clear hcz17_0
  try clear hcz17_1
  try clear hcz17_2
  try clear hcz17_3
  try clear hcz21_0
  try clear hcz21_1
  try clear hcz21_2
  try clear hcz21_3
  try clear hcz23_0
  try clear hcz23_1
  try clear hcz23_2
  try clear hcz23_3
  try clear hcz24_0
  try clear hcz24_1
  try clear hcz24_2
  try clear hcz24_3
  try clear hcz27_0
  try clear hcz27_1
  try clear hcz27_2
  try clear hcz27_3
  try clear hcz29_0
  try clear hcz29_1
  try clear hcz29_2
  try clear hcz29_3
  try clear hcz30_0
  try clear hcz30_1
  try clear hcz30_2
  try clear hcz30_3
  try clear hcz31_0
  try clear hcz31_1
  try clear hcz31_2
  try clear hcz31_3
  try clear hcz35_0
  try clear hcz35_1
  try clear hcz35_2
  try clear hcz35_3
  try clear hcz37_0
  try clear hcz37_1
  try clear hcz37_2
  try clear hcz37_3
  try clear hcz38_0
  try clear hcz38_1
  try clear hcz38_2
  try clear hcz38_3
  try clear hcz41_0
  try clear hcz41_1
  try clear hcz41_2
  try clear hcz41_3
  try clear hcz43_0
  try clear hcz43_1
  try clear hcz43_2
  try clear hcz43_3
  try clear hcz44_0
  try clear hcz44_1
  try clear hcz44_2
  try clear hcz44_3
  try clear hcz45_0
  try clear hcz45_1
  try clear hcz45_2
  try clear hcz45_3
  try clear hcz46_0
  try clear hcz46_1
  try clear hcz46_2
  try clear hcz46_3
  try clear hcz7_0
  try clear hcz7_1
  try clear hcz7_2
  try clear hcz7_3
  try clear hcz9_0
  try clear hcz9_1
  try clear hcz9_2
  try clear hcz9_3
  try clear hfz10_0
  try clear hfz10_1
  try clear hfz10_2
  try clear hfz10_3
  try clear hfz13_0
  try clear hfz13_1
  try clear hfz13_2
  try clear hfz13_3
  try clear hfz15_0
  try clear hfz15_1
  try clear hfz15_2
  try clear hfz15_3
  try clear hfz16_0
  try clear hfz16_1
  try clear hfz16_2
  try clear hfz16_3
  try clear hfz17_0
  try clear hfz17_1
  try clear hfz17_2
  try clear hfz17_3
  try clear hfz21_0
  try clear hfz21_1
  try clear hfz21_2
  try clear hfz21_3
  try clear hfz23_0
  try clear hfz23_1
  try clear hfz23_2
  try clear hfz23_3
  try clear hfz24_0
  try clear hfz24_1
  try clear hfz24_2
  try clear hfz24_3
  try clear hfz27_0
  try clear hfz27_1
  try clear hfz27_2
  try clear hfz27_3
  try clear hfz29_0
  try clear hfz29_1
  try clear hfz29_2
  try clear hfz29_3
  try clear hfz30_0
  try clear hfz30_1
  try clear hfz30_2
  try clear hfz30_3
  try clear hfz31_0
  try clear hfz31_1
  try clear hfz31_2
  try clear hfz31_3
  try clear hfz35_0
  try clear hfz35_1
  try clear hfz35_2
  try clear hfz35_3
  try clear hfz37_0
  try clear hfz37_1
  try clear hfz37_2
  try clear hfz37_3
  try clear hfz38_0
  try clear hfz38_1
  try clear hfz38_2
  try clear hfz38_3
  try clear hfz41_0
  try clear hfz41_1
  try clear hfz41_2
  try clear hfz41_3
  try clear hfz43_0
  try clear hfz43_1
  try clear hfz43_2
  try clear hfz43_3
  try clear hfz44_0
  try clear hfz44_1
  try clear hfz44_2
  try clear hfz44_3
  try clear hfz45_0
  try clear hfz45_1
  try clear hfz45_2
  try clear hfz45_3
  try clear hfz46_0
  try clear hfz46_1
  try clear hfz46_2
  try clear hfz46_3
  try clear hfz7_0
  try clear hfz7_1
  try clear hfz7_2
  try clear hfz7_3
  try clear hfz9_0
  try clear hfz9_1
  try clear hfz9_2
  try clear hfz9_3
  obtain ⟨kq, x40_1, rfl, HA, HJ1, BK472, HB⟩ := hcut
  cases kq with
  | zero => exact absurd HA.out (by simp [spec_l2AtomOk.j0])
  | succ kj1 =>
   have H := HA.out
   clear HA
   simp only [spec_l2AtomOk.j0] at H
   by_cases c47 : x40_1 = true
   ·subst c47
    have H1 : (some false) = some r := by rw [if_pos rfl] at H; exact H
    clear H
    have H := H1
    clear H1
    obtain rfl := Option.some.inj H
    go_wp2
    go_ret
    exact ⟨by first | rfl | (simp [errW_none, errW_some] <;> rfl) | (simp [*, errW_none, errW_some] <;> rfl), by repeat (first | (with_reducible first | exact HB.out | apply below_alloc | apply pw_below_drewN | apply below_drew1 | refine below_set ?_ GE472.out) | exact HB.out)⟩
   ·replace c47 := Bool.eq_false_iff.mpr c47
    subst c47
    have H1 : (if a0_0 = 1 then (if a0_1 = 0 then (some true) else (some (a0_1 == 1))) else (if a0_0 = 2 then (spec_l2AtomOk.j1 kj1 a0_0 (a0_0 == 2) a0_0 a0_1 a0_2 a0_3) else (spec_l2AtomOk.j1 kj1 a0_0 (a0_0 == 4) a0_0 a0_1 a0_2 a0_3))) = some r := by rw [if_neg (show ¬ (false = true) by decide)] at H; exact H
    clear H
    have H := H1
    clear H1
    by_cases c48 : a0_0 = 1
    ·rw [if_pos c48] at H
     have c48b0 : (a0_0 == 1) = true := beq_iff_eq.mpr c48
     have c48b1 : (a0_0 != 1) = false := bne_eq_false_iff_eq.mpr c48
     clear c48
     by_cases c49 : a0_1 = 0
     ·rw [if_pos c49] at H
      have c49b0 : (a0_1 == 0) = true := beq_iff_eq.mpr c49
      have c49b1 : (a0_1 != 0) = false := bne_eq_false_iff_eq.mpr c49
      clear c49
      obtain rfl := Option.some.inj H
      have hcz50_0 : wc.cell? ⟨gb472, 0, none⟩ = some (.int .i64 a0_0) := (blk_cell BK472.out 0).trans rfl
      have hcz50_1 : wc.cell? ⟨gb472, 1, none⟩ = some (.int .i64 a0_1) := (blk_cell BK472.out 1).trans rfl
      have hcz50_2 : wc.cell? ⟨gb472, 2, none⟩ = some (.string a0_2) := (blk_cell BK472.out 2).trans rfl
      have hcz50_3 : wc.cell? ⟨gb472, 3, none⟩ = some (.int .i64 a0_3) := (blk_cell BK472.out 3).trans rfl
      have hfz50_0 := blk_frozen BK472.out 0
      have hfz50_1 := blk_frozen BK472.out 1
      have hfz50_2 := blk_frozen BK472.out 2
      have hfz50_3 := blk_frozen BK472.out 3
      go_wp2
      go_ret
      exact ⟨by first | rfl | (simp [errW_none, errW_some] <;> rfl) | (simp [*, errW_none, errW_some] <;> rfl), by repeat (first | (with_reducible first | exact HB.out | apply below_alloc | apply pw_below_drewN | apply below_drew1 | refine below_set ?_ GE472.out) | exact HB.out)⟩
     ·rw [if_neg c49] at H
      have c49b0 : (a0_1 == 0) = false := beq_eq_false_iff_ne.mpr c49
      have c49b1 : (a0_1 != 0) = true := bne_iff_ne.mpr c49
      obtain rfl := Option.some.inj H
      have hcz51_0 : wc.cell? ⟨gb472, 0, none⟩ = some (.int .i64 a0_0) := (blk_cell BK472.out 0).trans rfl
      have hcz51_1 : wc.cell? ⟨gb472, 1, none⟩ = some (.int .i64 a0_1) := (blk_cell BK472.out 1).trans rfl
      have hcz51_2 : wc.cell? ⟨gb472, 2, none⟩ = some (.string a0_2) := (blk_cell BK472.out 2).trans rfl
      have hcz51_3 : wc.cell? ⟨gb472, 3, none⟩ = some (.int .i64 a0_3) := (blk_cell BK472.out 3).trans rfl
      have hfz51_0 := blk_frozen BK472.out 0
      have hfz51_1 := blk_frozen BK472.out 1
      have hfz51_2 := blk_frozen BK472.out 2
      have hfz51_3 := blk_frozen BK472.out 3
      go_wp2
      go_ret
      exact ⟨by first | rfl | (simp [errW_none, errW_some] <;> rfl) | (simp [*, errW_none, errW_some] <;> rfl), by repeat (first | (with_reducible first | exact HB.out | apply below_alloc | apply pw_below_drewN | apply below_drew1 | refine below_set ?_ GE472.out) | exact HB.out)⟩
    ·rw [if_neg c48] at H
     have c48b0 : (a0_0 == 1) = false := beq_eq_false_iff_ne.mpr c48
     have c48b1 : (a0_0 != 1) = true := bne_iff_ne.mpr c48
     have HC52 := Aside0.mk H
     clear H
     have hcz53_0 : wc.cell? ⟨gb472, 0, none⟩ = some (.int .i64 a0_0) := (blk_cell BK472.out 0).trans rfl
     have hcz53_1 : wc.cell? ⟨gb472, 1, none⟩ = some (.int .i64 a0_1) := (blk_cell BK472.out 1).trans rfl
     have hcz53_2 : wc.cell? ⟨gb472, 2, none⟩ = some (.string a0_2) := (blk_cell BK472.out 2).trans rfl
     have hcz53_3 : wc.cell? ⟨gb472, 3, none⟩ = some (.int .i64 a0_3) := (blk_cell BK472.out 3).trans rfl
     have hfz53_0 := blk_frozen BK472.out 0
     have hfz53_1 := blk_frozen BK472.out 1
     have hfz53_2 := blk_frozen BK472.out 2
     have hfz53_3 := blk_frozen BK472.out 3
     go_upto_if 53 with (fail)
     go_cut [53] (fun v53 wc => ∃ (kq : Nat) (x53_51 : Bool), v53 = .bool x53_51 ∧ Aside0 (spec_l2AtomOk.j1 kq a0_0 x53_51 a0_0 a0_1 a0_2 a0_3 = some r) ∧ Aside0 (kq ≤ kj1) ∧ Aside0 (wc.heap[gb472]? = some (.cells #[.int .i64 a0_0, .int .i64 a0_1, .string a0_2, .int .i64 a0_3] 89 (0, 0))) ∧ Aside0 (Below w.heap.size w wc))
     case first =>
      have H := HC52.out
      clear HC52
      by_cases c54 : a0_0 = 2
      ·rw [if_pos c54] at H
       have c54b0 : (a0_0 == 2) = true := beq_iff_eq.mpr c54
       have c54b1 : (a0_0 != 2) = false := bne_eq_false_iff_eq.mpr c54
       clear c54
       (first | rw [c54b0] | (simp only [i64_w, i32_w]; rw [c54b0]) | skip)
       have H' := Aside0.mk H
       clear H
       go_wp2
       go_meet
       case rel => exact ⟨_, ((a0_0 == 2)), (by first | rfl | (simp; done) | (simp [*]; done)), H', ⟨by have := HJ1.out; first | omega | exact Nat.le_refl _⟩, ⟨by (with_reducible repeat (first | refine blk_drewN ?_ _ | refine blk_drew ?_ | refine blk_alloc ?_ _)); exact BK472.out⟩, ⟨by repeat (first | (with_reducible first | exact HB.out | apply below_alloc | apply pw_below_drewN | apply below_drew1 | refine below_set ?_ GE472.out) | exact HB.out)⟩⟩
      ·rw [if_neg c54] at H
       have c54b0 : (a0_0 == 2) = false := beq_eq_false_iff_ne.mpr c54
       have c54b1 : (a0_0 != 2) = true := bne_iff_ne.mpr c54
       (first | rw [c54b0] | (simp only [i64_w, i32_w]; rw [c54b0]) | skip)
       have H' := Aside0.mk H
       clear H
       go_wp2
       go_meet
       case rel => exact ⟨_, ((a0_0 == 4)), (by first | rfl | (simp; done) | (simp [*]; done)), H', ⟨by have := HJ1.out; first | omega | exact Nat.le_refl _⟩, ⟨by (with_reducible repeat (first | refine blk_drewN ?_ _ | refine blk_drew ?_ | refine blk_alloc ?_ _)); exact BK472.out⟩, ⟨by repeat (first | (with_reducible first | exact HB.out | apply below_alloc | apply pw_below_drewN | apply below_drew1 | refine below_set ?_ GE472.out) | exact HB.out)⟩⟩
     case rest =>
      clear HC52
      try clear c1
      try clear c2
      try clear p2
      try clear c3
      try clear c4
      try clear c4b0
      try clear c4b1
      try clear c5
      try clear c5b0
      try clear c5b1
      try clear c6
      try clear c6b0
      try clear c6b1
      try clear c8
      try clear c8b0
      try clear c8b1
      try clear c11
      try clear c11b0
      try clear c11b1
      try clear c12
      try clear c12b0
      try clear c12b1
      try clear c14
      try clear c14b0
      try clear c14b1
      try clear c18
      try clear c18b0
      try clear c18b1
      try clear c19
      try clear c19b0
      try clear c19b1
      try clear c20
      try clear c20b0
      try clear c20b1
      try clear c22
      try clear c22b0
      try clear c22b1
      try clear c25
      try clear c25b0
      try clear c25b1
      try clear c26
      try clear c26b0
      try clear c26b1
      try clear c28
      try clear c28b0
      try clear c28b1
      try clear c32
      try clear c32b0
      try clear c32b1
      try clear c33
      try clear c33b0
      try clear c33b1
      try clear c34
      try clear c34b0
      try clear c34b1
      try clear c36
      try clear c36b0
      try clear c36b1
      try clear c39
      try clear c39b0
      try clear c39b1
      try clear c40
      try clear c40b0
      try clear c40b1
      try clear c42
      try clear c42b0
      try clear c42b1
      try clear c47
      try clear c48
      try clear c48b0
      try clear c48b1
      try clear c49
      try clear c49b0
      try clear c49b1
      try clear c54
      try clear c54b0
      try clear c54b1
      try clear hcz10_0
      try clear hcz10_1
      try clear hcz10_2
      try clear hcz10_3
      try clear hcz13_0
      try clear hcz13_1
      try clear hcz13_2
      try clear hcz13_3
      try clear hcz15_0
      try clear hcz15_1
      try clear hcz15_2
      try clear hcz15_3
      try clear hcz16_0
      try clear hcz16_1
      try clear hcz16_2
      try clear hcz16_3
      try clear hcz17_0
      try clear hcz17_1
      try clear hcz17_2
      try clear hcz17_3
      try clear hcz21_0
      try clear hcz21_1
      try clear hcz21_2
      try clear hcz21_3
      try clear hcz23_0
      try clear hcz23_1
      try clear hcz23_2
      try clear hcz23_3
      try clear hcz24_0
      try clear hcz24_1
      try clear hcz24_2
      try clear hcz24_3
      try clear hcz27_0
      try clear hcz27_1
      try clear hcz27_2
      try clear hcz27_3
      try clear hcz29_0
      try clear hcz29_1
      try clear hcz29_2
      try clear hcz29_3
      try clear hcz30_0
      try clear hcz30_1
      try clear hcz30_2
      try clear hcz30_3
      try clear hcz31_0
      try clear hcz31_1
      try clear hcz31_2
      try clear hcz31_3
      try clear hcz35_0
      try clear hcz35_1
      try clear hcz35_2
      try clear hcz35_3
      try clear hcz37_0
      try clear hcz37_1
      try clear hcz37_2
      try clear hcz37_3
      try clear hcz38_0
      try clear hcz38_1
      try clear hcz38_2
      try clear hcz38_3
      try clear hcz41_0
      try clear hcz41_1
      try clear hcz41_2
      try clear hcz41_3
      try clear hcz43_0
      try clear hcz43_1
      try clear hcz43_2
      try clear hcz43_3
      try clear hcz44_0
      try clear hcz44_1
      try clear hcz44_2
      try clear hcz44_3
      try clear hcz45_0
      try clear hcz45_1
      try clear hcz45_2
      try clear hcz45_3
      try clear hcz46_0
      try clear hcz46_1
      try clear hcz46_2
      try clear hcz46_3
      try clear hcz50_0
      try clear hcz50_1
      try clear hcz50_2
      try clear hcz50_3
      try clear hcz51_0
      try clear hcz51_1
      try clear hcz51_2
      try clear hcz51_3
      try clear hcz53_0
      try clear hcz53_1
      try clear hcz53_2
      try clear hcz53_3
      try clear hcz7_0
      try clear hcz7_1
      try clear hcz7_2
      try clear hcz7_3
      try clear hcz9_0
      try clear hcz9_1
      try clear hcz9_2
      try clear hcz9_3
      try clear hfz10_0
      try clear hfz10_1
      try clear hfz10_2
      try clear hfz10_3
      try clear hfz13_0
      try clear hfz13_1
      try clear hfz13_2
      try clear hfz13_3
      try clear hfz15_0
      try clear hfz15_1
      try clear hfz15_2
      try clear hfz15_3
      try clear hfz16_0
      try clear hfz16_1
      try clear hfz16_2
      try clear hfz16_3
      try clear hfz17_0
      try clear hfz17_1
      try clear hfz17_2
      try clear hfz17_3
      try clear hfz21_0
      try clear hfz21_1
      try clear hfz21_2
      try clear hfz21_3
      try clear hfz23_0
      try clear hfz23_1
      try clear hfz23_2
      try clear hfz23_3
      try clear hfz24_0
      try clear hfz24_1
      try clear hfz24_2
      try clear hfz24_3
      try clear hfz27_0
      try clear hfz27_1
      try clear hfz27_2
      try clear hfz27_3
      try clear hfz29_0
      try clear hfz29_1
      try clear hfz29_2
      try clear hfz29_3
      try clear hfz30_0
      try clear hfz30_1
      try clear hfz30_2
      try clear hfz30_3
      try clear hfz31_0
      try clear hfz31_1
      try clear hfz31_2
      try clear hfz31_3
      try clear hfz35_0
      try clear hfz35_1
      try clear hfz35_2
      try clear hfz35_3
      try clear hfz37_0
      try clear hfz37_1
      try clear hfz37_2
      try clear hfz37_3
      try clear hfz38_0
      try clear hfz38_1
      try clear hfz38_2
      try clear hfz38_3
      try clear hfz41_0
      try clear hfz41_1
      try clear hfz41_2
      try clear hfz41_3
      try clear hfz43_0
      try clear hfz43_1
      try clear hfz43_2
      try clear hfz43_3
      try clear hfz44_0
      try clear hfz44_1
      try clear hfz44_2
      try clear hfz44_3
      try clear hfz45_0
      try clear hfz45_1
      try clear hfz45_2
      try clear hfz45_3
      try clear hfz46_0
      try clear hfz46_1
      try clear hfz46_2
      try clear hfz46_3
      try clear hfz50_0
      try clear hfz50_1
      try clear hfz50_2
      try clear hfz50_3
      try clear hfz51_0
      try clear hfz51_1
      try clear hfz51_2
      try clear hfz51_3
      try clear hfz53_0
      try clear hfz53_1
      try clear hfz53_2
      try clear hfz53_3
      try clear hfz7_0
      try clear hfz7_1
      try clear hfz7_2
      try clear hfz7_3
      try clear hfz9_0
      try clear hfz9_1
      try clear hfz9_2
      try clear hfz9_3
      try clear p2
      obtain ⟨kq, x53_51, rfl, HA, HJ51, BK472, HB⟩ := hcut
      cases kq with
      | zero => exact absurd HA.out (by simp [spec_l2AtomOk.j1])
      | succ kj51 =>
       have H := HA.out
       clear HA
       simp only [spec_l2AtomOk.j1] at H
       by_cases c55 : x53_51 = true
       ·subst c55
        have H1 : (some (decide (a0_3 ≥ 0))) = some r := by rw [if_pos rfl] at H; exact H
        clear H
        have H := H1
        clear H1
        obtain rfl := Option.some.inj H
        have hcz56_0 : wc.cell? ⟨gb472, 0, none⟩ = some (.int .i64 a0_0) := (blk_cell BK472.out 0).trans rfl
        have hcz56_1 : wc.cell? ⟨gb472, 1, none⟩ = some (.int .i64 a0_1) := (blk_cell BK472.out 1).trans rfl
        have hcz56_2 : wc.cell? ⟨gb472, 2, none⟩ = some (.string a0_2) := (blk_cell BK472.out 2).trans rfl
        have hcz56_3 : wc.cell? ⟨gb472, 3, none⟩ = some (.int .i64 a0_3) := (blk_cell BK472.out 3).trans rfl
        have hfz56_0 := blk_frozen BK472.out 0
        have hfz56_1 := blk_frozen BK472.out 1
        have hfz56_2 := blk_frozen BK472.out 2
        have hfz56_3 := blk_frozen BK472.out 3
        go_wp2
        go_ret
        exact ⟨by first | rfl | (simp [errW_none, errW_some] <;> rfl) | (simp [*, errW_none, errW_some] <;> rfl), by repeat (first | (with_reducible first | exact HB.out | apply below_alloc | apply pw_below_drewN | apply below_drew1 | refine below_set ?_ GE472.out) | exact HB.out)⟩
       ·replace c55 := Bool.eq_false_iff.mpr c55
        subst c55
        have H1 : (if a0_0 = 3 then (some (decide ((a0_2.size : Int) ≤ 1500))) else (if a0_0 = 5 then (if a0_3 ≥ 0 then (some ((Int.tmod a0_3 2) == 0)) else (some false)) else (some false))) = some r := by rw [if_neg (show ¬ (false = true) by decide)] at H; exact H
        clear H
        have H := H1
        clear H1
        by_cases c57 : a0_0 = 3
        ·rw [if_pos c57] at H
         have c57b0 : (a0_0 == 3) = true := beq_iff_eq.mpr c57
         have c57b1 : (a0_0 != 3) = false := bne_eq_false_iff_eq.mpr c57
         clear c57
         obtain rfl := Option.some.inj H
         have hcz58_0 : wc.cell? ⟨gb472, 0, none⟩ = some (.int .i64 a0_0) := (blk_cell BK472.out 0).trans rfl
         have hcz58_1 : wc.cell? ⟨gb472, 1, none⟩ = some (.int .i64 a0_1) := (blk_cell BK472.out 1).trans rfl
         have hcz58_2 : wc.cell? ⟨gb472, 2, none⟩ = some (.string a0_2) := (blk_cell BK472.out 2).trans rfl
         have hcz58_3 : wc.cell? ⟨gb472, 3, none⟩ = some (.int .i64 a0_3) := (blk_cell BK472.out 3).trans rfl
         have hfz58_0 := blk_frozen BK472.out 0
         have hfz58_1 := blk_frozen BK472.out 1
         have hfz58_2 := blk_frozen BK472.out 2
         have hfz58_3 := blk_frozen BK472.out 3
         go_wp2
         go_ret
         exact ⟨by first | rfl | (simp [errW_none, errW_some] <;> rfl) | (simp [*, errW_none, errW_some] <;> rfl), by repeat (first | (with_reducible first | exact HB.out | apply below_alloc | apply pw_below_drewN | apply below_drew1 | refine below_set ?_ GE472.out) | exact HB.out)⟩
        ·rw [if_neg c57] at H
         have c57b0 : (a0_0 == 3) = false := beq_eq_false_iff_ne.mpr c57
         have c57b1 : (a0_0 != 3) = true := bne_iff_ne.mpr c57
         by_cases c59 : a0_0 = 5
         ·rw [if_pos c59] at H
          have c59b0 : (a0_0 == 5) = true := beq_iff_eq.mpr c59
          have c59b1 : (a0_0 != 5) = false := bne_eq_false_iff_eq.mpr c59
          clear c59
          by_cases c60 : a0_3 ≥ 0
          ·rw [if_pos c60] at H
           have c60b0 : decide (0 ≤ a0_3) = true := decide_eq_true c60
           clear c60
           obtain rfl := Option.some.inj H
           have hcz61_0 : wc.cell? ⟨gb472, 0, none⟩ = some (.int .i64 a0_0) := (blk_cell BK472.out 0).trans rfl
           have hcz61_1 : wc.cell? ⟨gb472, 1, none⟩ = some (.int .i64 a0_1) := (blk_cell BK472.out 1).trans rfl
           have hcz61_2 : wc.cell? ⟨gb472, 2, none⟩ = some (.string a0_2) := (blk_cell BK472.out 2).trans rfl
           have hcz61_3 : wc.cell? ⟨gb472, 3, none⟩ = some (.int .i64 a0_3) := (blk_cell BK472.out 3).trans rfl
           have hfz61_0 := blk_frozen BK472.out 0
           have hfz61_1 := blk_frozen BK472.out 1
           have hfz61_2 := blk_frozen BK472.out 2
           have hfz61_3 := blk_frozen BK472.out 3
           go_wp2
           go_ret
           exact ⟨by first | rfl | (simp [errW_none, errW_some] <;> rfl) | (simp [*, errW_none, errW_some] <;> rfl), by repeat (first | (with_reducible first | exact HB.out | apply below_alloc | apply pw_below_drewN | apply below_drew1 | refine below_set ?_ GE472.out) | exact HB.out)⟩
          ·rw [if_neg c60] at H
           have c60b0 : decide (0 ≤ a0_3) = false := decide_eq_false c60
           clear c60
           obtain rfl := Option.some.inj H
           have hcz62_0 : wc.cell? ⟨gb472, 0, none⟩ = some (.int .i64 a0_0) := (blk_cell BK472.out 0).trans rfl
           have hcz62_1 : wc.cell? ⟨gb472, 1, none⟩ = some (.int .i64 a0_1) := (blk_cell BK472.out 1).trans rfl
           have hcz62_2 : wc.cell? ⟨gb472, 2, none⟩ = some (.string a0_2) := (blk_cell BK472.out 2).trans rfl
           have hcz62_3 : wc.cell? ⟨gb472, 3, none⟩ = some (.int .i64 a0_3) := (blk_cell BK472.out 3).trans rfl
           have hfz62_0 := blk_frozen BK472.out 0
           have hfz62_1 := blk_frozen BK472.out 1
           have hfz62_2 := blk_frozen BK472.out 2
           have hfz62_3 := blk_frozen BK472.out 3
           go_wp2
           go_ret
           exact ⟨by first | rfl | (simp [errW_none, errW_some] <;> rfl) | (simp [*, errW_none, errW_some] <;> rfl), by repeat (first | (with_reducible first | exact HB.out | apply below_alloc | apply pw_below_drewN | apply below_drew1 | refine below_set ?_ GE472.out) | exact HB.out)⟩
         ·rw [if_neg c59] at H
          have c59b0 : (a0_0 == 5) = false := beq_eq_false_iff_ne.mpr c59
          have c59b1 : (a0_0 != 5) = true := bne_iff_ne.mpr c59
          obtain rfl := Option.some.inj H
          go_wp2
          go_ret
          exact ⟨by first | rfl | (simp [errW_none, errW_some] <;> rfl) | (simp [*, errW_none, errW_some] <;> rfl), by repeat (first | (with_reducible first | exact HB.out | apply below_alloc | apply pw_below_drewN | apply below_drew1 | refine below_set ?_ GE472.out) | exact HB.out)⟩

end Go.Proofs.Ytgaibeckblmbbaa.P
