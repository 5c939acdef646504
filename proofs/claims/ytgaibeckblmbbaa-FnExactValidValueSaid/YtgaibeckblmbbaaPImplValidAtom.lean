-- Printed for this claim by a small program of this session (kprint.py), which drives the kit's print program.
import Derived.Test.YtgaibeckblmbbaaP0
namespace Go.Proofs.Ytgaibeckblmbbaa.P
open Go.RowKit Go.Proofs.YtgaibeckblmbbaaW.PrintWords Go.Proofs.YtgaibeckblmbbaaW.PrintLast Go.Proofs.YtgaibeckblmbbaaW.PrintMore
attribute [local go_sem] max2_int min2_int max_two min_two max_three min_three max_four min_four
set_option linter.unusedVariables false
set_option linter.unusedSimpArgs false

/-! ### impl_validAtom: function 56 -/
def impl_validAtom.j0 : Nat → Bool → Int → Int → ByteArray → Int → Option (Bool)
 | 0, _, _, _, _, _ => none
 | k + 1, x40, x518000, x518001, x518002, x518003 => if x40 = true then (some false) else (if x518000 = 1 then (if x518001 = 0 then (some true) else (some (x518001 == 1))) else (if x518000 = 2 then (some true) else (if x518000 = 3 then (some (decide ((x518002.size : Int) ≤ 1500))) else (if x518000 = 4 then (some true) else (if x518000 = 5 then (some ((Int.tmod x518003 2) == 0)) else (some false))))))
def impl_validAtom.f (k : Nat) (a0_0 : Int) (a0_1 : Int) (a0_2 : ByteArray) (a0_3 : Int) : Option (Bool) := if a0_3 < 0 then (impl_validAtom.j0 k true a0_0 a0_1 a0_2 a0_3) else (if a0_0 = 1 then (if a0_0 = 3 then (if a0_0 < 4 then (impl_validAtom.j0 k (a0_3 != 0) a0_0 a0_1 a0_2 a0_3) else (impl_validAtom.j0 k false a0_0 a0_1 a0_2 a0_3)) else (if a0_2.toList = ([] : List UInt8) then (if a0_0 < 4 then (impl_validAtom.j0 k (a0_3 != 0) a0_0 a0_1 a0_2 a0_3) else (impl_validAtom.j0 k false a0_0 a0_1 a0_2 a0_3)) else (impl_validAtom.j0 k true a0_0 a0_1 a0_2 a0_3))) else (if a0_0 = 2 then (if a0_0 = 3 then (if a0_0 < 4 then (impl_validAtom.j0 k (a0_3 != 0) a0_0 a0_1 a0_2 a0_3) else (impl_validAtom.j0 k false a0_0 a0_1 a0_2 a0_3)) else (if a0_2.toList = ([] : List UInt8) then (if a0_0 < 4 then (impl_validAtom.j0 k (a0_3 != 0) a0_0 a0_1 a0_2 a0_3) else (impl_validAtom.j0 k false a0_0 a0_1 a0_2 a0_3)) else (impl_validAtom.j0 k true a0_0 a0_1 a0_2 a0_3))) else (if a0_1 = 0 then (if a0_0 = 3 then (if a0_0 < 4 then (impl_validAtom.j0 k (a0_3 != 0) a0_0 a0_1 a0_2 a0_3) else (impl_validAtom.j0 k false a0_0 a0_1 a0_2 a0_3)) else (if a0_2.toList = ([] : List UInt8) then (if a0_0 < 4 then (impl_validAtom.j0 k (a0_3 != 0) a0_0 a0_1 a0_2 a0_3) else (impl_validAtom.j0 k false a0_0 a0_1 a0_2 a0_3)) else (impl_validAtom.j0 k true a0_0 a0_1 a0_2 a0_3))) else (impl_validAtom.j0 k true a0_0 a0_1 a0_2 a0_3))))
theorem impl_validAtom.mono_l : ∀ k, (∀ y0 y1 y2 y3 y4, LeO (impl_validAtom.j0 k y0 y1 y2 y3 y4) (impl_validAtom.j0 (k + 1) y0 y1 y2 y3 y4))
 | 0 => fun _ _ _ _ _ r h => by simp [impl_validAtom.j0] at h
 | k + 1 => by
  have ih0 := impl_validAtom.mono_l k
  ·intro y0 y1 y2 y3 y4
   unfold impl_validAtom.j0
   repeat' first
   | (with_reducible exact ih0 _ _ _ _ _)
   | (with_reducible exact LeO.refl _)
   | (with_reducible exact LeO.none _)
   | (with_reducible refine LeO.ite ?_ ?_)
   | (with_reducible refine LeO.bind ?_ (fun _ => ?_))
   | exact ih0 _ _ _ _ _
   | exact LeO.none _
   | refine LeO.ite ?_ ?_
   | refine LeO.bind ?_ (fun _ => ?_)
theorem impl_validAtom.mono : ∀ a0 a1 a2 a3 k, LeO (impl_validAtom.f k a0 a1 a2 a3) (impl_validAtom.f (k + 1) a0 a1 a2 a3) := by
 intro a0 a1 a2 a3 k
 have ih0 := impl_validAtom.mono_l k
 unfold impl_validAtom.f
 repeat' first
   | (with_reducible exact ih0 _ _ _ _ _)
   | (with_reducible exact LeO.refl _)
   | (with_reducible exact LeO.none _)
   | (with_reducible refine LeO.ite ?_ ?_)
   | (with_reducible refine LeO.bind ?_ (fun _ => ?_))
   | exact ih0 _ _ _ _ _
   | exact LeO.none _
   | refine LeO.ite ?_ ?_
   | refine LeO.bind ?_ (fun _ => ?_)
set_option maxHeartbeats 8000000 in
set_option maxRecDepth 100000 in
theorem impl_validAtom.calls (k : Nat) (a0_0 : Int) (a0_1 : Int) (a0_2 : ByteArray) (a0_3 : Int) (r : Bool) (w : World) (h : impl_validAtom.f k a0_0 a0_1 a0_2 a0_3 = some r) :
  Calls Try.prog 56 #[.agg #[.int .i64 a0_0, .int .i64 a0_1, .string a0_2, .int .i64 a0_3]] w fun e w' => e = .returned (.bool r) ∧ Below w.heap.size w w' := by
 have hu89 := Try.underlying89
 have HB := Aside0.mk (Below.refl w.heap.size w)
 have H : (if a0_3 < 0 then (impl_validAtom.j0 k true a0_0 a0_1 a0_2 a0_3) else (if a0_0 = 1 then (if a0_0 = 3 then (if a0_0 < 4 then (impl_validAtom.j0 k (a0_3 != 0) a0_0 a0_1 a0_2 a0_3) else (impl_validAtom.j0 k false a0_0 a0_1 a0_2 a0_3)) else (if a0_2.toList = ([] : List UInt8) then (if a0_0 < 4 then (impl_validAtom.j0 k (a0_3 != 0) a0_0 a0_1 a0_2 a0_3) else (impl_validAtom.j0 k false a0_0 a0_1 a0_2 a0_3)) else (impl_validAtom.j0 k true a0_0 a0_1 a0_2 a0_3))) else (if a0_0 = 2 then (if a0_0 = 3 then (if a0_0 < 4 then (impl_validAtom.j0 k (a0_3 != 0) a0_0 a0_1 a0_2 a0_3) else (impl_validAtom.j0 k false a0_0 a0_1 a0_2 a0_3)) else (if a0_2.toList = ([] : List UInt8) then (if a0_0 < 4 then (impl_validAtom.j0 k (a0_3 != 0) a0_0 a0_1 a0_2 a0_3) else (impl_validAtom.j0 k false a0_0 a0_1 a0_2 a0_3)) else (impl_validAtom.j0 k true a0_0 a0_1 a0_2 a0_3))) else (if a0_1 = 0 then (if a0_0 = 3 then (if a0_0 < 4 then (impl_validAtom.j0 k (a0_3 != 0) a0_0 a0_1 a0_2 a0_3) else (impl_validAtom.j0 k false a0_0 a0_1 a0_2 a0_3)) else (if a0_2.toList = ([] : List UInt8) then (if a0_0 < 4 then (impl_validAtom.j0 k (a0_3 != 0) a0_0 a0_1 a0_2 a0_3) else (impl_validAtom.j0 k false a0_0 a0_1 a0_2 a0_3)) else (impl_validAtom.j0 k true a0_0 a0_1 a0_2 a0_3))) else (impl_validAtom.j0 k true a0_0 a0_1 a0_2 a0_3))))) = some r := h
 clear h
 have HC2 := Aside0.mk H
 clear H
 go_enter Try.func56, Try.ntmps56
 go_upto_region 1 with (first | ((with_reducible refine gate_dst (N := 1) rfl ?_); refine box_event ?hg (N := 1) ?hd (cs := #[.int .i64 a0_0, .int .i64 a0_1, .string a0_2, .int .i64 a0_3]) (t := 89) ?hr ?_; (case hd => rfl); (case hg => rfl); (case hr => first | (go_simp; done) | (go_simp; rfl)); intro gb517 hg w3 hbox hb; have n0_ := Aside0.mk (below_step (by repeat (first | (with_reducible first | exact HB.out | apply below_alloc | apply pw_below_drewN | apply below_drew1) | exact HB.out)) hb); have n1_ := Aside0.mk (hbox); have n2_ := Aside0.mk ((by rw [hg]; exact (below_size (by repeat (first | (with_reducible first | exact HB.out | apply below_alloc | apply pw_below_drewN | apply below_drew1) | exact HB.out))) : w.heap.size ≤ gb517)); have n3_ := Aside0.mk ((by rw [hg]; exact (below_size (by repeat (first | (with_reducible first | exact HB.out | apply below_alloc | apply pw_below_drewN | apply below_drew1) | exact HB.out))) : w.heap.size ≤ gb517)); clear HB; have HB := n0_; have BK517 := n1_; have GW517 := n2_; have GE517 := n3_; clear n0_ n1_ n2_ n3_; clear hb hbox hg))
 (try simp only [Act.put, List.setIfInBounds_toArray, List.set_cons_zero, List.set_cons_succ])
 go_cut [40] (fun v40 wc => ∃ (kq : Nat) (x40_1 : Bool), v40 = .bool x40_1 ∧ Aside0 (impl_validAtom.j0 kq x40_1 a0_0 a0_1 a0_2 a0_3 = some r) ∧ Aside0 (kq ≤ k) ∧ Aside0 (wc.heap[gb517]? = some (.cells #[.int .i64 a0_0, .int .i64 a0_1, .string a0_2, .int .i64 a0_3] 89 (0, 0))) ∧ Aside0 (Below w.heap.size w wc))
 case first =>
  have H := HC2.out
  clear HC2
  by_cases c4 : a0_3 < 0
  ·rw [if_pos c4] at H
   have c4b0 : decide (a0_3 < 0) = true := decide_eq_true c4
   clear c4
   (first | rw [c4b0] | (simp only [i64_w, i32_w]; rw [c4b0]) | skip)
   have H' := Aside0.mk H
   clear H
   have hcz5_0 : w3.cell? ⟨gb517, 0, none⟩ = some (.int .i64 a0_0) := (blk_cell BK517.out 0).trans rfl
   have hcz5_1 : w3.cell? ⟨gb517, 1, none⟩ = some (.int .i64 a0_1) := (blk_cell BK517.out 1).trans rfl
   have hcz5_2 : w3.cell? ⟨gb517, 2, none⟩ = some (.string a0_2) := (blk_cell BK517.out 2).trans rfl
   have hcz5_3 : w3.cell? ⟨gb517, 3, none⟩ = some (.int .i64 a0_3) := (blk_cell BK517.out 3).trans rfl
   have hfz5_0 := blk_frozen BK517.out 0
   have hfz5_1 := blk_frozen BK517.out 1
   have hfz5_2 := blk_frozen BK517.out 2
   have hfz5_3 := blk_frozen BK517.out 3
   go_wp2
   go_meet
   case rel => exact ⟨_, (true), (by first | rfl | (simp; done) | (simp [*]; done)), H', ⟨by first | omega | exact Nat.le_refl _⟩, ⟨by (with_reducible repeat (first | refine blk_drewN ?_ _ | refine blk_drew ?_ | refine blk_alloc ?_ _)); exact BK517.out⟩, ⟨by repeat (first | (with_reducible first | exact HB.out | apply below_alloc | apply pw_below_drewN | apply below_drew1 | refine below_set ?_ GE517.out) | exact HB.out)⟩⟩
  ·rw [if_neg c4] at H
   have c4b0 : decide (a0_3 < 0) = false := decide_eq_false c4
   clear c4
   (first | rw [c4b0] | (simp only [i64_w, i32_w]; rw [c4b0]) | skip)
   by_cases c6 : a0_0 = 1
   ·rw [if_pos c6] at H
    have c6b0 : (a0_0 == 1) = true := beq_iff_eq.mpr c6
    have c6b1 : (a0_0 != 1) = false := bne_eq_false_iff_eq.mpr c6
    clear c6
    by_cases c7 : a0_0 = 3
    ·rw [if_pos c7] at H
     have c7b0 : (a0_0 == 3) = true := beq_iff_eq.mpr c7
     have c7b1 : (a0_0 != 3) = false := bne_eq_false_iff_eq.mpr c7
     clear c7
     by_cases c8 : a0_0 < 4
     ·rw [if_pos c8] at H
      have c8b0 : decide (a0_0 < 4) = true := decide_eq_true c8
      clear c8
      have H' := Aside0.mk H
      clear H
      have hcz9_0 : w3.cell? ⟨gb517, 0, none⟩ = some (.int .i64 a0_0) := (blk_cell BK517.out 0).trans rfl
      have hcz9_1 : w3.cell? ⟨gb517, 1, none⟩ = some (.int .i64 a0_1) := (blk_cell BK517.out 1).trans rfl
      have hcz9_2 : w3.cell? ⟨gb517, 2, none⟩ = some (.string a0_2) := (blk_cell BK517.out 2).trans rfl
      have hcz9_3 : w3.cell? ⟨gb517, 3, none⟩ = some (.int .i64 a0_3) := (blk_cell BK517.out 3).trans rfl
      have hfz9_0 := blk_frozen BK517.out 0
      have hfz9_1 := blk_frozen BK517.out 1
      have hfz9_2 := blk_frozen BK517.out 2
      have hfz9_3 := blk_frozen BK517.out 3
      go_wp2
      go_meet
      case rel => exact ⟨_, ((a0_3 != 0)), (by first | rfl | (simp; done) | (simp [*]; done)), H', ⟨by first | omega | exact Nat.le_refl _⟩, ⟨by (with_reducible repeat (first | refine blk_drewN ?_ _ | refine blk_drew ?_ | refine blk_alloc ?_ _)); exact BK517.out⟩, ⟨by repeat (first | (with_reducible first | exact HB.out | apply below_alloc | apply pw_below_drewN | apply below_drew1 | refine below_set ?_ GE517.out) | exact HB.out)⟩⟩
     ·rw [if_neg c8] at H
      have c8b0 : decide (a0_0 < 4) = false := decide_eq_false c8
      clear c8
      have H' := Aside0.mk H
      clear H
      have hcz10_0 : w3.cell? ⟨gb517, 0, none⟩ = some (.int .i64 a0_0) := (blk_cell BK517.out 0).trans rfl
      have hcz10_1 : w3.cell? ⟨gb517, 1, none⟩ = some (.int .i64 a0_1) := (blk_cell BK517.out 1).trans rfl
      have hcz10_2 : w3.cell? ⟨gb517, 2, none⟩ = some (.string a0_2) := (blk_cell BK517.out 2).trans rfl
      have hcz10_3 : w3.cell? ⟨gb517, 3, none⟩ = some (.int .i64 a0_3) := (blk_cell BK517.out 3).trans rfl
      have hfz10_0 := blk_frozen BK517.out 0
      have hfz10_1 := blk_frozen BK517.out 1
      have hfz10_2 := blk_frozen BK517.out 2
      have hfz10_3 := blk_frozen BK517.out 3
      go_wp2
      go_meet
      case rel => exact ⟨_, (false), (by first | rfl | (simp; done) | (simp [*]; done)), H', ⟨by first | omega | exact Nat.le_refl _⟩, ⟨by (with_reducible repeat (first | refine blk_drewN ?_ _ | refine blk_drew ?_ | refine blk_alloc ?_ _)); exact BK517.out⟩, ⟨by repeat (first | (with_reducible first | exact HB.out | apply below_alloc | apply pw_below_drewN | apply below_drew1 | refine below_set ?_ GE517.out) | exact HB.out)⟩⟩
    ·rw [if_neg c7] at H
     have c7b0 : (a0_0 == 3) = false := beq_eq_false_iff_ne.mpr c7
     have c7b1 : (a0_0 != 3) = true := bne_iff_ne.mpr c7
     by_cases c11 : a0_2.toList = ([] : List UInt8)
     ·rw [if_pos c11] at H
      have c11b0 : (a0_2.toList == ([] : List UInt8)) = true := beq_iff_eq.mpr c11
      have c11b1 : (a0_2.toList != ([] : List UInt8)) = false := bne_eq_false_iff_eq.mpr c11
      clear c11
      by_cases c12 : a0_0 < 4
      ·rw [if_pos c12] at H
       have c12b0 : decide (a0_0 < 4) = true := decide_eq_true c12
       clear c12
       have H' := Aside0.mk H
       clear H
       have hcz13_0 : w3.cell? ⟨gb517, 0, none⟩ = some (.int .i64 a0_0) := (blk_cell BK517.out 0).trans rfl
       have hcz13_1 : w3.cell? ⟨gb517, 1, none⟩ = some (.int .i64 a0_1) := (blk_cell BK517.out 1).trans rfl
       have hcz13_2 : w3.cell? ⟨gb517, 2, none⟩ = some (.string a0_2) := (blk_cell BK517.out 2).trans rfl
       have hcz13_3 : w3.cell? ⟨gb517, 3, none⟩ = some (.int .i64 a0_3) := (blk_cell BK517.out 3).trans rfl
       have hfz13_0 := blk_frozen BK517.out 0
       have hfz13_1 := blk_frozen BK517.out 1
       have hfz13_2 := blk_frozen BK517.out 2
       have hfz13_3 := blk_frozen BK517.out 3
       go_wp2
       go_meet
       case rel => exact ⟨_, ((a0_3 != 0)), (by first | rfl | (simp; done) | (simp [*]; done)), H', ⟨by first | omega | exact Nat.le_refl _⟩, ⟨by (with_reducible repeat (first | refine blk_drewN ?_ _ | refine blk_drew ?_ | refine blk_alloc ?_ _)); exact BK517.out⟩, ⟨by repeat (first | (with_reducible first | exact HB.out | apply below_alloc | apply pw_below_drewN | apply below_drew1 | refine below_set ?_ GE517.out) | exact HB.out)⟩⟩
      ·rw [if_neg c12] at H
       have c12b0 : decide (a0_0 < 4) = false := decide_eq_false c12
       clear c12
       have H' := Aside0.mk H
       clear H
       have hcz14_0 : w3.cell? ⟨gb517, 0, none⟩ = some (.int .i64 a0_0) := (blk_cell BK517.out 0).trans rfl
       have hcz14_1 : w3.cell? ⟨gb517, 1, none⟩ = some (.int .i64 a0_1) := (blk_cell BK517.out 1).trans rfl
       have hcz14_2 : w3.cell? ⟨gb517, 2, none⟩ = some (.string a0_2) := (blk_cell BK517.out 2).trans rfl
       have hcz14_3 : w3.cell? ⟨gb517, 3, none⟩ = some (.int .i64 a0_3) := (blk_cell BK517.out 3).trans rfl
       have hfz14_0 := blk_frozen BK517.out 0
       have hfz14_1 := blk_frozen BK517.out 1
       have hfz14_2 := blk_frozen BK517.out 2
       have hfz14_3 := blk_frozen BK517.out 3
       go_wp2
       go_meet
       case rel => exact ⟨_, (false), (by first | rfl | (simp; done) | (simp [*]; done)), H', ⟨by first | omega | exact Nat.le_refl _⟩, ⟨by (with_reducible repeat (first | refine blk_drewN ?_ _ | refine blk_drew ?_ | refine blk_alloc ?_ _)); exact BK517.out⟩, ⟨by repeat (first | (with_reducible first | exact HB.out | apply below_alloc | apply pw_below_drewN | apply below_drew1 | refine below_set ?_ GE517.out) | exact HB.out)⟩⟩
     ·rw [if_neg c11] at H
      have c11b0 : (a0_2.toList == ([] : List UInt8)) = false := beq_eq_false_iff_ne.mpr c11
      have c11b1 : (a0_2.toList != ([] : List UInt8)) = true := bne_iff_ne.mpr c11
      have H' := Aside0.mk H
      clear H
      have hcz15_0 : w3.cell? ⟨gb517, 0, none⟩ = some (.int .i64 a0_0) := (blk_cell BK517.out 0).trans rfl
      have hcz15_1 : w3.cell? ⟨gb517, 1, none⟩ = some (.int .i64 a0_1) := (blk_cell BK517.out 1).trans rfl
      have hcz15_2 : w3.cell? ⟨gb517, 2, none⟩ = some (.string a0_2) := (blk_cell BK517.out 2).trans rfl
      have hcz15_3 : w3.cell? ⟨gb517, 3, none⟩ = some (.int .i64 a0_3) := (blk_cell BK517.out 3).trans rfl
      have hfz15_0 := blk_frozen BK517.out 0
      have hfz15_1 := blk_frozen BK517.out 1
      have hfz15_2 := blk_frozen BK517.out 2
      have hfz15_3 := blk_frozen BK517.out 3
      go_wp2
      go_meet
      case rel => exact ⟨_, (true), (by first | rfl | (simp; done) | (simp [*]; done)), H', ⟨by first | omega | exact Nat.le_refl _⟩, ⟨by (with_reducible repeat (first | refine blk_drewN ?_ _ | refine blk_drew ?_ | refine blk_alloc ?_ _)); exact BK517.out⟩, ⟨by repeat (first | (with_reducible first | exact HB.out | apply below_alloc | apply pw_below_drewN | apply below_drew1 | refine below_set ?_ GE517.out) | exact HB.out)⟩⟩
   ·rw [if_neg c6] at H
    have c6b0 : (a0_0 == 1) = false := beq_eq_false_iff_ne.mpr c6
    have c6b1 : (a0_0 != 1) = true := bne_iff_ne.mpr c6
    by_cases c16 : a0_0 = 2
    ·rw [if_pos c16] at H
     have c16b0 : (a0_0 == 2) = true := beq_iff_eq.mpr c16
     have c16b1 : (a0_0 != 2) = false := bne_eq_false_iff_eq.mpr c16
     clear c16
     by_cases c17 : a0_0 = 3
     ·rw [if_pos c17] at H
      have c17b0 : (a0_0 == 3) = true := beq_iff_eq.mpr c17
      have c17b1 : (a0_0 != 3) = false := bne_eq_false_iff_eq.mpr c17
      clear c17
      by_cases c18 : a0_0 < 4
      ·rw [if_pos c18] at H
       have c18b0 : decide (a0_0 < 4) = true := decide_eq_true c18
       clear c18
       have H' := Aside0.mk H
       clear H
       have hcz19_0 : w3.cell? ⟨gb517, 0, none⟩ = some (.int .i64 a0_0) := (blk_cell BK517.out 0).trans rfl
       have hcz19_1 : w3.cell? ⟨gb517, 1, none⟩ = some (.int .i64 a0_1) := (blk_cell BK517.out 1).trans rfl
       have hcz19_2 : w3.cell? ⟨gb517, 2, none⟩ = some (.string a0_2) := (blk_cell BK517.out 2).trans rfl
       have hcz19_3 : w3.cell? ⟨gb517, 3, none⟩ = some (.int .i64 a0_3) := (blk_cell BK517.out 3).trans rfl
       have hfz19_0 := blk_frozen BK517.out 0
       have hfz19_1 := blk_frozen BK517.out 1
       have hfz19_2 := blk_frozen BK517.out 2
       have hfz19_3 := blk_frozen BK517.out 3
       go_wp2
       go_meet
       case rel => exact ⟨_, ((a0_3 != 0)), (by first | rfl | (simp; done) | (simp [*]; done)), H', ⟨by first | omega | exact Nat.le_refl _⟩, ⟨by (with_reducible repeat (first | refine blk_drewN ?_ _ | refine blk_drew ?_ | refine blk_alloc ?_ _)); exact BK517.out⟩, ⟨by repeat (first | (with_reducible first | exact HB.out | apply below_alloc | apply pw_below_drewN | apply below_drew1 | refine below_set ?_ GE517.out) | exact HB.out)⟩⟩
      ·rw [if_neg c18] at H
       have c18b0 : decide (a0_0 < 4) = false := decide_eq_false c18
       clear c18
       have H' := Aside0.mk H
       clear H
       have hcz20_0 : w3.cell? ⟨gb517, 0, none⟩ = some (.int .i64 a0_0) := (blk_cell BK517.out 0).trans rfl
       have hcz20_1 : w3.cell? ⟨gb517, 1, none⟩ = some (.int .i64 a0_1) := (blk_cell BK517.out 1).trans rfl
       have hcz20_2 : w3.cell? ⟨gb517, 2, none⟩ = some (.string a0_2) := (blk_cell BK517.out 2).trans rfl
       have hcz20_3 : w3.cell? ⟨gb517, 3, none⟩ = some (.int .i64 a0_3) := (blk_cell BK517.out 3).trans rfl
       have hfz20_0 := blk_frozen BK517.out 0
       have hfz20_1 := blk_frozen BK517.out 1
       have hfz20_2 := blk_frozen BK517.out 2
       have hfz20_3 := blk_frozen BK517.out 3
       go_wp2
       go_meet
       case rel => exact ⟨_, (false), (by first | rfl | (simp; done) | (simp [*]; done)), H', ⟨by first | omega | exact Nat.le_refl _⟩, ⟨by (with_reducible repeat (first | refine blk_drewN ?_ _ | refine blk_drew ?_ | refine blk_alloc ?_ _)); exact BK517.out⟩, ⟨by repeat (first | (with_reducible first | exact HB.out | apply below_alloc | apply pw_below_drewN | apply below_drew1 | refine below_set ?_ GE517.out) | exact HB.out)⟩⟩
     ·rw [if_neg c17] at H
      have c17b0 : (a0_0 == 3) = false := beq_eq_false_iff_ne.mpr c17
      have c17b1 : (a0_0 != 3) = true := bne_iff_ne.mpr c17
      by_cases c21 : a0_2.toList = ([] : List UInt8)
      ·rw [if_pos c21] at H
       have c21b0 : (a0_2.toList == ([] : List UInt8)) = true := beq_iff_eq.mpr c21
       have c21b1 : (a0_2.toList != ([] : List UInt8)) = false := bne_eq_false_iff_eq.mpr c21
       clear c21
       by_cases c22 : a0_0 < 4
       ·rw [if_pos c22] at H
        have c22b0 : decide (a0_0 < 4) = true := decide_eq_true c22
        clear c22
        have H' := Aside0.mk H
        clear H
        have hcz23_0 : w3.cell? ⟨gb517, 0, none⟩ = some (.int .i64 a0_0) := (blk_cell BK517.out 0).trans rfl
        have hcz23_1 : w3.cell? ⟨gb517, 1, none⟩ = some (.int .i64 a0_1) := (blk_cell BK517.out 1).trans rfl
        have hcz23_2 : w3.cell? ⟨gb517, 2, none⟩ = some (.string a0_2) := (blk_cell BK517.out 2).trans rfl
        have hcz23_3 : w3.cell? ⟨gb517, 3, none⟩ = some (.int .i64 a0_3) := (blk_cell BK517.out 3).trans rfl
        have hfz23_0 := blk_frozen BK517.out 0
        have hfz23_1 := blk_frozen BK517.out 1
        have hfz23_2 := blk_frozen BK517.out 2
        have hfz23_3 := blk_frozen BK517.out 3
        go_wp2
        go_meet
        case rel => exact ⟨_, ((a0_3 != 0)), (by first | rfl | (simp; done) | (simp [*]; done)), H', ⟨by first | omega | exact Nat.le_refl _⟩, ⟨by (with_reducible repeat (first | refine blk_drewN ?_ _ | refine blk_drew ?_ | refine blk_alloc ?_ _)); exact BK517.out⟩, ⟨by repeat (first | (with_reducible first | exact HB.out | apply below_alloc | apply pw_below_drewN | apply below_drew1 | refine below_set ?_ GE517.out) | exact HB.out)⟩⟩
       ·rw [if_neg c22] at H
        have c22b0 : decide (a0_0 < 4) = false := decide_eq_false c22
        clear c22
        have H' := Aside0.mk H
        clear H
        have hcz24_0 : w3.cell? ⟨gb517, 0, none⟩ = some (.int .i64 a0_0) := (blk_cell BK517.out 0).trans rfl
        have hcz24_1 : w3.cell? ⟨gb517, 1, none⟩ = some (.int .i64 a0_1) := (blk_cell BK517.out 1).trans rfl
        have hcz24_2 : w3.cell? ⟨gb517, 2, none⟩ = some (.string a0_2) := (blk_cell BK517.out 2).trans rfl
        have hcz24_3 : w3.cell? ⟨gb517, 3, none⟩ = some (.int .i64 a0_3) := (blk_cell BK517.out 3).trans rfl
        have hfz24_0 := blk_frozen BK517.out 0
        have hfz24_1 := blk_frozen BK517.out 1
        have hfz24_2 := blk_frozen BK517.out 2
        have hfz24_3 := blk_frozen BK517.out 3
        go_wp2
        go_meet
        case rel => exact ⟨_, (false), (by first | rfl | (simp; done) | (simp [*]; done)), H', ⟨by first | omega | exact Nat.le_refl _⟩, ⟨by (with_reducible repeat (first | refine blk_drewN ?_ _ | refine blk_drew ?_ | refine blk_alloc ?_ _)); exact BK517.out⟩, ⟨by repeat (first | (with_reducible first | exact HB.out | apply below_alloc | apply pw_below_drewN | apply below_drew1 | refine below_set ?_ GE517.out) | exact HB.out)⟩⟩
      ·rw [if_neg c21] at H
       have c21b0 : (a0_2.toList == ([] : List UInt8)) = false := beq_eq_false_iff_ne.mpr c21
       have c21b1 : (a0_2.toList != ([] : List UInt8)) = true := bne_iff_ne.mpr c21
       have H' := Aside0.mk H
       clear H
       have hcz25_0 : w3.cell? ⟨gb517, 0, none⟩ = some (.int .i64 a0_0) := (blk_cell BK517.out 0).trans rfl
       have hcz25_1 : w3.cell? ⟨gb517, 1, none⟩ = some (.int .i64 a0_1) := (blk_cell BK517.out 1).trans rfl
       have hcz25_2 : w3.cell? ⟨gb517, 2, none⟩ = some (.string a0_2) := (blk_cell BK517.out 2).trans rfl
       have hcz25_3 : w3.cell? ⟨gb517, 3, none⟩ = some (.int .i64 a0_3) := (blk_cell BK517.out 3).trans rfl
       have hfz25_0 := blk_frozen BK517.out 0
       have hfz25_1 := blk_frozen BK517.out 1
       have hfz25_2 := blk_frozen BK517.out 2
       have hfz25_3 := blk_frozen BK517.out 3
       go_wp2
       go_meet
       case rel => exact ⟨_, (true), (by first | rfl | (simp; done) | (simp [*]; done)), H', ⟨by first | omega | exact Nat.le_refl _⟩, ⟨by (with_reducible repeat (first | refine blk_drewN ?_ _ | refine blk_drew ?_ | refine blk_alloc ?_ _)); exact BK517.out⟩, ⟨by repeat (first | (with_reducible first | exact HB.out | apply below_alloc | apply pw_below_drewN | apply below_drew1 | refine below_set ?_ GE517.out) | exact HB.out)⟩⟩
    ·rw [if_neg c16] at H
     have c16b0 : (a0_0 == 2) = false := beq_eq_false_iff_ne.mpr c16
     have c16b1 : (a0_0 != 2) = true := bne_iff_ne.mpr c16
     by_cases c26 : a0_1 = 0
     ·rw [if_pos c26] at H
      have c26b0 : (a0_1 == 0) = true := beq_iff_eq.mpr c26
      have c26b1 : (a0_1 != 0) = false := bne_eq_false_iff_eq.mpr c26
      clear c26
      by_cases c27 : a0_0 = 3
      ·rw [if_pos c27] at H
       have c27b0 : (a0_0 == 3) = true := beq_iff_eq.mpr c27
       have c27b1 : (a0_0 != 3) = false := bne_eq_false_iff_eq.mpr c27
       clear c27
       by_cases c28 : a0_0 < 4
       ·rw [if_pos c28] at H
        have c28b0 : decide (a0_0 < 4) = true := decide_eq_true c28
        clear c28
        have H' := Aside0.mk H
        clear H
        have hcz29_0 : w3.cell? ⟨gb517, 0, none⟩ = some (.int .i64 a0_0) := (blk_cell BK517.out 0).trans rfl
        have hcz29_1 : w3.cell? ⟨gb517, 1, none⟩ = some (.int .i64 a0_1) := (blk_cell BK517.out 1).trans rfl
        have hcz29_2 : w3.cell? ⟨gb517, 2, none⟩ = some (.string a0_2) := (blk_cell BK517.out 2).trans rfl
        have hcz29_3 : w3.cell? ⟨gb517, 3, none⟩ = some (.int .i64 a0_3) := (blk_cell BK517.out 3).trans rfl
        have hfz29_0 := blk_frozen BK517.out 0
        have hfz29_1 := blk_frozen BK517.out 1
        have hfz29_2 := blk_frozen BK517.out 2
        have hfz29_3 := blk_frozen BK517.out 3
        go_wp2
        go_meet
        case rel => exact ⟨_, ((a0_3 != 0)), (by first | rfl | (simp; done) | (simp [*]; done)), H', ⟨by first | omega | exact Nat.le_refl _⟩, ⟨by (with_reducible repeat (first | refine blk_drewN ?_ _ | refine blk_drew ?_ | refine blk_alloc ?_ _)); exact BK517.out⟩, ⟨by repeat (first | (with_reducible first | exact HB.out | apply below_alloc | apply pw_below_drewN | apply below_drew1 | refine below_set ?_ GE517.out) | exact HB.out)⟩⟩
       ·rw [if_neg c28] at H
        have c28b0 : decide (a0_0 < 4) = false := decide_eq_false c28
        clear c28
        have H' := Aside0.mk H
        clear H
        have hcz30_0 : w3.cell? ⟨gb517, 0, none⟩ = some (.int .i64 a0_0) := (blk_cell BK517.out 0).trans rfl
        have hcz30_1 : w3.cell? ⟨gb517, 1, none⟩ = some (.int .i64 a0_1) := (blk_cell BK517.out 1).trans rfl
        have hcz30_2 : w3.cell? ⟨gb517, 2, none⟩ = some (.string a0_2) := (blk_cell BK517.out 2).trans rfl
        have hcz30_3 : w3.cell? ⟨gb517, 3, none⟩ = some (.int .i64 a0_3) := (blk_cell BK517.out 3).trans rfl
        have hfz30_0 := blk_frozen BK517.out 0
        have hfz30_1 := blk_frozen BK517.out 1
        have hfz30_2 := blk_frozen BK517.out 2
        have hfz30_3 := blk_frozen BK517.out 3
        go_wp2
        go_meet
        case rel => exact ⟨_, (false), (by first | rfl | (simp; done) | (simp [*]; done)), H', ⟨by first | omega | exact Nat.le_refl _⟩, ⟨by (with_reducible repeat (first | refine blk_drewN ?_ _ | refine blk_drew ?_ | refine blk_alloc ?_ _)); exact BK517.out⟩, ⟨by repeat (first | (with_reducible first | exact HB.out | apply below_alloc | apply pw_below_drewN | apply below_drew1 | refine below_set ?_ GE517.out) | exact HB.out)⟩⟩
      ·rw [if_neg c27] at H
       have c27b0 : (a0_0 == 3) = false := beq_eq_false_iff_ne.mpr c27
       have c27b1 : (a0_0 != 3) = true := bne_iff_ne.mpr c27
       by_cases c31 : a0_2.toList = ([] : List UInt8)
       ·rw [if_pos c31] at H
        have c31b0 : (a0_2.toList == ([] : List UInt8)) = true := beq_iff_eq.mpr c31
        have c31b1 : (a0_2.toList != ([] : List UInt8)) = false := bne_eq_false_iff_eq.mpr c31
        clear c31
        by_cases c32 : a0_0 < 4
        ·rw [if_pos c32] at H
         have c32b0 : decide (a0_0 < 4) = true := decide_eq_true c32
         clear c32
         have H' := Aside0.mk H
         clear H
         have hcz33_0 : w3.cell? ⟨gb517, 0, none⟩ = some (.int .i64 a0_0) := (blk_cell BK517.out 0).trans rfl
         have hcz33_1 : w3.cell? ⟨gb517, 1, none⟩ = some (.int .i64 a0_1) := (blk_cell BK517.out 1).trans rfl
         have hcz33_2 : w3.cell? ⟨gb517, 2, none⟩ = some (.string a0_2) := (blk_cell BK517.out 2).trans rfl
         have hcz33_3 : w3.cell? ⟨gb517, 3, none⟩ = some (.int .i64 a0_3) := (blk_cell BK517.out 3).trans rfl
         have hfz33_0 := blk_frozen BK517.out 0
         have hfz33_1 := blk_frozen BK517.out 1
         have hfz33_2 := blk_frozen BK517.out 2
         have hfz33_3 := blk_frozen BK517.out 3
         go_wp2
         go_meet
         case rel => exact ⟨_, ((a0_3 != 0)), (by first | rfl | (simp; done) | (simp [*]; done)), H', ⟨by first | omega | exact Nat.le_refl _⟩, ⟨by (with_reducible repeat (first | refine blk_drewN ?_ _ | refine blk_drew ?_ | refine blk_alloc ?_ _)); exact BK517.out⟩, ⟨by repeat (first | (with_reducible first | exact HB.out | apply below_alloc | apply pw_below_drewN | apply below_drew1 | refine below_set ?_ GE517.out) | exact HB.out)⟩⟩
        ·rw [if_neg c32] at H
         have c32b0 : decide (a0_0 < 4) = false := decide_eq_false c32
         clear c32
         have H' := Aside0.mk H
         clear H
         have hcz34_0 : w3.cell? ⟨gb517, 0, none⟩ = some (.int .i64 a0_0) := (blk_cell BK517.out 0).trans rfl
         have hcz34_1 : w3.cell? ⟨gb517, 1, none⟩ = some (.int .i64 a0_1) := (blk_cell BK517.out 1).trans rfl
         have hcz34_2 : w3.cell? ⟨gb517, 2, none⟩ = some (.string a0_2) := (blk_cell BK517.out 2).trans rfl
         have hcz34_3 : w3.cell? ⟨gb517, 3, none⟩ = some (.int .i64 a0_3) := (blk_cell BK517.out 3).trans rfl
         have hfz34_0 := blk_frozen BK517.out 0
         have hfz34_1 := blk_frozen BK517.out 1
         have hfz34_2 := blk_frozen BK517.out 2
         have hfz34_3 := blk_frozen BK517.out 3
         go_wp2
         go_meet
         case rel => exact ⟨_, (false), (by first | rfl | (simp; done) | (simp [*]; done)), H', ⟨by first | omega | exact Nat.le_refl _⟩, ⟨by (with_reducible repeat (first | refine blk_drewN ?_ _ | refine blk_drew ?_ | refine blk_alloc ?_ _)); exact BK517.out⟩, ⟨by repeat (first | (with_reducible first | exact HB.out | apply below_alloc | apply pw_below_drewN | apply below_drew1 | refine below_set ?_ GE517.out) | exact HB.out)⟩⟩
       ·rw [if_neg c31] at H
        have c31b0 : (a0_2.toList == ([] : List UInt8)) = false := beq_eq_false_iff_ne.mpr c31
        have c31b1 : (a0_2.toList != ([] : List UInt8)) = true := bne_iff_ne.mpr c31
        have H' := Aside0.mk H
        clear H
        have hcz35_0 : w3.cell? ⟨gb517, 0, none⟩ = some (.int .i64 a0_0) := (blk_cell BK517.out 0).trans rfl
        have hcz35_1 : w3.cell? ⟨gb517, 1, none⟩ = some (.int .i64 a0_1) := (blk_cell BK517.out 1).trans rfl
        have hcz35_2 : w3.cell? ⟨gb517, 2, none⟩ = some (.string a0_2) := (blk_cell BK517.out 2).trans rfl
        have hcz35_3 : w3.cell? ⟨gb517, 3, none⟩ = some (.int .i64 a0_3) := (blk_cell BK517.out 3).trans rfl
        have hfz35_0 := blk_frozen BK517.out 0
        have hfz35_1 := blk_frozen BK517.out 1
        have hfz35_2 := blk_frozen BK517.out 2
        have hfz35_3 := blk_frozen BK517.out 3
        go_wp2
        go_meet
        case rel => exact ⟨_, (true), (by first | rfl | (simp; done) | (simp [*]; done)), H', ⟨by first | omega | exact Nat.le_refl _⟩, ⟨by (with_reducible repeat (first | refine blk_drewN ?_ _ | refine blk_drew ?_ | refine blk_alloc ?_ _)); exact BK517.out⟩, ⟨by repeat (first | (with_reducible first | exact HB.out | apply below_alloc | apply pw_below_drewN | apply below_drew1 | refine below_set ?_ GE517.out) | exact HB.out)⟩⟩
     ·rw [if_neg c26] at H
      have c26b0 : (a0_1 == 0) = false := beq_eq_false_iff_ne.mpr c26
      have c26b1 : (a0_1 != 0) = true := bne_iff_ne.mpr c26
      have H' := Aside0.mk H
      clear H
      have hcz36_0 : w3.cell? ⟨gb517, 0, none⟩ = some (.int .i64 a0_0) := (blk_cell BK517.out 0).trans rfl
      have hcz36_1 : w3.cell? ⟨gb517, 1, none⟩ = some (.int .i64 a0_1) := (blk_cell BK517.out 1).trans rfl
      have hcz36_2 : w3.cell? ⟨gb517, 2, none⟩ = some (.string a0_2) := (blk_cell BK517.out 2).trans rfl
      have hcz36_3 : w3.cell? ⟨gb517, 3, none⟩ = some (.int .i64 a0_3) := (blk_cell BK517.out 3).trans rfl
      have hfz36_0 := blk_frozen BK517.out 0
      have hfz36_1 := blk_frozen BK517.out 1
      have hfz36_2 := blk_frozen BK517.out 2
      have hfz36_3 := blk_frozen BK517.out 3
      go_wp2
      go_meet
      case rel => exact ⟨_, (true), (by first | rfl | (simp; done) | (simp [*]; done)), H', ⟨by first | omega | exact Nat.le_refl _⟩, ⟨by (with_reducible repeat (first | refine blk_drewN ?_ _ | refine blk_drew ?_ | refine blk_alloc ?_ _)); exact BK517.out⟩, ⟨by repeat (first | (with_reducible first | exact HB.out | apply below_alloc | apply pw_below_drewN | apply below_drew1 | refine below_set ?_ GE517.out) | exact HB.out)⟩⟩
 case rest =>
  clear HC2
  try clear c1
  try clear c2
  try clear p2
  try clear c3
  try clear c4
  try clear c4b0
  try clear c5
  try clear c6
  try clear c6b0
  try clear c6b1
  try clear c7
  try clear c7b0
  try clear c7b1
  try clear c8
  try clear c8b0
  try clear c11
  try clear c11b0
  try clear c11b1
  try clear c12
  try clear c12b0
  try clear c16
  try clear c16b0
  try clear c16b1
  try clear c17
  try clear c17b0
  try clear c17b1
  try clear c18
  try clear c18b0
  try clear c21
  try clear c21b0
  try clear c21b1
  try clear c22
  try clear c22b0
  try clear c26
  try clear c26b0
  try clear c26b1
  try clear c27
  try clear c27b0
  try clear c27b1
  try clear c28
  try clear c28b0
  try clear c31
  try clear c31b0
  try clear c31b1
  try clear c32
  try clear c32b0
  try clear hcz10_0
  try clear hcz10_1
  try clear hcz10_2
  try clear hcz10_3
  try clear hcz13_0
  try clear hcz13_1
  try clear hcz13_2
  try clear hcz13_3
  try clear hcz14_0
  try clear hcz14_1
  try clear hcz14_2
  try clear hcz14_3
  try clear hcz15_0
  try clear hcz15_1
  try clear hcz15_2
  try clear hcz15_3
  try clear hcz19_0
  try clear hcz19_1
  try clear hcz19_2
  try clear hcz19_3
  try clear hcz20_0
  try clear hcz20_1
  try clear hcz20_2
  try clear hcz20_3
  try clear hcz23_0
  try clear hcz23_1
  try clear hcz23_2
  try clear hcz23_3
  try clear hcz24_0
  try clear hcz24_1
  try clear hcz24_2
  try clear hcz24_3
  try clear hcz25_0
  try clear hcz25_1
  try clear hcz25_2
  try clear hcz25_3
  try clear hcz29_0
  try clear hcz29_1
  try clear hcz29_2
  try clear hcz29_3
  try clear hcz30_0
  try clear hcz30_1
  try clear hcz30_2
  try clear hcz30_3
  try clear hcz33_0
  try clear hcz33_1
  try clear hcz33_2
  try clear hcz33_3
  try clear hcz34_0
  try clear hcz34_1
  try clear hcz34_2
  try clear hcz34_3
  try clear hcz35_0
  try clear hcz35_1
  try clear hcz35_2
  try clear hcz35_3
  try clear hcz36_0
  try clear hcz36_1
  try clear hcz36_2
  try clear hcz36_3
  try clear hcz5_0
  try clear hcz5_1
  try clear hcz5_2
  try clear hcz5_3
  try clear hcz9_0
  try clear hcz9_1
  try clear hcz9_2
  try clear hcz9_3
  try clear hfz10_0
  try clear hfz10_1
  try clear hfz10_2
  try clear hfz10_3
  try clear hfz13_0
  try clear hfz13_1
  try clear hfz13_2
  try clear hfz13_3
  try clear hfz14_0
  try clear hfz14_1
  try clear hfz14_2
  try clear hfz14_3
  try clear hfz15_0
  try clear hfz15_1
  try clear hfz15_2
  try clear hfz15_3
  try clear hfz19_0
  try clear hfz19_1
  try clear hfz19_2
  try clear hfz19_3
  try clear hfz20_0
  try clear hfz20_1
  try clear hfz20_2
  try clear hfz20_3
  try clear hfz23_0
  try clear hfz23_1
  try clear hfz23_2
  try clear hfz23_3
  try clear hfz24_0
  try clear hfz24_1
  try clear hfz24_2
  try clear hfz24_3
  try clear hfz25_0
  try clear hfz25_1
  try clear hfz25_2
  try clear hfz25_3
  try clear hfz29_0
  try clear hfz29_1
  try clear hfz29_2
  try clear hfz29_3
  try clear hfz30_0
  try clear hfz30_1
  try clear hfz30_2
  try clear hfz30_3
  try clear hfz33_0
  try clear hfz33_1
  try clear hfz33_2
  try clear hfz33_3
  try clear hfz34_0
  try clear hfz34_1
  try clear hfz34_2
  try clear hfz34_3
  try clear hfz35_0
  try clear hfz35_1
  try clear hfz35_2
  try clear hfz35_3
  try clear hfz36_0
  try clear hfz36_1
  try clear hfz36_2
  try clear hfz36_3
  try clear hfz5_0
  try clear hfz5_1
  try clear hfz5_2
  try clear hfz5_3
  try clear hfz9_0
  try clear hfz9_1
  try clear hfz9_2
  try clear hfz9_3
  obtain ⟨kq, x40_1, rfl, HA, HJ1, BK517, HB⟩ := hcut
  cases kq with
  | zero => exact absurd HA.out (by simp [impl_validAtom.j0])
  | succ kj1 =>
   have H := HA.out
   clear HA
   simp only [impl_validAtom.j0] at H
   by_cases c37 : x40_1 = true
   ·subst c37
    have H1 : (some false) = some r := by rw [if_pos rfl] at H; exact H
    clear H
    have H := H1
    clear H1
    obtain rfl := Option.some.inj H
    go_wp2
    go_ret
    exact ⟨by first | rfl | (simp [errW_none, errW_some] <;> rfl) | (simp [*, errW_none, errW_some] <;> rfl), by repeat (first | (with_reducible first | exact HB.out | apply below_alloc | apply pw_below_drewN | apply below_drew1 | refine below_set ?_ GE517.out) | exact HB.out)⟩
   ·replace c37 := Bool.eq_false_iff.mpr c37
    subst c37
    have H1 : (if a0_0 = 1 then (if a0_1 = 0 then (some true) else (some (a0_1 == 1))) else (if a0_0 = 2 then (some true) else (if a0_0 = 3 then (some (decide ((a0_2.size : Int) ≤ 1500))) else (if a0_0 = 4 then (some true) else (if a0_0 = 5 then (some ((Int.tmod a0_3 2) == 0)) else (some false)))))) = some r := by rw [if_neg (show ¬ (false = true) by decide)] at H; exact H
    clear H
    have H := H1
    clear H1
    by_cases c38 : a0_0 = 1
    ·rw [if_pos c38] at H
     have c38b0 : (a0_0 == 1) = true := beq_iff_eq.mpr c38
     have c38b1 : (a0_0 != 1) = false := bne_eq_false_iff_eq.mpr c38
     clear c38
     by_cases c39 : a0_1 = 0
     ·rw [if_pos c39] at H
      have c39b0 : (a0_1 == 0) = true := beq_iff_eq.mpr c39
      have c39b1 : (a0_1 != 0) = false := bne_eq_false_iff_eq.mpr c39
      clear c39
      obtain rfl := Option.some.inj H
      have hcz40_0 : wc.cell? ⟨gb517, 0, none⟩ = some (.int .i64 a0_0) := (blk_cell BK517.out 0).trans rfl
      have hcz40_1 : wc.cell? ⟨gb517, 1, none⟩ = some (.int .i64 a0_1) := (blk_cell BK517.out 1).trans rfl
      have hcz40_2 : wc.cell? ⟨gb517, 2, none⟩ = some (.string a0_2) := (blk_cell BK517.out 2).trans rfl
      have hcz40_3 : wc.cell? ⟨gb517, 3, none⟩ = some (.int .i64 a0_3) := (blk_cell BK517.out 3).trans rfl
      have hfz40_0 := blk_frozen BK517.out 0
      have hfz40_1 := blk_frozen BK517.out 1
      have hfz40_2 := blk_frozen BK517.out 2
      have hfz40_3 := blk_frozen BK517.out 3
      go_wp2
      go_ret
      exact ⟨by first | rfl | (simp [errW_none, errW_some] <;> rfl) | (simp [*, errW_none, errW_some] <;> rfl), by repeat (first | (with_reducible first | exact HB.out | apply below_alloc | apply pw_below_drewN | apply below_drew1 | refine below_set ?_ GE517.out) | exact HB.out)⟩
     ·rw [if_neg c39] at H
      have c39b0 : (a0_1 == 0) = false := beq_eq_false_iff_ne.mpr c39
      have c39b1 : (a0_1 != 0) = true := bne_iff_ne.mpr c39
      obtain rfl := Option.some.inj H
      have hcz41_0 : wc.cell? ⟨gb517, 0, none⟩ = some (.int .i64 a0_0) := (blk_cell BK517.out 0).trans rfl
      have hcz41_1 : wc.cell? ⟨gb517, 1, none⟩ = some (.int .i64 a0_1) := (blk_cell BK517.out 1).trans rfl
      have hcz41_2 : wc.cell? ⟨gb517, 2, none⟩ = some (.string a0_2) := (blk_cell BK517.out 2).trans rfl
      have hcz41_3 : wc.cell? ⟨gb517, 3, none⟩ = some (.int .i64 a0_3) := (blk_cell BK517.out 3).trans rfl
      have hfz41_0 := blk_frozen BK517.out 0
      have hfz41_1 := blk_frozen BK517.out 1
      have hfz41_2 := blk_frozen BK517.out 2
      have hfz41_3 := blk_frozen BK517.out 3
      go_wp2
      go_ret
      exact ⟨by first | rfl | (simp [errW_none, errW_some] <;> rfl) | (simp [*, errW_none, errW_some] <;> rfl), by repeat (first | (with_reducible first | exact HB.out | apply below_alloc | apply pw_below_drewN | apply below_drew1 | refine below_set ?_ GE517.out) | exact HB.out)⟩
    ·rw [if_neg c38] at H
     have c38b0 : (a0_0 == 1) = false := beq_eq_false_iff_ne.mpr c38
     have c38b1 : (a0_0 != 1) = true := bne_iff_ne.mpr c38
     by_cases c42 : a0_0 = 2
     ·rw [if_pos c42] at H
      have c42b0 : (a0_0 == 2) = true := beq_iff_eq.mpr c42
      have c42b1 : (a0_0 != 2) = false := bne_eq_false_iff_eq.mpr c42
      clear c42
      obtain rfl := Option.some.inj H
      have hcz43_0 : wc.cell? ⟨gb517, 0, none⟩ = some (.int .i64 a0_0) := (blk_cell BK517.out 0).trans rfl
      have hcz43_1 : wc.cell? ⟨gb517, 1, none⟩ = some (.int .i64 a0_1) := (blk_cell BK517.out 1).trans rfl
      have hcz43_2 : wc.cell? ⟨gb517, 2, none⟩ = some (.string a0_2) := (blk_cell BK517.out 2).trans rfl
      have hcz43_3 : wc.cell? ⟨gb517, 3, none⟩ = some (.int .i64 a0_3) := (blk_cell BK517.out 3).trans rfl
      have hfz43_0 := blk_frozen BK517.out 0
      have hfz43_1 := blk_frozen BK517.out 1
      have hfz43_2 := blk_frozen BK517.out 2
      have hfz43_3 := blk_frozen BK517.out 3
      go_wp2
      go_ret
      exact ⟨by first | rfl | (simp [errW_none, errW_some] <;> rfl) | (simp [*, errW_none, errW_some] <;> rfl), by repeat (first | (with_reducible first | exact HB.out | apply below_alloc | apply pw_below_drewN | apply below_drew1 | refine below_set ?_ GE517.out) | exact HB.out)⟩
     ·rw [if_neg c42] at H
      have c42b0 : (a0_0 == 2) = false := beq_eq_false_iff_ne.mpr c42
      have c42b1 : (a0_0 != 2) = true := bne_iff_ne.mpr c42
      by_cases c44 : a0_0 = 3
      ·rw [if_pos c44] at H
       have c44b0 : (a0_0 == 3) = true := beq_iff_eq.mpr c44
       have c44b1 : (a0_0 != 3) = false := bne_eq_false_iff_eq.mpr c44
       clear c44
       obtain rfl := Option.some.inj H
       have hcz45_0 : wc.cell? ⟨gb517, 0, none⟩ = some (.int .i64 a0_0) := (blk_cell BK517.out 0).trans rfl
       have hcz45_1 : wc.cell? ⟨gb517, 1, none⟩ = some (.int .i64 a0_1) := (blk_cell BK517.out 1).trans rfl
       have hcz45_2 : wc.cell? ⟨gb517, 2, none⟩ = some (.string a0_2) := (blk_cell BK517.out 2).trans rfl
       have hcz45_3 : wc.cell? ⟨gb517, 3, none⟩ = some (.int .i64 a0_3) := (blk_cell BK517.out 3).trans rfl
       have hfz45_0 := blk_frozen BK517.out 0
       have hfz45_1 := blk_frozen BK517.out 1
       have hfz45_2 := blk_frozen BK517.out 2
       have hfz45_3 := blk_frozen BK517.out 3
       go_wp2
       go_ret
       exact ⟨by first | rfl | (simp [errW_none, errW_some] <;> rfl) | (simp [*, errW_none, errW_some] <;> rfl), by repeat (first | (with_reducible first | exact HB.out | apply below_alloc | apply pw_below_drewN | apply below_drew1 | refine below_set ?_ GE517.out) | exact HB.out)⟩
      ·rw [if_neg c44] at H
       have c44b0 : (a0_0 == 3) = false := beq_eq_false_iff_ne.mpr c44
       have c44b1 : (a0_0 != 3) = true := bne_iff_ne.mpr c44
       by_cases c46 : a0_0 = 4
       ·rw [if_pos c46] at H
        have c46b0 : (a0_0 == 4) = true := beq_iff_eq.mpr c46
        have c46b1 : (a0_0 != 4) = false := bne_eq_false_iff_eq.mpr c46
        clear c46
        obtain rfl := Option.some.inj H
        have hcz47_0 : wc.cell? ⟨gb517, 0, none⟩ = some (.int .i64 a0_0) := (blk_cell BK517.out 0).trans rfl
        have hcz47_1 : wc.cell? ⟨gb517, 1, none⟩ = some (.int .i64 a0_1) := (blk_cell BK517.out 1).trans rfl
        have hcz47_2 : wc.cell? ⟨gb517, 2, none⟩ = some (.string a0_2) := (blk_cell BK517.out 2).trans rfl
        have hcz47_3 : wc.cell? ⟨gb517, 3, none⟩ = some (.int .i64 a0_3) := (blk_cell BK517.out 3).trans rfl
        have hfz47_0 := blk_frozen BK517.out 0
        have hfz47_1 := blk_frozen BK517.out 1
        have hfz47_2 := blk_frozen BK517.out 2
        have hfz47_3 := blk_frozen BK517.out 3
        go_wp2
        go_ret
        exact ⟨by first | rfl | (simp [errW_none, errW_some] <;> rfl) | (simp [*, errW_none, errW_some] <;> rfl), by repeat (first | (with_reducible first | exact HB.out | apply below_alloc | apply pw_below_drewN | apply below_drew1 | refine below_set ?_ GE517.out) | exact HB.out)⟩
       ·rw [if_neg c46] at H
        have c46b0 : (a0_0 == 4) = false := beq_eq_false_iff_ne.mpr c46
        have c46b1 : (a0_0 != 4) = true := bne_iff_ne.mpr c46
        by_cases c48 : a0_0 = 5
        ·rw [if_pos c48] at H
         have c48b0 : (a0_0 == 5) = true := beq_iff_eq.mpr c48
         have c48b1 : (a0_0 != 5) = false := bne_eq_false_iff_eq.mpr c48
         clear c48
         obtain rfl := Option.some.inj H
         have hcz49_0 : wc.cell? ⟨gb517, 0, none⟩ = some (.int .i64 a0_0) := (blk_cell BK517.out 0).trans rfl
         have hcz49_1 : wc.cell? ⟨gb517, 1, none⟩ = some (.int .i64 a0_1) := (blk_cell BK517.out 1).trans rfl
         have hcz49_2 : wc.cell? ⟨gb517, 2, none⟩ = some (.string a0_2) := (blk_cell BK517.out 2).trans rfl
         have hcz49_3 : wc.cell? ⟨gb517, 3, none⟩ = some (.int .i64 a0_3) := (blk_cell BK517.out 3).trans rfl
         have hfz49_0 := blk_frozen BK517.out 0
         have hfz49_1 := blk_frozen BK517.out 1
         have hfz49_2 := blk_frozen BK517.out 2
         have hfz49_3 := blk_frozen BK517.out 3
         go_wp2
         go_ret
         exact ⟨by first | rfl | (simp [errW_none, errW_some] <;> rfl) | (simp [*, errW_none, errW_some] <;> rfl), by repeat (first | (with_reducible first | exact HB.out | apply below_alloc | apply pw_below_drewN | apply below_drew1 | refine below_set ?_ GE517.out) | exact HB.out)⟩
        ·rw [if_neg c48] at H
         have c48b0 : (a0_0 == 5) = false := beq_eq_false_iff_ne.mpr c48
         have c48b1 : (a0_0 != 5) = true := bne_iff_ne.mpr c48
         obtain rfl := Option.some.inj H
         have hcz50_0 : wc.cell? ⟨gb517, 0, none⟩ = some (.int .i64 a0_0) := (blk_cell BK517.out 0).trans rfl
         have hcz50_1 : wc.cell? ⟨gb517, 1, none⟩ = some (.int .i64 a0_1) := (blk_cell BK517.out 1).trans rfl
         have hcz50_2 : wc.cell? ⟨gb517, 2, none⟩ = some (.string a0_2) := (blk_cell BK517.out 2).trans rfl
         have hcz50_3 : wc.cell? ⟨gb517, 3, none⟩ = some (.int .i64 a0_3) := (blk_cell BK517.out 3).trans rfl
         have hfz50_0 := blk_frozen BK517.out 0
         have hfz50_1 := blk_frozen BK517.out 1
         have hfz50_2 := blk_frozen BK517.out 2
         have hfz50_3 := blk_frozen BK517.out 3
         go_wp2
         go_ret
         exact ⟨by first | rfl | (simp [errW_none, errW_some] <;> rfl) | (simp [*, errW_none, errW_some] <;> rfl), by repeat (first | (with_reducible first | exact HB.out | apply below_alloc | apply pw_below_drewN | apply below_drew1 | refine below_set ?_ GE517.out) | exact HB.out)⟩

end Go.Proofs.Ytgaibeckblmbbaa.P
