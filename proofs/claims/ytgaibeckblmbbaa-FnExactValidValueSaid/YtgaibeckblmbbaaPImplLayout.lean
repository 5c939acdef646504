-- Printed for this claim by a small program of this session (kprint.py), which drives the kit's print program.
import Derived.Test.YtgaibeckblmbbaaP0
import Derived.Test.YtgaibeckblmbbaaPImplValidAtom
import Derived.Test.YtgaibeckblmbbaaPSlicesReverseIntInt
namespace Go.Proofs.Ytgaibeckblmbbaa.P
open Go.RowKit Go.Proofs.YtgaibeckblmbbaaW.PrintWords Go.Proofs.YtgaibeckblmbbaaW.PrintLast Go.Proofs.YtgaibeckblmbbaaW.PrintMore
attribute [local go_sem] max2_int min2_int max_two min_two max_three min_three max_four min_four
set_option linter.unusedVariables false
set_option linter.unusedSimpArgs false

/-! ### impl_layout: function 50 -/
mutual
def impl_layout.l0 : Nat → List Int → List (List Int) → List (S89) → Int → Int → Option (List Int × (List (List Int)) × Bool)
 | 0, _, _, _, _, _ => none
 | k + 1, x2, x3, x18, x19, x20 => if x20 < x19 then (if 0 ≤ x20 then (if x20 < (x18.length : Int) then ((impl_validAtom.f k ((rd_T89 x18 x20).f0) ((rd_T89 x18 x20).f1) ((rd_T89 x18 x20).f2) ((rd_T89 x18 x20).f3)).bind fun t531 => (if t531 = true then (impl_layout.l1 k x2 x3 x20 x20 0 x18 x19 x20 ((rd_T89 x18 x20).f0) ((rd_T89 x18 x20).f1) ((rd_T89 x18 x20).f2) ((rd_T89 x18 x20).f3)) else (some (([] : List Int), ([] : List (List Int)), false)))) else (none)) else (none)) else (some (x2, x3, true))
def impl_layout.l1 : Nat → List Int → List (List Int) → Int → Int → Int → List (S89) → Int → Int → Int → Int → ByteArray → Int → Option (List Int × (List (List Int)) × Bool)
 | 0, _, _, _, _, _, _, _, _, _, _, _, _ => none
 | k + 1, x2, x3, x6, x8, x9, x18, x19, x20, x531000, x531001, x531002, x531003 => if x9 < x531003 then (if (wrap64 (x8 - 1)) < 0 then (some (([] : List Int), ([] : List (List Int)), false)) else (if 0 ≤ x6 then (if x6 < (x3.length : Int) then (if (rd_L8 x3 x6).length < 17592186044416 then (if 0 ≤ (wrap64 (x8 - 1)) then (if (wrap64 (x8 - 1)) < (x2.length : Int) then (impl_layout.l1 k x2 (x3.set (x6 : Int).toNat ((rd_L8 x3 x6) ++ [wrap64 (x8 - 1)])) x6 (rd x2 (wrap64 (x8 - 1))) (wrap64 (x9 + 1)) x18 x19 x20 x531000 x531001 x531002 x531003) else (none)) else (none)) else (none)) else (none)) else (none))) else (if 0 ≤ x6 then (if x6 < (x3.length : Int) then ((slices_Reverse_int_int.f k (rd_L8 x3 x6)).bind fun t539 => (if x6 < (x2.length : Int) then (impl_layout.l0 k (x2.set (x6 : Int).toNat x8) (x3.set (x6 : Int).toNat t539) x18 x19 (wrap64 (x20 + 1))) else (none))) else (none)) else (none))
end
def impl_layout.f (k : Nat) (l0_0 : List (S89)) : Option (List Int × (List (List Int)) × Bool) := if 0 ≤ (l0_0.length : Int) then (if ((l0_0.length : Int) : Int).toNat ≤ 35184372088832 then (if ((l0_0.length : Int) : Int).toNat ≤ 11728124029610 then (impl_layout.l0 k (List.replicate ((l0_0.length : Int) : Int).toNat 0) (List.replicate ((l0_0.length : Int) : Int).toNat []) l0_0 (l0_0.length : Int) 0) else (none)) else (none)) else (none)
theorem impl_layout.mono_l : ∀ k, (∀ y0 y1 y2 y3 y4, LeO (impl_layout.l0 k y0 y1 y2 y3 y4) (impl_layout.l0 (k + 1) y0 y1 y2 y3 y4)) ∧ (∀ y0 y1 y2 y3 y4 y5 y6 y7 y8 y9 y10 y11, LeO (impl_layout.l1 k y0 y1 y2 y3 y4 y5 y6 y7 y8 y9 y10 y11) (impl_layout.l1 (k + 1) y0 y1 y2 y3 y4 y5 y6 y7 y8 y9 y10 y11))
 | 0 => ⟨fun _ _ _ _ _ r h => by simp [impl_layout.l0] at h, fun _ _ _ _ _ _ _ _ _ _ _ _ r h => by simp [impl_layout.l1] at h⟩
 | k + 1 => by
  obtain ⟨ih0, ih1⟩ := impl_layout.mono_l k
  refine ⟨?_, ?_⟩
  ·intro y0 y1 y2 y3 y4
   unfold impl_layout.l0
   repeat' first
   | (with_reducible exact ih0 _ _ _ _ _)
   | (with_reducible exact ih1 _ _ _ _ _ _ _ _ _ _ _ _)
   | (with_reducible exact impl_validAtom.mono _ _ _ _ _)
   | (with_reducible exact slices_Reverse_int_int.mono _ _)
   | (with_reducible exact LeO.refl _)
   | (with_reducible exact LeO.none _)
   | (with_reducible refine LeO.ite ?_ ?_)
   | (with_reducible refine LeO.bind ?_ (fun _ => ?_))
   | exact ih0 _ _ _ _ _
   | exact ih1 _ _ _ _ _ _ _ _ _ _ _ _
   | exact impl_validAtom.mono _ _ _ _ _
   | exact slices_Reverse_int_int.mono _ _
   | exact LeO.none _
   | refine LeO.ite ?_ ?_
   | refine LeO.bind ?_ (fun _ => ?_)
  ·intro y0 y1 y2 y3 y4 y5 y6 y7 y8 y9 y10 y11
   unfold impl_layout.l1
   repeat' first
   | (with_reducible exact ih0 _ _ _ _ _)
   | (with_reducible exact ih1 _ _ _ _ _ _ _ _ _ _ _ _)
   | (with_reducible exact impl_validAtom.mono _ _ _ _ _)
   | (with_reducible exact slices_Reverse_int_int.mono _ _)
   | (with_reducible exact LeO.refl _)
   | (with_reducible exact LeO.none _)
   | (with_reducible refine LeO.ite ?_ ?_)
   | (with_reducible refine LeO.bind ?_ (fun _ => ?_))
   | exact ih0 _ _ _ _ _
   | exact ih1 _ _ _ _ _ _ _ _ _ _ _ _
   | exact impl_validAtom.mono _ _ _ _ _
   | exact slices_Reverse_int_int.mono _ _
   | exact LeO.none _
   | refine LeO.ite ?_ ?_
   | refine LeO.bind ?_ (fun _ => ?_)
theorem impl_layout.mono : ∀ a0 k, LeO (impl_layout.f k a0) (impl_layout.f (k + 1) a0) := by
 intro a0 k
 obtain ⟨ih0, ih1⟩ := impl_layout.mono_l k
 unfold impl_layout.f
 repeat' first
   | (with_reducible exact ih0 _ _ _ _ _)
   | (with_reducible exact ih1 _ _ _ _ _ _ _ _ _ _ _ _)
   | (with_reducible exact impl_validAtom.mono _ _ _ _ _)
   | (with_reducible exact slices_Reverse_int_int.mono _ _)
   | (with_reducible exact LeO.refl _)
   | (with_reducible exact LeO.none _)
   | (with_reducible refine LeO.ite ?_ ?_)
   | (with_reducible refine LeO.bind ?_ (fun _ => ?_))
   | exact ih0 _ _ _ _ _
   | exact ih1 _ _ _ _ _ _ _ _ _ _ _ _
   | exact impl_validAtom.mono _ _ _ _ _
   | exact slices_Reverse_int_int.mono _ _
   | exact LeO.none _
   | refine LeO.ite ?_ ?_
   | refine LeO.bind ?_ (fun _ => ?_)
set_option maxHeartbeats 8000000 in
set_option maxRecDepth 100000 in
theorem impl_layout.calls (k : Nat) (A0_0 : Option Addr) (c0_0 : Nat) (l0_0 : List (S89)) (r1 : List Int) (r2 : List (List Int)) (r3 : Bool) (w : World) (hr0_0 : Kd.C k89 w A0_0 l0_0.length l0_0) (hc0_0 : l0_0.length ≤ c0_0) (h : impl_layout.f k l0_0 = some (r1, r2, r3)) :
  Calls Try.prog 50 #[.agg #[.slice A0_0 l0_0.length c0_0]] w fun e w' => ∃ v0_ v1_ : Value, e = .returned (.tuple #[v0_, v1_, .bool r3]) ∧ Kd.R (Kd.int .i64) 3 w' w.heap.size (fun _ => True) v0_ r1 ∧ Kd.S (Kd.slice 3 (Kd.int .i64)) 70 w' w.heap.size (fun k_ => some k_ ≠ (v0_ : Value).ownBlock) v1_ r2 ∧ Below w.heap.size w w' := by
 have hu60 := Try.underlying60
 have hu89 := Try.underlying89
 have HR0_0 := Aside0.mk hr0_0
 have HC0_0 := Aside0.mk hc0_0
 clear hr0_0 hc0_0
 have HB := Aside0.mk (Below.refl w.heap.size w)
 have H : (if 0 ≤ (l0_0.length : Int) then (if ((l0_0.length : Int) : Int).toNat ≤ 35184372088832 then (if ((l0_0.length : Int) : Int).toNat ≤ 11728124029610 then (impl_layout.l0 k (List.replicate ((l0_0.length : Int) : Int).toNat 0) (List.replicate ((l0_0.length : Int) : Int).toNat []) l0_0 (l0_0.length : Int) 0) else (none)) else (none)) else (none)) = some (r1, r2, r3) := h
 clear h
 by_cases c2 : 0 ≤ (l0_0.length : Int)
 ·rw [if_pos c2] at H
  have c2b0 := eq_true c2
  have c2b1 : decide (0 ≤ (l0_0.length : Int)) = true := decide_eq_true c2
  clear c2
  by_cases c3 : ((l0_0.length : Int) : Int).toNat ≤ 35184372088832
  ·rw [if_pos c3] at H
   have c3b0 := eq_true c3
   have c3b1 : decide (((l0_0.length : Int) : Int).toNat ≤ 35184372088832) = true := decide_eq_true c3
   clear c3
   obtain ⟨y523, hy523⟩ : ∃ y_ : List Int, y_ = (List.replicate ((l0_0.length : Int) : Int).toNat 0) := ⟨_, rfl⟩
   replace H : (if ((l0_0.length : Int) : Int).toNat ≤ 11728124029610 then (impl_layout.l0 k y523 (List.replicate ((l0_0.length : Int) : Int).toNat []) l0_0 (l0_0.length : Int) 0) else (none)) = some (r1, r2, r3) := by first | (rw [hy523]; with_reducible exact H) | (have H2_ := (Option.bind_some _ _).symm.trans H; rw [hy523]; with_reducible exact H2_) | (have H2_ := (Option.bind_some _ _).symm.trans H; with_reducible exact H2_) | with_reducible exact H | (rw [hy523]; exact H) | exact H
   have Ny523 := Aside0.mk hy523
   clear hy523
   by_cases c4 : ((l0_0.length : Int) : Int).toNat ≤ 11728124029610
   ·rw [if_pos c4] at H
    have c4b0 := eq_true c4
    have c4b1 : decide (((l0_0.length : Int) : Int).toNat ≤ 11728124029610) = true := decide_eq_true c4
    clear c4
    obtain ⟨y526, hy526⟩ : ∃ y_ : List (List Int), y_ = (List.replicate ((l0_0.length : Int) : Int).toNat []) := ⟨_, rfl⟩
    replace H : (impl_layout.l0 k y523 y526 l0_0 (l0_0.length : Int) 0) = some (r1, r2, r3) := by first | (rw [hy526]; with_reducible exact H) | (have H2_ := (Option.bind_some _ _).symm.trans H; rw [hy526]; with_reducible exact H2_) | (have H2_ := (Option.bind_some _ _).symm.trans H; with_reducible exact H2_) | with_reducible exact H | (rw [hy526]; exact H) | exact H
    have Ny526 := Aside0.mk hy526
    clear hy526
    have H' := Aside0.mk H
    clear H
    go_enter Try.func50, Try.ntmps50
    go_wp2_with (first | ((with_reducible refine gate_dst (N := 1) rfl ?_); refine box_event ?hg (N := 1) ?hd (cs := #[.slice A0_0 l0_0.length c0_0]) (t := 60) ?hr ?_; (case hd => rfl); (case hg => rfl); (case hr => first | (go_simp; done) | (go_simp; rfl)); intro gb522 hg w5 hbox hb; have n0_ := Aside0.mk (below_step (by repeat (first | (with_reducible first | exact HB.out | apply below_alloc | apply pw_below_drewN | apply below_drew1) | exact HB.out)) hb); have n1_ := Aside0.mk (hbox); have n2_ := Aside0.mk ((by rw [hg]; exact (below_size (by repeat (first | (with_reducible first | exact HB.out | apply below_alloc | apply pw_below_drewN | apply below_drew1) | exact HB.out))) : w.heap.size ≤ gb522)); have n3_ := Aside0.mk ((by rw [hg]; exact (below_size (by repeat (first | (with_reducible first | exact HB.out | apply below_alloc | apply pw_below_drewN | apply below_drew1) | exact HB.out))) : w.heap.size ≤ gb522)); clear HB; have HB := n0_; have BK522 := n1_; have GW522 := n2_; have GE522 := n3_; clear n0_ n1_ n2_ n3_; clear hb hbox hg; have hcz6_0 : w5.cell? ⟨gb522, 0, none⟩ = some (.slice A0_0 l0_0.length c0_0) := (blk_cell BK522.out 0).trans rfl; have hfz6_0 := blk_frozen BK522.out 0) | ((with_reducible refine gate_dst (N := 14) rfl ?_); refine Kd.R_make (Kd.int .i64) _ 3 rfl (N := 14) rfl 70 _ _ rfl (l0_0.length : Int) rfl rfl Try.underlying70 (.int .i64 0) 8 info3 rfl (by decide) (by omega) 0 (ok := fun _ => True) (okp := fun _ => True) rfl (fun _ hk => hk) trivial (of_decide_eq_true (by first | (with_reducible assumption) | assumption)) (Nat.le_trans (Nat.mul_le_mul_right _ (of_decide_eq_true (by first | (with_reducible assumption) | assumption) : (l0_0.length : Int).toNat ≤ 35184372088832)) (by omega)) (Below.refl _ _) (Nat.le_refl _) ?_; intro v524 w7 ho8 hb hg_ hnew_; clear hg_ hnew_; (first | rw [← Ny523.out] at ho8 | (simp only [Int.reduceToNat] at ho8; rw [← Ny523.out] at ho8)); have n0_ := Aside0.mk (Kd.R_lower ho8 (below_size (by repeat (first | (with_reducible first | exact HB.out | apply below_alloc | apply pw_below_drewN | apply below_drew1 | refine below_set ?_ GE522.out) | exact HB.out)))); have n1_ := Aside0.mk (blk_below (g := gb522) (o := .cells #[.slice A0_0 l0_0.length c0_0] 60 (0, 0)) (by (with_reducible repeat (first | refine blk_drewN ?_ _ | refine blk_drew ?_ | refine blk_alloc ?_ _)); exact BK522.out) hb); have n2_ := Aside0.mk (below_step (by repeat (first | (with_reducible first | exact HB.out | apply below_alloc | apply pw_below_drewN | apply below_drew1 | refine below_set ?_ GE522.out) | exact HB.out)) hb); clear BK522; clear HB; have HO525 := n0_; have BK522 := n1_; have HB := n2_; clear n0_ n1_ n2_; clear hb ho8) | ((with_reducible refine gate_dst (N := 16) rfl ?_); refine Kd.S_make (Kd.slice 3 (Kd.int .i64)) _ 70 rfl (N := 16) rfl 85 _ _ rfl (l0_0.length : Int) rfl rfl Try.underlying85 (.slice none 0 0) 24 info70 rfl (by decide) (by omega) [] (ok := fun _ => True) (okp := fun _ => True) ⟨_, rfl, Kd.R_nil _ _ _ _ _⟩ (fun _ hk => hk) trivial (of_decide_eq_true (by first | (with_reducible assumption) | assumption)) (Nat.le_trans (Nat.mul_le_mul_right _ (of_decide_eq_true (by first | (with_reducible assumption) | assumption) : (l0_0.length : Int).toNat ≤ 11728124029610)) (by omega)) (Below.refl _ _) (Nat.le_refl _) ?_; intro v527 w9 ho10 hb hg_ hnew_; clear hg_ hnew_; (first | rw [← Ny526.out] at ho10 | (simp only [Int.reduceToNat] at ho10; rw [← Ny526.out] at ho10)); have n0_ := Aside0.mk (Kd.R_below (by (with_reducible repeat (first | apply Kd.R_alloc | apply Kd.R_drewN | apply Kd.R_drew)); exact HO525.out) hb); have n1_ := Aside0.mk (Kd.S_lower (Kd.S_new' ho10 (Kd.R_lt (by (with_reducible repeat (first | apply Kd.R_alloc | apply Kd.R_drewN | apply Kd.R_drew)); exact HO525.out))) (below_size (by repeat (first | (with_reducible first | exact HB.out | apply below_alloc | apply pw_below_drewN | apply below_drew1 | refine below_set ?_ GE522.out) | exact HB.out)))); have n2_ := Aside0.mk (blk_below (g := gb522) (o := .cells #[.slice A0_0 l0_0.length c0_0] 60 (0, 0)) (by (with_reducible repeat (first | refine blk_drewN ?_ _ | refine blk_drew ?_ | refine blk_alloc ?_ _)); exact BK522.out) hb); have n3_ := Aside0.mk (below_step (by repeat (first | (with_reducible first | exact HB.out | apply below_alloc | apply pw_below_drewN | apply below_drew1 | refine below_set ?_ GE522.out) | exact HB.out)) hb); clear HO525; clear BK522; clear HB; have HO525 := n0_; have HO528 := n1_; have BK522 := n2_; have HB := n3_; clear n0_ n1_ n2_ n3_; clear hb ho10; have hcz11_0 : w9.cell? ⟨gb522, 0, none⟩ = some (.slice A0_0 l0_0.length c0_0) := (blk_cell BK522.out 0).trans rfl; have hfz11_0 := blk_frozen BK522.out 0))
    go_loopg [2, 3, 20] k (fun kq v2 v3 v20 w' => ∃ (x2_1 : List Int) (x3_1 : List (List Int)) (x20_1 : Int), v20 = .int .i64 x20_1 ∧ Aside0 (impl_layout.l0 kq x2_1 x3_1 l0_0 (l0_0.length : Int) x20_1 = some (r1, r2, r3)) ∧ Aside0 (kq ≤ k) ∧ Aside0 (Kd.R (Kd.int .i64) 3 w' w.heap.size (fun _ => True) v2 x2_1) ∧ Aside0 (Kd.S (Kd.slice 3 (Kd.int .i64)) 70 w' w.heap.size (fun k_ => some k_ ≠ (v2 : Value).ownBlock) v3 x3_1) ∧ Aside0 (w'.heap[gb522]? = some (.cells #[(.slice A0_0 l0_0.length c0_0)] 60 (0, 0))) ∧ Aside0 (Below w.heap.size w w'))
    case atStart => exact ⟨(y523), (y526), (0), (by first | rfl | (simp; done) | (simp [*]; done)), H', ⟨Nat.le_refl _⟩, ⟨by (with_reducible repeat (first | apply Kd.R_alloc | apply Kd.R_drewN | apply Kd.R_drew)); exact HO525.out⟩, ⟨by (with_reducible repeat (first | apply Kd.S_alloc | apply Kd.S_drewN | apply Kd.S_drew)); exact Kd.S_mono HO528.out (fun _ hk => hk.2)⟩, ⟨by (with_reducible repeat (first | refine blk_drewN ?_ _ | refine blk_drew ?_ | refine blk_alloc ?_ _)); exact BK522.out⟩, ⟨by repeat (first | (with_reducible first | exact HB.out | apply below_alloc | apply pw_below_drewN | apply below_drew1 | refine below_set ?_ GE522.out) | exact HB.out)⟩⟩
    case round =>
     clear H'
     try clear c2
     try clear c2b0
     try clear c2b1
     try clear p2
     try clear c3
     try clear c3b0
     try clear c3b1
     try clear c4
     try clear c4b0
     try clear c4b1
     try clear c5
     try clear hcz11_0
     try clear hcz6_0
     try clear hfz11_0
     try clear hfz6_0
     obtain ⟨x2_1, x3_1, x20_1, rfl, HA, HK1, HO_2, HO_3, BK522, HB⟩ := hrel
     cases gk with
     | zero => exact absurd HA.out (by simp [impl_layout.l0])
     | succ k1 =>
      have H := HA.out
      clear HA
      simp only [impl_layout.l0] at H
      by_cases c12 : x20_1 < (l0_0.length : Int)
      ·rw [if_pos c12] at H
       have c12b0 : decide (x20_1 < (l0_0.length : Int)) = true := decide_eq_true c12
       clear c12
       by_cases c13 : 0 ≤ x20_1
       ·rw [if_pos c13] at H
        have c13b0 : decide (0 ≤ x20_1) = true := decide_eq_true c13
        clear c13
        by_cases c14 : x20_1 < (l0_0.length : Int)
        ·rw [if_pos c14] at H
         have c14b0 : decide (x20_1 < (l0_0.length : Int)) = true := decide_eq_true c14
         clear c14
         replace H := Option.bind_eq_some_iff.mp H
         obtain ⟨t531, A150, H⟩ := H
         replace H : (if t531 = true then (impl_layout.l1 k1 x2_1 x3_1 x20_1 x20_1 0 l0_0 (l0_0.length : Int) x20_1 ((rd_T89 l0_0 x20_1).f0) ((rd_T89 l0_0 x20_1).f1) ((rd_T89 l0_0 x20_1).f2) ((rd_T89 l0_0 x20_1).f3)) else (some (([] : List Int), ([] : List (List Int)), false))) = some (r1, r2, r3) := H
         have A15 := Aside0.mk A150
         clear A150
         by_cases c16 : t531 = true
         ·subst c16
          have H1 : (impl_layout.l1 k1 x2_1 x3_1 x20_1 x20_1 0 l0_0 (l0_0.length : Int) x20_1 ((rd_T89 l0_0 x20_1).f0) ((rd_T89 l0_0 x20_1).f1) ((rd_T89 l0_0 x20_1).f2) ((rd_T89 l0_0 x20_1).f3)) = some (r1, r2, r3) := by rw [if_pos rfl] at H; exact H
          clear H
          have H := H1
          clear H1
          have H' := Aside0.mk H
          clear H
          have p529 : 0 ≤ (x20_1 : Int) := of_decide_eq_true (by first | (with_reducible assumption) | assumption)
          have q529 : x20_1 < (l0_0.length : Int) := of_decide_eq_true (by first | (with_reducible assumption) | assumption)
          obtain ⟨ad529, e529, hx529_0, hx529_1, hx529_2, hx529_3⟩ := at_T89 HR0_0.out x20_1 p529 q529
          cases e529
          replace hx529_0 := (HB.out.cell (World.block_lt_of_cell? w _ hx529_0)).trans hx529_0
          replace hx529_1 := (HB.out.cell (World.block_lt_of_cell? w _ hx529_1)).trans hx529_1
          replace hx529_2 := (HB.out.cell (World.block_lt_of_cell? w _ hx529_2)).trans hx529_2
          replace hx529_3 := (HB.out.cell (World.block_lt_of_cell? w _ hx529_3)).trans hx529_3
          replace p529 := eq_true p529
          replace q529 := eq_true q529
          go_wp2_with (first | ((with_reducible refine gate_dst (N := 7) rfl ?_); refine box_event ?hg (N := 7) ?hd (cs := #[.int .i64 0, .int .i64 0, .string (⟨#[]⟩ : ByteArray), .int .i64 0]) (t := 89) ?hr ?_; (case hd => rfl); (case hg => rfl); (case hr => first | (go_simp; done) | (go_simp; rfl)); intro gb530 hg w17 hbox hb; have n0_ := Aside0.mk (Kd.R_below (by (with_reducible repeat (first | apply Kd.R_alloc | apply Kd.R_drewN | apply Kd.R_drew)); exact HO_2.out) hb); have n1_ := Aside0.mk (Kd.S_below (by (with_reducible repeat (first | apply Kd.S_alloc | apply Kd.S_drewN | apply Kd.S_drew)); exact HO_3.out) hb); have n2_ := Aside0.mk (blk_below (g := gb522) (o := .cells #[.slice (some ad529) l0_0.length c0_0] 60 (0, 0)) (by (with_reducible repeat (first | refine blk_drewN ?_ _ | refine blk_drew ?_ | refine blk_alloc ?_ _)); exact BK522.out) hb); have n3_ := Aside0.mk (below_step (by repeat (first | (with_reducible first | exact HB.out | apply below_alloc | apply pw_below_drewN | apply below_drew1 | refine below_set ?_ GE522.out) | exact HB.out)) hb); have n4_ := Aside0.mk (hbox); have n5_ := Aside0.mk ((by rw [hg]; exact (below_size (by repeat (first | (with_reducible first | exact HB.out | apply below_alloc | apply pw_below_drewN | apply below_drew1 | refine below_set ?_ GE522.out) | exact HB.out))) : w.heap.size ≤ gb530)); have n6_ := Aside0.mk ((by rw [hg]; exact (below_size (by repeat (first | (with_reducible first | exact HB.out | apply below_alloc | apply pw_below_drewN | apply below_drew1 | refine below_set ?_ GE522.out) | exact HB.out))) : w.heap.size ≤ gb530)); have n7_ := Aside0.mk ((by rw [hg]; exact Nat.ne_of_lt (blk_lt (g := gb522) (o := .cells #[.slice (some ad529) l0_0.length c0_0] 60 (0, 0)) (by (with_reducible repeat (first | refine blk_drewN ?_ _ | refine blk_drew ?_ | refine blk_alloc ?_ _)); exact BK522.out)) : gb522 ≠ gb530)); have n8_ := Aside0.mk ((by rw [hg]; exact Nat.ne_of_gt (blk_lt (g := gb522) (o := .cells #[.slice (some ad529) l0_0.length c0_0] 60 (0, 0)) (by (with_reducible repeat (first | refine blk_drewN ?_ _ | refine blk_drew ?_ | refine blk_alloc ?_ _)); exact BK522.out)) : gb530 ≠ gb522)); clear HO_2; clear HO_3; clear BK522; clear HB; have HO_2 := n0_; have HO_3 := n1_; have BK522 := n2_; have HB := n3_; have BK530 := n4_; have GW530 := n5_; have GE530 := n6_; have NB522_530 := n7_; have NB530_522 := n8_; clear n0_ n1_ n2_ n3_ n4_ n5_ n6_ n7_ n8_; clear hb hbox hg; have hnb18 := NB530_522.out; have hnc18 := NB522_530.out; have hcz19_0 : w17.cell? ⟨gb530, 0, none⟩ = some (.int .i64 0) := (blk_cell BK530.out 0).trans rfl; have hcz19_1 : w17.cell? ⟨gb530, 1, none⟩ = some (.int .i64 0) := (blk_cell BK530.out 1).trans rfl; have hcz19_2 : w17.cell? ⟨gb530, 2, none⟩ = some (.string (⟨#[]⟩ : ByteArray)) := (blk_cell BK530.out 2).trans rfl; have hcz19_3 : w17.cell? ⟨gb530, 3, none⟩ = some (.int .i64 0) := (blk_cell BK530.out 3).trans rfl; have hfz19_0 := blk_frozen BK530.out 0; have hfz19_1 := blk_frozen BK530.out 1; have hfz19_2 := blk_frozen BK530.out 2; have hfz19_3 := blk_frozen BK530.out 3) | ((with_reducible refine gate_callee (f := 56) rfl ?_); refine goesL_ (some 26) rfl rfl Try.func56 (by kernel_rfl) rfl #[.agg #[.int .i64 ((rd_T89 l0_0 x20_1).f0), .int .i64 ((rd_T89 l0_0 x20_1).f1), .string ((rd_T89 l0_0 x20_1).f2), .int .i64 ((rd_T89 l0_0 x20_1).f3)]] rfl (by (try simp only [List.map_toArray, List.map_cons, List.map_nil]); first | done | rfl | (simp only [List.length_drop, List.length_take]; rfl)) ?_; (with_reducible refine (impl_validAtom.calls k1 ((rd_T89 l0_0 x20_1).f0) ((rd_T89 l0_0 x20_1).f1) ((rd_T89 l0_0 x20_1).f2) ((rd_T89 l0_0 x20_1).f3) true _ A15.out).mono ?_); rintro e w20 ⟨rfl, hb⟩; refine ⟨_, rfl, ?_⟩; have n0_ := Aside0.mk (Kd.R_below (by (with_reducible repeat (first | apply Kd.R_alloc | apply Kd.R_drewN | apply Kd.R_drew)); exact (Kd.R_mono (Kd.R_far (p := ⟨gb530, 3, none⟩) (Kd.R_far (p := ⟨gb530, 2, none⟩) (Kd.R_far (p := ⟨gb530, 1, none⟩) (Kd.R_far (p := ⟨gb530, 0, none⟩) (Kd.R_types HO_2.out BK530.out (by decide)) (fun _ hk => hk.2) (.int .i64 ((rd_T89 l0_0 x20_1).f0))) (fun _ hk => hk.2) (.int .i64 ((rd_T89 l0_0 x20_1).f1))) (fun _ hk => hk.2) (.string ((rd_T89 l0_0 x20_1).f2))) (fun _ hk => hk.2) (.int .i64 ((rd_T89 l0_0 x20_1).f3))) (fun _ h_ => h_.1))) hb); have n1_ := Aside0.mk (Kd.S_below (by (with_reducible repeat (first | apply Kd.S_alloc | apply Kd.S_drewN | apply Kd.S_drew)); exact (Kd.S_mono (Kd.S_far (p := ⟨gb530, 3, none⟩) (Kd.S_far (p := ⟨gb530, 2, none⟩) (Kd.S_far (p := ⟨gb530, 1, none⟩) (Kd.S_far (p := ⟨gb530, 0, none⟩) (Kd.S_types HO_3.out BK530.out (by decide)) (fun _ hk => hk.2) (.int .i64 ((rd_T89 l0_0 x20_1).f0))) (fun _ hk => hk.2) (.int .i64 ((rd_T89 l0_0 x20_1).f1))) (fun _ hk => hk.2) (.string ((rd_T89 l0_0 x20_1).f2))) (fun _ hk => hk.2) (.int .i64 ((rd_T89 l0_0 x20_1).f3))) (fun _ h_ => h_.1))) hb); have n2_ := Aside0.mk (blk_below (g := gb522) (o := .cells #[.slice (some ad529) l0_0.length c0_0] 60 (0, 0)) (by (with_reducible repeat (first | refine blk_drewN ?_ _ | refine blk_drew ?_ | refine blk_alloc ?_ _)); refine blk_far ?_ NB522_530.out _; (with_reducible repeat (first | refine blk_drewN ?_ _ | refine blk_drew ?_ | refine blk_alloc ?_ _)); refine blk_far ?_ NB522_530.out _; (with_reducible repeat (first | refine blk_drewN ?_ _ | refine blk_drew ?_ | refine blk_alloc ?_ _)); refine blk_far ?_ NB522_530.out _; (with_reducible repeat (first | refine blk_drewN ?_ _ | refine blk_drew ?_ | refine blk_alloc ?_ _)); refine blk_far ?_ NB522_530.out _; (with_reducible repeat (first | refine blk_drewN ?_ _ | refine blk_drew ?_ | refine blk_alloc ?_ _)); exact BK522.out) hb); have n3_ := Aside0.mk (blk_below (g := gb530) (o := .cells #[.int .i64 ((rd_T89 l0_0 x20_1).f0), .int .i64 ((rd_T89 l0_0 x20_1).f1), .string ((rd_T89 l0_0 x20_1).f2), .int .i64 ((rd_T89 l0_0 x20_1).f3)] 89 (0, 0)) (by (with_reducible repeat (first | refine blk_drewN ?_ _ | refine blk_drew ?_ | refine blk_alloc ?_ _)); refine blk_put (cs := #[.int .i64 ((rd_T89 l0_0 x20_1).f0), .int .i64 ((rd_T89 l0_0 x20_1).f1), .string ((rd_T89 l0_0 x20_1).f2), .int .i64 0]) ?_ 3 _ rfl; (with_reducible repeat (first | refine blk_drewN ?_ _ | refine blk_drew ?_ | refine blk_alloc ?_ _)); refine blk_put (cs := #[.int .i64 ((rd_T89 l0_0 x20_1).f0), .int .i64 ((rd_T89 l0_0 x20_1).f1), .string (⟨#[]⟩ : ByteArray), .int .i64 0]) ?_ 2 _ rfl; (with_reducible repeat (first | refine blk_drewN ?_ _ | refine blk_drew ?_ | refine blk_alloc ?_ _)); refine blk_put (cs := #[.int .i64 ((rd_T89 l0_0 x20_1).f0), .int .i64 0, .string (⟨#[]⟩ : ByteArray), .int .i64 0]) ?_ 1 _ rfl; (with_reducible repeat (first | refine blk_drewN ?_ _ | refine blk_drew ?_ | refine blk_alloc ?_ _)); refine blk_put (cs := #[.int .i64 0, .int .i64 0, .string (⟨#[]⟩ : ByteArray), .int .i64 0]) ?_ 0 _ rfl; (with_reducible repeat (first | refine blk_drewN ?_ _ | refine blk_drew ?_ | refine blk_alloc ?_ _)); exact BK530.out) hb); have n4_ := Aside0.mk (below_step (by repeat (first | (with_reducible first | exact HB.out | apply below_alloc | apply pw_below_drewN | apply below_drew1 | refine below_set ?_ GE522.out | refine below_set ?_ GE530.out) | exact HB.out)) hb); clear HO_2; clear HO_3; clear BK522; clear BK530; clear HB; have HO_2 := n0_; have HO_3 := n1_; have BK522 := n2_; have BK530 := n3_; have HB := n4_; clear n0_ n1_ n2_ n3_ n4_; (try clear hb); (try clear hb2); (try clear hk); (try clear hi)))
          go_loopg [2, 3, 8, 9] k1 (fun kq v2 v3 v8 v9 w' => ∃ (x2_2 : List Int) (x3_2 : List (List Int)) (x8_2 : Int) (x9_2 : Int), v8 = .int .i64 x8_2 ∧ v9 = .int .i64 x9_2 ∧ Aside0 (impl_layout.l1 kq x2_2 x3_2 x20_1 x8_2 x9_2 l0_0 (l0_0.length : Int) x20_1 ((rd_T89 l0_0 x20_1).f0) ((rd_T89 l0_0 x20_1).f1) ((rd_T89 l0_0 x20_1).f2) ((rd_T89 l0_0 x20_1).f3) = some (r1, r2, r3)) ∧ Aside0 (kq ≤ k1) ∧ Aside0 (Kd.R (Kd.int .i64) 3 w' w.heap.size (fun _ => True) v2 x2_2) ∧ Aside0 (Kd.S (Kd.slice 3 (Kd.int .i64)) 70 w' w.heap.size (fun k_ => some k_ ≠ (v2 : Value).ownBlock) v3 x3_2) ∧ Aside0 (w'.heap[gb522]? = some (.cells #[(.slice (some ad529) l0_0.length c0_0)] 60 (0, 0))) ∧ Aside0 (w'.heap[gb530]? = some (.cells #[.int .i64 ((rd_T89 l0_0 x20_1).f0), .int .i64 ((rd_T89 l0_0 x20_1).f1), .string ((rd_T89 l0_0 x20_1).f2), .int .i64 ((rd_T89 l0_0 x20_1).f3)] 89 (0, 0))) ∧ Aside0 (Below w.heap.size w w'))
          case atStart => exact ⟨(x2_1), (x3_1), (x20_1), (0), (by first | rfl | (simp; done) | (simp [*]; done)), (by first | rfl | (simp; done) | (simp [*]; done)), H', ⟨Nat.le_refl _⟩, ⟨by (with_reducible repeat (first | apply Kd.R_alloc | apply Kd.R_drewN | apply Kd.R_drew)); exact HO_2.out⟩, ⟨by (with_reducible repeat (first | apply Kd.S_alloc | apply Kd.S_drewN | apply Kd.S_drew)); exact HO_3.out⟩, ⟨by (with_reducible repeat (first | refine blk_drewN ?_ _ | refine blk_drew ?_ | refine blk_alloc ?_ _)); exact BK522.out⟩, ⟨by (with_reducible repeat (first | refine blk_drewN ?_ _ | refine blk_drew ?_ | refine blk_alloc ?_ _)); exact BK530.out⟩, ⟨by repeat (first | (with_reducible first | exact HB.out | apply below_alloc | apply pw_below_drewN | apply below_drew1 | refine below_set ?_ GE522.out | refine below_set ?_ GE530.out) | exact HB.out)⟩⟩
          case round =>
           clear H'
           try clear c1
           try clear c2
           try clear c2b0
           try clear c2b1
           try clear p2
           try clear c3
           try clear c3b0
           try clear c3b1
           try clear c4
           try clear c4b0
           try clear c4b1
           try clear c5
           try clear p5
           try clear q5
           try clear hx5
           try clear c12
           try clear c12b0
           try clear c13
           try clear c13b0
           try clear c14
           try clear c14b0
           try clear c16
           try clear c18
           try clear hcz11_0
           try clear hcz19_0
           try clear hcz19_1
           try clear hcz19_2
           try clear hcz19_3
           try clear hcz6_0
           try clear hfz11_0
           try clear hfz19_0
           try clear hfz19_1
           try clear hfz19_2
           try clear hfz19_3
           try clear hfz6_0
           try clear hx529_0
           try clear hx529_1
           try clear hx529_2
           try clear hx529_3
           try clear p2
           try clear p529
           try clear q529
           obtain ⟨x2_2, x3_2, x8_2, x9_2, rfl, rfl, HA, HK2, HO_2, HO_3, BK522, BK530, HB⟩ := hrel
           cases gk with
           | zero => exact absurd HA.out (by simp [impl_layout.l1])
           | succ k2 =>
            have H := HA.out
            clear HA
            simp only [impl_layout.l1] at H
            by_cases c21 : x9_2 < ((rd_T89 l0_0 x20_1).f3)
            ·rw [if_pos c21] at H
             have c21b0 : decide (x9_2 < ((rd_T89 l0_0 x20_1).f3)) = true := decide_eq_true c21
             clear c21
             by_cases c22 : (wrap64 (x8_2 - 1)) < 0
             ·rw [if_pos c22] at H
              have c22b0 : decide ((wrap64 (x8_2 - 1)) < 0) = true := decide_eq_true c22
              clear c22
              simp only [Option.some.injEq, Prod.mk.injEq] at H
              obtain ⟨rfl, rfl, rfl⟩ := H
              have hnb23 := NB530_522.out
              have hnc23 := NB522_530.out
              have hcz24_0 : wr.cell? ⟨gb530, 0, none⟩ = some (.int .i64 ((rd_T89 l0_0 x20_1).f0)) := (blk_cell BK530.out 0).trans rfl
              have hcz24_1 : wr.cell? ⟨gb530, 1, none⟩ = some (.int .i64 ((rd_T89 l0_0 x20_1).f1)) := (blk_cell BK530.out 1).trans rfl
              have hcz24_2 : wr.cell? ⟨gb530, 2, none⟩ = some (.string ((rd_T89 l0_0 x20_1).f2)) := (blk_cell BK530.out 2).trans rfl
              have hcz24_3 : wr.cell? ⟨gb530, 3, none⟩ = some (.int .i64 ((rd_T89 l0_0 x20_1).f3)) := (blk_cell BK530.out 3).trans rfl
              have hfz24_0 := blk_frozen BK530.out 0
              have hfz24_1 := blk_frozen BK530.out 1
              have hfz24_2 := blk_frozen BK530.out 2
              have hfz24_3 := blk_frozen BK530.out 3
              go_wp2
              go_ret3
              exact ⟨_, _, by first | rfl | (simp [errW_none, errW_some] <;> rfl) | (simp [*, errW_none, errW_some] <;> rfl), by first | exact Kd.R_nil _ _ _ _ _ | exact Kd.N_nil _ _ _ _ _ | exact Kd.V_nil _ _ _ _ _ | exact Kd.Q_nil _ _ _ _ _ | exact Kd.S_nil _ _ _ _ _, by first | exact Kd.S_nil _ _ _ _ _ | exact Kd.N_nil _ _ _ _ _ | exact Kd.V_nil _ _ _ _ _ | exact Kd.Q_nil _ _ _ _ _ | exact Kd.R_nil _ _ _ _ _, by repeat (first | (with_reducible first | exact HB.out | apply below_alloc | apply pw_below_drewN | apply below_drew1 | refine below_set ?_ GE522.out | refine below_set ?_ GE530.out) | exact HB.out)⟩
             ·rw [if_neg c22] at H
              have c22b0 : decide ((wrap64 (x8_2 - 1)) < 0) = false := decide_eq_false c22
              clear c22
              by_cases c25 : 0 ≤ x20_1
              ·rw [if_pos c25] at H
               have c25b0 : decide (0 ≤ x20_1) = true := decide_eq_true c25
               clear c25
               by_cases c26 : x20_1 < (x3_2.length : Int)
               ·rw [if_pos c26] at H
                have c26b0 : decide (x20_1 < (x3_2.length : Int)) = true := decide_eq_true c26
                clear c26
                by_cases c27 : (rd_L8 x3_2 x20_1).length < 17592186044416
                ·rw [if_pos c27] at H
                 have LMc27 := Aside0.mk c27
                 clear c27
                 obtain ⟨y533, hy533⟩ : ∃ y_ : List Int, y_ = ((rd_L8 x3_2 x20_1) ++ [wrap64 (x8_2 - 1)]) := ⟨_, rfl⟩
                 replace H : (if 0 ≤ (wrap64 (x8_2 - 1)) then (if (wrap64 (x8_2 - 1)) < (x2_2.length : Int) then (impl_layout.l1 k2 x2_2 (x3_2.set (x20_1 : Int).toNat y533) x20_1 (rd x2_2 (wrap64 (x8_2 - 1))) (wrap64 (x9_2 + 1)) l0_0 (l0_0.length : Int) x20_1 ((rd_T89 l0_0 x20_1).f0) ((rd_T89 l0_0 x20_1).f1) ((rd_T89 l0_0 x20_1).f2) ((rd_T89 l0_0 x20_1).f3)) else (none)) else (none)) = some (r1, r2, r3) := by first | (rw [hy533]; with_reducible exact H) | (have H2_ := (Option.bind_some _ _).symm.trans H; rw [hy533]; with_reducible exact H2_) | (have H2_ := (Option.bind_some _ _).symm.trans H; with_reducible exact H2_) | with_reducible exact H | (rw [hy533]; exact H) | exact H
                 have Ny533 := Aside0.mk hy533
                 clear hy533
                 obtain ⟨y536, hy536⟩ : ∃ y_ : List (List Int), y_ = (x3_2.set (x20_1 : Int).toNat y533) := ⟨_, rfl⟩
                 replace H : (if 0 ≤ (wrap64 (x8_2 - 1)) then (if (wrap64 (x8_2 - 1)) < (x2_2.length : Int) then (impl_layout.l1 k2 x2_2 y536 x20_1 (rd x2_2 (wrap64 (x8_2 - 1))) (wrap64 (x9_2 + 1)) l0_0 (l0_0.length : Int) x20_1 ((rd_T89 l0_0 x20_1).f0) ((rd_T89 l0_0 x20_1).f1) ((rd_T89 l0_0 x20_1).f2) ((rd_T89 l0_0 x20_1).f3)) else (none)) else (none)) = some (r1, r2, r3) := by first | (rw [hy536]; with_reducible exact H) | (have H2_ := (Option.bind_some _ _).symm.trans H; rw [hy536]; with_reducible exact H2_) | (have H2_ := (Option.bind_some _ _).symm.trans H; with_reducible exact H2_) | with_reducible exact H | (rw [hy536]; exact H) | exact H
                 have Ny536 := Aside0.mk hy536
                 clear hy536
                 obtain ⟨ji29, hji29⟩ : ∃ j_ : Int, (wrap64 (x8_2 - 1)) = j_ := ⟨_, rfl⟩
                 replace H : (if 0 ≤ (ji29) then (if (ji29) < (x2_2.length : Int) then (impl_layout.l1 k2 x2_2 y536 x20_1 (rd x2_2 (ji29)) (wrap64 (x9_2 + 1)) l0_0 (l0_0.length : Int) x20_1 ((rd_T89 l0_0 x20_1).f0) ((rd_T89 l0_0 x20_1).f1) ((rd_T89 l0_0 x20_1).f2) ((rd_T89 l0_0 x20_1).f3)) else (none)) else (none)) = some (r1, r2, r3) := by first | (rw [hji29] at H; exact H) | (simp only [hji29] at H ⊢; exact H)
                 (try rw [hji29] at c22b0)
                 (try rw [hji29] at Ny533)
                 have hji29w : (IntKind.i64.wrap (x8_2 - 1)) = ji29 := (i64_w _).trans hji29
                 by_cases c30 : 0 ≤ (ji29)
                 ·rw [if_pos c30] at H
                  have c30b0 : decide (0 ≤ (ji29)) = true := decide_eq_true c30
                  clear c30
                  by_cases c31 : (ji29) < (x2_2.length : Int)
                  ·rw [if_pos c31] at H
                   have c31b0 : decide ((ji29) < (x2_2.length : Int)) = true := decide_eq_true c31
                   clear c31
                   have H' := Aside0.mk H
                   clear H
                   have hnb32 := NB530_522.out
                   have hnc32 := NB522_530.out
                   have hcz33_0 : wr.cell? ⟨gb530, 0, none⟩ = some (.int .i64 ((rd_T89 l0_0 x20_1).f0)) := (blk_cell BK530.out 0).trans rfl
                   have hcz33_1 : wr.cell? ⟨gb530, 1, none⟩ = some (.int .i64 ((rd_T89 l0_0 x20_1).f1)) := (blk_cell BK530.out 1).trans rfl
                   have hcz33_2 : wr.cell? ⟨gb530, 2, none⟩ = some (.string ((rd_T89 l0_0 x20_1).f2)) := (blk_cell BK530.out 2).trans rfl
                   have hcz33_3 : wr.cell? ⟨gb530, 3, none⟩ = some (.int .i64 ((rd_T89 l0_0 x20_1).f3)) := (blk_cell BK530.out 3).trans rfl
                   have hfz33_0 := blk_frozen BK530.out 0
                   have hfz33_1 := blk_frozen BK530.out 1
                   have hfz33_2 := blk_frozen BK530.out 2
                   have hfz33_3 := blk_frozen BK530.out 3
                   obtain ⟨Ao34, co34, eo34⟩ := Kd.S_slice HO_3.out
                   subst eo34
                   have p532 : 0 ≤ (x20_1 : Int) := of_decide_eq_true (by first | (with_reducible assumption) | assumption)
                   have q532 : x20_1 < (x3_2.length : Int) := of_decide_eq_true (by first | (with_reducible assumption) | assumption)
                   obtain ⟨ad532, A532_0, c532_0, e532, hx532_0, hl532_0, hi532_0⟩ := at_L8 (Kd.S_reads' HO_3.out).2.2 x20_1 p532 q532
                   cases e532
                   obtain ⟨ce532, hce532, hMe532, hcc532⟩ := Kd.S_get HO_3.out [] x20_1 p532 (by first | exact q532 | exact of_decide_eq_true (by first | (with_reducible assumption) | assumption) | (have e_ := (Kd.S_reads' HO_3.out).1; omega))
                   obtain ⟨ve532_0, rfl, ge532_0⟩ := hMe532
                   have hv532_0 := hcc532 0 _ rfl
                   rw [Nat.add_zero, show ((Kd.slice 3 (Kd.int .i64))).sz = 1 from rfl, Nat.mul_one] at hv532_0
                   replace hv532_0 := Option.some.inj (hv532_0.symm.trans hx532_0)
                   rw [hv532_0] at ge532_0
                   have HL532_0 := Aside0.mk (show Kd.R (Kd.int .i64) 3 _ _ _ _ (rd_L8 x3_2 x20_1) from ge532_0)
                   clear hv532_0 ge532_0
                   have HX532_0 := Aside0.mk hx532_0
                   clear hcc532 hce532
                   have HR532_0 := Aside0.mk hi532_0
                   have HC532_0 := Aside0.mk hl532_0
                   clear hi532_0 hl532_0
                   replace p532 := eq_true p532
                   replace q532 := eq_true q532
                   obtain ⟨go35, co35, eo35, gb35, gl35, cl35, HG35⟩ := Kd.S_form HO_3.out (by have h_ : (x20_1 : Int) < ((x3_2.length : Int) : Int) := of_decide_eq_true (by first | (with_reducible assumption) | assumption); have h2_ : 0 ≤ (x20_1 : Int) := (of_decide_eq_true (by first | (with_reducible assumption) | assumption)); omega)
                   (first | cases eo35 | (injection eo35 with ea_ en_ ec_; (first | subst ea_ | (injection ea_ with ea_; subst ea_)); subst ec_; clear en_))
                   have GB35 := Aside0.mk gb35
                   have GG35 := Aside0.mk HG35
                   clear gb35 gl35 HG35
                   (first | simp only [add_plain] at hx532_0 | skip)
                   obtain ⟨oki35, ce35, hcl35, hM35, hcc35, _, _, hH35⟩ := Kd.S_elem HO_3.out [] (x20_1 : Int) (of_decide_eq_true (by first | (with_reducible assumption) | assumption)) (by have h_ : (x20_1 : Int) < ((x3_2.length : Int) : Int) := of_decide_eq_true (by first | (with_reducible assumption) | assumption); first | exact h_ | (have e_ := (Kd.S_reads' HO_3.out).1; omega) | simpa using h_)
                   obtain ⟨ve35_0, rfl, ge35_0⟩ := hM35
                   have hv35 := hcc35 0 _ rfl
                   have hX35 := HX532_0.out
                   (try simp only [add_plain] at hX35)
                   (try simp only [Nat.add_zero] at hv35)
                   (try rw [show ((Kd.slice 3 (Kd.int .i64))).sz = 1 from rfl, Nat.mul_one] at hv35)
                   replace hv35 := Option.some.inj (hv35.symm.trans hX35)
                   subst hv35
                   clear hX35 hcc35 hcl35
                   have UU35 := Aside0.mk (show Kd.R (Kd.int .i64) 3 _ w.heap.size oki35 (.slice A532_0 (rd_L8 x3_2 x20_1).length c532_0) (rd_L8 x3_2 x20_1) from ge35_0)
                   have HH35 := Aside0.mk hH35
                   have HN35 := Aside0.mk (Kd.S_reads' HO_3.out).1
                   clear hH35 ge35_0
                   go_wp2_with (first | ((with_reducible refine gate_builtin (b := .append) (xs := #[.tmp 43, .tmp 46]) rfl ?_); at_builtin; refine Kd.R_append (Kd.int .i64) (w0 := w) w.heap.size rfl (.tmp 43) (.tmp 46) 70 3 (.int .i64 0) 8 rfl Try.underlying70 info3 rfl (by decide) (by omega) (.slice A532_0 (rd_L8 x3_2 x20_1).length c532_0) (rd_L8 x3_2 x20_1) ji29 [.int .i64 ji29] (fun k_ => oki35 k_ ∨ ((fun k_ => some k_ ≠ (u2 : Value).ownBlock)) k_ ∧ wr.heap.size ≤ k_) (fun _ => False) rfl rfl ?aP (fun _ hk => hk.elim) ?aF ?aO ?aB ?aS ?aL ?_; (case aP => exact rfl); (case aB => exact (by repeat (first | (with_reducible first | exact HB.out | apply below_alloc | apply pw_below_drewN | apply below_drew1 | refine below_set ?_ GE522.out | refine below_set ?_ GE530.out) | exact HB.out))); (case aF => exact (fun k_ hk => .inr ⟨Kd.fresh' (Kd.R_lt (by (with_reducible repeat (first | apply Kd.R_alloc | apply Kd.R_drewN | apply Kd.R_drew)); exact HO_2.out)) k_ hk, hk⟩)); (case aO => exact (by (with_reducible repeat (first | apply Kd.R_alloc | apply Kd.R_drewN | apply Kd.R_drew)); exact Kd.R_mono UU35.out (fun _ hk => .inl hk))); (case aS => exact (below_size (by repeat (first | (with_reducible first | exact HB.out | apply below_alloc | apply pw_below_drewN | apply below_drew1 | refine below_set ?_ GE522.out | refine below_set ?_ GE530.out) | exact HB.out)))); (case aL => have := LMc27.out; omega); intro v534 w36 ho hb hg hat; rw [← Ny533.out] at ho; have n0_ := Aside0.mk (Kd.R_grown2 (by (with_reducible repeat (first | apply Kd.R_alloc | apply Kd.R_drewN | apply Kd.R_drew)); exact HO_2.out) rfl hg (fun k_ e_ => (HL532_0.out.1 k_ e_).1)); have n1_ := Aside0.mk (blk_grown (g := gb522) (o := .cells #[.slice (some ad529) l0_0.length c0_0] 60 (0, 0)) (by (with_reducible repeat (first | refine blk_drewN ?_ _ | refine blk_drew ?_ | refine blk_alloc ?_ _)); exact BK522.out) hg (Kd.R_ne HL532_0.out BK522.out (by decide))); have n2_ := Aside0.mk (blk_grown (g := gb530) (o := .cells #[.int .i64 ((rd_T89 l0_0 x20_1).f0), .int .i64 ((rd_T89 l0_0 x20_1).f1), .string ((rd_T89 l0_0 x20_1).f2), .int .i64 ((rd_T89 l0_0 x20_1).f3)] 89 (0, 0)) (by (with_reducible repeat (first | refine blk_drewN ?_ _ | refine blk_drew ?_ | refine blk_alloc ?_ _)); exact BK530.out) hg (Kd.R_ne HL532_0.out BK530.out (by decide))); have n3_ := Aside0.mk (hb); have n4_ := Aside0.mk (Kd.H_grown (Kd.H_widen (by repeat (first | exact HH35.out | refine Kd.H_alloc ?_ _ | refine Kd.H_drewN ?_ _ | refine Kd.H_drew ?_))) hg (fun k_ e_ => .inl (UU35.out.1 k_ e_))); have n5_ := Aside0.mk (ho); clear HO_2; clear BK522; clear BK530; clear HB; clear HH35; clear HO_3; clear UU35; clear HL532_0; have HO_2 := n0_; have BK522 := n1_; have BK530 := n2_; have HB := n3_; have HH35 := n4_; have HO535 := n5_; clear n0_ n1_ n2_ n3_ n4_ n5_; clear ho hb hg hat; have p28 : 0 ≤ (x20_1 : Int) := of_decide_eq_true (by first | (with_reducible assumption) | assumption); have q28 : (x20_1 : Int) < ((x3_2.length : Int) : Int) := of_decide_eq_true (by first | (with_reducible assumption) | assumption); replace p28 := eq_true p28; replace q28 := eq_true q28; obtain ⟨Ao39, co39, eo39⟩ := Kd.R_slice HO535.out; subst eo39; obtain ⟨_, _, hraw37, _, _, hcc37, _⟩ := Kd.H_raw HH35.out (of_decide_eq_true (by first | (with_reducible assumption) | assumption)) (by have h_ : (x20_1 : Int) < ((x3_2.length : Int) : Int) := of_decide_eq_true (by first | (with_reducible assumption) | assumption); first | exact h_ | (have e_ := (HN35.out); omega) | simpa using h_); obtain ⟨_, hfr37⟩ := Kd.H_at HH35.out (of_decide_eq_true (by first | (with_reducible assumption) | assumption)) (by have h_ : (x20_1 : Int) < ((x3_2.length : Int) : Int) := of_decide_eq_true (by first | (with_reducible assumption) | assumption); first | exact h_ | (have e_ := (HN35.out); omega) | simpa using h_); have hx37_0 := hcc37 0 _ rfl; have hf37_0 := hfr37 0; (try simp only [Nat.add_zero] at hx37_0 hf37_0); (try rw [show ((Kd.slice 3 (Kd.int .i64))).sz = 1 from rfl, Nat.mul_one] at hx37_0); (try rw [show ((Kd.slice 3 (Kd.int .i64))).sz = 1 from rfl, Nat.mul_one] at hf37_0); have HP37 := Kd.S_seg0 HH35.out (of_decide_eq_true (by first | (with_reducible assumption) | assumption)) (by have h_ : (x20_1 : Int) < ((x3_2.length : Int) : Int) := of_decide_eq_true (by first | (with_reducible assumption) | assumption); first | exact h_ | (have e_ := (HN35.out); omega) | simpa using h_) (seg := [.slice Ao39 y533.length co39]) (j := 0) (show 1 ≤ 1 from by decide) (x' := y533) (Kd.M_row HO535.out) (fun _ hk => hk); (try simp only [show ((Kd.slice 3 (Kd.int .i64))).sz = 1 from rfl, Nat.mul_one, Nat.add_zero] at HP37); clear hcc37 hfr37) | ((with_reducible refine gate_store (t := 70) (p := 48) rfl ?_); refine store_event (t := 70) (p := 48) (v := ?vo_w38) (w1 := (w36.setCell ⟨go35, (x20_1 : Int).toNat, none⟩ (.slice Ao39 y533.length co39))) ?hg ?ho ?hn ?hr ?_; (case ho => rfl); (case hg => rfl); (case hn => rfl); (case hr => first | (go_simp; done) | (go_simp; rfl)); intro w38 hw; have hg : w36.grownBy w38 (some go35) := (by rw [hw]; exact HP37.2); have hp_ : Kd.S (Kd.slice 3 (Kd.int .i64)) 70 w38 w.heap.size (fun k_ => some k_ ≠ (u2 : Value).ownBlock) (.slice (some ⟨go35, 0, none⟩) x3_2.length co34) y536 := (by rw [hw, Ny536.out]; exact HP37.1); clear HP37; have n0_ := Aside0.mk (Kd.R_over' (v := (.slice (some ⟨go35, 0, none⟩) x3_2.length co34)) (by (with_reducible repeat (first | apply Kd.R_alloc | apply Kd.R_drewN | apply Kd.R_drew)); exact HO_2.out) (Kd.R_typed hraw37) (by decide) hg); have n1_ := Aside0.mk (blk_grown (g := gb522) (o := .cells #[.slice (some ad529) l0_0.length c0_0] 60 (0, 0)) (by (with_reducible repeat (first | refine blk_drewN ?_ _ | refine blk_drew ?_ | refine blk_alloc ?_ _)); exact BK522.out) hg (Kd.R_ne hraw37 BK522.out (by decide))); have n2_ := Aside0.mk (blk_grown (g := gb530) (o := .cells #[.int .i64 ((rd_T89 l0_0 x20_1).f0), .int .i64 ((rd_T89 l0_0 x20_1).f1), .string ((rd_T89 l0_0 x20_1).f2), .int .i64 ((rd_T89 l0_0 x20_1).f3)] 89 (0, 0)) (by (with_reducible repeat (first | refine blk_drewN ?_ _ | refine blk_drew ?_ | refine blk_alloc ?_ _)); exact BK530.out) hg (Kd.R_ne hraw37 BK530.out (by decide))); have n3_ := Aside0.mk ((by rw [hw]; exact below_set HB.out GB35.out : Below w.heap.size w w38)); have n4_ := Aside0.mk (hp_); clear HO_2; clear BK522; clear BK530; clear HB; clear HO535; clear HH35; have HO_2 := n0_; have BK522 := n1_; have BK530 := n2_; have HB := n3_; have HO_3 := n4_; clear n0_ n1_ n2_ n3_ n4_; clear hg hw hp_ hraw37; obtain ⟨Ao40, co40, eo40⟩ := Kd.R_slice HO_2.out; subst eo40; have p537 : 0 ≤ ((ji29) : Int) := of_decide_eq_true (by first | (with_reducible assumption) | assumption); have q537 : (ji29) < (x2_2.length : Int) := of_decide_eq_true (by first | (with_reducible assumption) | assumption); obtain ⟨ad537, e537, hx537_0⟩ := Kd.at_int (Kd.R_reads' HO_2.out).2.2 (ji29) p537 q537; cases e537; replace p537 := eq_true p537; replace q537 := eq_true q537))
                   go_roundg k2
                   case measure => have := HK1.out; have := HK2.out; omega
                   case rel => exact ⟨(x2_2), (y536), (rd x2_2 (ji29)), (wrap64 (x9_2 + 1)), (by first | rfl | (simp; done) | (simp only [← hji29] <;> (first | rfl | simp)) | (simp [*]; done)), (by first | rfl | (simp; done) | (simp [*]; done)), (by first | exact H' | (subst hji29; exact H') | (simp only [← hji29] at H' ⊢; exact H')), ⟨by have := HK1.out; have := HK2.out; omega⟩, ⟨by (with_reducible repeat (first | apply Kd.R_alloc | apply Kd.R_drewN | apply Kd.R_drew)); exact HO_2.out⟩, ⟨by (with_reducible repeat (first | apply Kd.S_alloc | apply Kd.S_drewN | apply Kd.S_drew)); exact HO_3.out⟩, ⟨by (with_reducible repeat (first | refine blk_drewN ?_ _ | refine blk_drew ?_ | refine blk_alloc ?_ _)); exact BK522.out⟩, ⟨by (with_reducible repeat (first | refine blk_drewN ?_ _ | refine blk_drew ?_ | refine blk_alloc ?_ _)); exact BK530.out⟩, ⟨by repeat (first | (with_reducible first | exact HB.out | apply below_alloc | apply pw_below_drewN | apply below_drew1 | refine below_set ?_ GE522.out | refine below_set ?_ GE530.out) | exact HB.out)⟩⟩
                  ·rw [if_neg c31] at H
                   exact absurd H (by simp)
                 ·rw [if_neg c30] at H
                  exact absurd H (by simp)
                ·rw [if_neg c27] at H
                 exact absurd H (by simp)
               ·rw [if_neg c26] at H
                exact absurd H (by simp)
              ·rw [if_neg c25] at H
               exact absurd H (by simp)
            ·rw [if_neg c21] at H
             have c21b0 : decide (x9_2 < ((rd_T89 l0_0 x20_1).f3)) = false := decide_eq_false c21
             clear c21
             by_cases c41 : 0 ≤ x20_1
             ·rw [if_pos c41] at H
              have c41b0 : decide (0 ≤ x20_1) = true := decide_eq_true c41
              clear c41
              by_cases c42 : x20_1 < (x3_2.length : Int)
              ·rw [if_pos c42] at H
               have c42b0 : decide (x20_1 < (x3_2.length : Int)) = true := decide_eq_true c42
               clear c42
               replace H := Option.bind_eq_some_iff.mp H
               obtain ⟨t539, A430, H⟩ := H
               replace H : (if x20_1 < (x2_2.length : Int) then (impl_layout.l0 k2 (x2_2.set (x20_1 : Int).toNat x8_2) (x3_2.set (x20_1 : Int).toNat t539) l0_0 (l0_0.length : Int) (wrap64 (x20_1 + 1))) else (none)) = some (r1, r2, r3) := H
               have A43 := Aside0.mk A430
               clear A430
               obtain ⟨y540, hy540⟩ : ∃ y_ : List (List Int), y_ = (x3_2.set (x20_1 : Int).toNat t539) := ⟨_, rfl⟩
               replace H : (if x20_1 < (x2_2.length : Int) then (impl_layout.l0 k2 (x2_2.set (x20_1 : Int).toNat x8_2) y540 l0_0 (l0_0.length : Int) (wrap64 (x20_1 + 1))) else (none)) = some (r1, r2, r3) := by first | (rw [hy540]; with_reducible exact H) | (have H2_ := (Option.bind_some _ _).symm.trans H; rw [hy540]; with_reducible exact H2_) | (have H2_ := (Option.bind_some _ _).symm.trans H; with_reducible exact H2_) | with_reducible exact H | (rw [hy540]; exact H) | exact H
               have Ny540 := Aside0.mk hy540
               clear hy540
               by_cases c44 : x20_1 < (x2_2.length : Int)
               ·rw [if_pos c44] at H
                have c44b0 : decide (x20_1 < (x2_2.length : Int)) = true := decide_eq_true c44
                clear c44
                obtain ⟨y541, hy541⟩ : ∃ y_ : List Int, y_ = (x2_2.set (x20_1 : Int).toNat x8_2) := ⟨_, rfl⟩
                replace H : (impl_layout.l0 k2 y541 y540 l0_0 (l0_0.length : Int) (wrap64 (x20_1 + 1))) = some (r1, r2, r3) := by first | (rw [hy541]; with_reducible exact H) | (have H2_ := (Option.bind_some _ _).symm.trans H; rw [hy541]; with_reducible exact H2_) | (have H2_ := (Option.bind_some _ _).symm.trans H; with_reducible exact H2_) | with_reducible exact H | (rw [hy541]; exact H) | exact H
                have Ny541 := Aside0.mk hy541
                clear hy541
                have H' := Aside0.mk H
                clear H
                have hnb46 := NB530_522.out
                have hnc46 := NB522_530.out
                have hcz47_0 : wr.cell? ⟨gb530, 0, none⟩ = some (.int .i64 ((rd_T89 l0_0 x20_1).f0)) := (blk_cell BK530.out 0).trans rfl
                have hcz47_1 : wr.cell? ⟨gb530, 1, none⟩ = some (.int .i64 ((rd_T89 l0_0 x20_1).f1)) := (blk_cell BK530.out 1).trans rfl
                have hcz47_2 : wr.cell? ⟨gb530, 2, none⟩ = some (.string ((rd_T89 l0_0 x20_1).f2)) := (blk_cell BK530.out 2).trans rfl
                have hcz47_3 : wr.cell? ⟨gb530, 3, none⟩ = some (.int .i64 ((rd_T89 l0_0 x20_1).f3)) := (blk_cell BK530.out 3).trans rfl
                have hfz47_0 := blk_frozen BK530.out 0
                have hfz47_1 := blk_frozen BK530.out 1
                have hfz47_2 := blk_frozen BK530.out 2
                have hfz47_3 := blk_frozen BK530.out 3
                obtain ⟨Ao48, co48, eo48⟩ := Kd.S_slice HO_3.out
                subst eo48
                have p538 : 0 ≤ (x20_1 : Int) := of_decide_eq_true (by first | (with_reducible assumption) | assumption)
                have q538 : x20_1 < (x3_2.length : Int) := of_decide_eq_true (by first | (with_reducible assumption) | assumption)
                obtain ⟨ad538, A538_0, c538_0, e538, hx538_0, hl538_0, hi538_0⟩ := at_L8 (Kd.S_reads' HO_3.out).2.2 x20_1 p538 q538
                cases e538
                obtain ⟨ce538, hce538, hMe538, hcc538⟩ := Kd.S_get HO_3.out [] x20_1 p538 (by first | exact q538 | exact of_decide_eq_true (by first | (with_reducible assumption) | assumption) | (have e_ := (Kd.S_reads' HO_3.out).1; omega))
                obtain ⟨ve538_0, rfl, ge538_0⟩ := hMe538
                have hv538_0 := hcc538 0 _ rfl
                rw [Nat.add_zero, show ((Kd.slice 3 (Kd.int .i64))).sz = 1 from rfl, Nat.mul_one] at hv538_0
                replace hv538_0 := Option.some.inj (hv538_0.symm.trans hx538_0)
                rw [hv538_0] at ge538_0
                have HL538_0 := Aside0.mk (show Kd.R (Kd.int .i64) 3 _ _ _ _ (rd_L8 x3_2 x20_1) from ge538_0)
                clear hv538_0 ge538_0
                have HX538_0 := Aside0.mk hx538_0
                clear hcc538 hce538
                have HR538_0 := Aside0.mk hi538_0
                have HC538_0 := Aside0.mk hl538_0
                clear hi538_0 hl538_0
                replace p538 := eq_true p538
                replace q538 := eq_true q538
                obtain ⟨go49, co49, eo49, gb49, gl49, cl49, HG49⟩ := Kd.S_form HO_3.out (by have h_ : (x20_1 : Int) < ((x3_2.length : Int) : Int) := of_decide_eq_true (by first | (with_reducible assumption) | assumption); have h2_ : 0 ≤ (x20_1 : Int) := (of_decide_eq_true (by first | (with_reducible assumption) | assumption)); omega)
                (first | cases eo49 | (injection eo49 with ea_ en_ ec_; (first | subst ea_ | (injection ea_ with ea_; subst ea_)); subst ec_; clear en_))
                have GB49 := Aside0.mk gb49
                have GG49 := Aside0.mk HG49
                clear gb49 gl49 HG49
                (first | simp only [add_plain] at hx538_0 | skip)
                obtain ⟨oki49, ce49, hcl49, hM49, hcc49, _, hno49, hH49⟩ := Kd.S_elem (Kd.S_types (Kd.S_types HO_3.out BK522.out (by decide)) BK530.out (by decide)) [] (x20_1 : Int) (of_decide_eq_true (by first | (with_reducible assumption) | assumption)) (by have h_ : (x20_1 : Int) < ((x3_2.length : Int) : Int) := of_decide_eq_true (by first | (with_reducible assumption) | assumption); first | exact h_ | (have e_ := (Kd.S_reads' HO_3.out).1; omega) | simpa using h_)
                obtain ⟨ve49, rfl, ge49⟩ := hM49
                have hv49 := hcc49 0 _ rfl
                have hX49 := HX538_0.out
                (try simp only [add_plain] at hX49)
                (try simp only [Nat.add_zero] at hv49)
                (try rw [show ((Kd.slice 3 (Kd.int .i64))).sz = 1 from rfl, Nat.mul_one] at hv49)
                replace hv49 := Option.some.inj (hv49.symm.trans hX49)
                subst hv49
                clear hX49 hcc49 hcl49
                have UU49 := Aside0.mk (show Kd.R (Kd.int .i64) 3 _ w.heap.size oki49 (.slice A538_0 (rd_L8 x3_2 x20_1).length c538_0) (rd_L8 x3_2 x20_1) from ge49)
                have HH49 := Aside0.mk hH49
                have HO49_ := Aside0.mk hno49
                clear hH49 hno49 ge49
                go_wp2_with (first | ((with_reducible refine gate_callee (f := 57) rfl ?_); refine goesL_ (some 58) rfl rfl Try.func57 (by kernel_rfl) rfl #[.slice A538_0 (rd_L8 x3_2 x20_1).length c538_0] rfl (by (try simp only [List.map_toArray, List.map_cons, List.map_nil]); first | done | rfl) ?_; (with_reducible refine (slices_Reverse_int_int.calls k2 oki49 (.slice A538_0 (rd_L8 x3_2 x20_1).length c538_0) (rd_L8 x3_2 x20_1) t539 w _ ?side1 ?side2 A43.out).mono ?_); (case side1 => exact (by repeat (first | (with_reducible first | exact HB.out | apply below_alloc | apply pw_below_drewN | apply below_drew1 | refine below_set ?_ GE522.out | refine below_set ?_ GE530.out) | exact HB.out))); (case side2 => exact (by (with_reducible repeat (first | apply Kd.R_alloc | apply Kd.R_drewN | apply Kd.R_drew)); exact UU49.out)); rintro e w50 ⟨rfl, ho, hb, hk⟩; refine ⟨_, rfl, ?_⟩; have hh_ := Kd.H_step (by repeat (first | exact HH49.out | refine Kd.H_alloc ?_ _ | refine Kd.H_drewN ?_ _ | refine Kd.H_drew ?_)) (fun k_ _ hn_ hl_ => hk.2 k_ hl_ hn_); have n0_ := Aside0.mk (Kd.R_mono (Kd.R_step (Kd.R_tight2 rfl (by (with_reducible repeat (first | apply Kd.R_alloc | apply Kd.R_drewN | apply Kd.R_drew)); exact HO_2.out)) (fun k_ e_ hl_ => hk.2 k_ hl_ (fun hq_ => ((HO49_.out k_ hq_).1.1.1) e_.1))) (fun k_ e_ => e_.2)); have n1_ := Aside0.mk ((by have z_ := (Kd.S_mono (Kd.H_back hh_ (Kd.M_row (Kd.R_mono (Kd.R_tight rfl ho) (fun k_ e_ => UU49.out.1 k_ e_.symm))) (fun _ h_ => h_)) (fun k_ hk_ => hk_.1.1)); rw [← Ny540.out] at z_; exact z_)); have n2_ := Aside0.mk ((hk.2 gb522 (blk_lt (g := gb522) (o := .cells #[.slice (some ad529) l0_0.length c0_0] 60 (0, 0)) (by (with_reducible repeat (first | refine blk_drewN ?_ _ | refine blk_drew ?_ | refine blk_alloc ?_ _)); exact BK522.out)) (fun hq_ => ((HO49_.out _ hq_).1.1.2) rfl)).trans (by (with_reducible repeat (first | refine blk_drewN ?_ _ | refine blk_drew ?_ | refine blk_alloc ?_ _)); exact BK522.out)); have n3_ := Aside0.mk ((hk.2 gb530 (blk_lt (g := gb530) (o := .cells #[.int .i64 ((rd_T89 l0_0 x20_1).f0), .int .i64 ((rd_T89 l0_0 x20_1).f1), .string ((rd_T89 l0_0 x20_1).f2), .int .i64 ((rd_T89 l0_0 x20_1).f3)] 89 (0, 0)) (by (with_reducible repeat (first | refine blk_drewN ?_ _ | refine blk_drew ?_ | refine blk_alloc ?_ _)); exact BK530.out)) (fun hq_ => ((HO49_.out _ hq_).1.2) rfl)).trans (by (with_reducible repeat (first | refine blk_drewN ?_ _ | refine blk_drew ?_ | refine blk_alloc ?_ _)); exact BK530.out)); have n4_ := Aside0.mk (hb); clear HO_2; clear HO_3; clear BK522; clear BK530; clear HB; clear UU49; clear HH49; clear HO49_; clear HL538_0; have HO_2 := n0_; have HO_3 := n1_; have BK522 := n2_; have BK530 := n3_; have HB := n4_; clear n0_ n1_ n2_ n3_ n4_; clear ho hb hk hh_; have p45 : 0 ≤ (x20_1 : Int) := of_decide_eq_true (by first | (with_reducible assumption) | assumption); have q45 : (x20_1 : Int) < ((x2_2.length : Int) : Int) := of_decide_eq_true (by first | (with_reducible assumption) | assumption); obtain ⟨go45, co45, eo45, gb45, gl45, cl45, HG45⟩ := Kd.R_form HO_2.out (by omega); (first | cases eo45 | (injection eo45 with ea_ en_ ec_; (first | subst ea_ | (injection ea_ with ea_; subst ea_)); subst ec_; clear en_)); have GB45 := Aside0.mk gb45; have GG45 := Aside0.mk HG45; clear gb45 gl45 HG45; obtain ⟨hx45_0, hf45_0⟩ := Kd.R_celln 0 HO_2.out (x20_1 : Int) p45 q45; replace p45 := eq_true p45; replace q45 := eq_true q45; obtain ⟨hy51_, hz51_⟩ := Kd.R_celln 0 HO_2.out (x20_1 : Int) (of_decide_eq_true (by first | (with_reducible assumption) | assumption)) (of_decide_eq_true (by first | (with_reducible assumption) | assumption)); have HP51 := Kd.R_putg HO_2.out (x20_1 : Int) x8_2) | ((with_reducible refine gate_store (t := 3) (p := 62) rfl ?_); refine store_event (t := 3) (p := 62) (v := ?vo_w52) (w1 := (w50.setCell ⟨go45, (x20_1 : Int).toNat, none⟩ (.int .i64 x8_2))) ?hg ?ho ?hn ?hr ?_; (case ho => rfl); (case hg => rfl); (case hn => rfl); (case hr => first | (go_simp; done) | (go_simp; rfl)); intro w52 hw; have hg : w50.grownBy w52 (some go45) := (by rw [hw]; exact HP51.2); have hp_ : Kd.R (Kd.int .i64) 3 w52 w.heap.size (fun _ => True) (.slice (some ⟨go45, 0, none⟩) x2_2.length co45) y541 := (by rw [hw, Ny541.out]; exact HP51.1); clear HP51; have n0_ := Aside0.mk (hp_); have n1_ := Aside0.mk (Kd.S_after (v := (.slice (some ⟨go45, 0, none⟩) x2_2.length co45)) (v1 := (.slice (some ⟨go45, 0, none⟩) x2_2.length co45)) (ok := (fun _ => True)) (by (with_reducible repeat (first | apply Kd.S_alloc | apply Kd.S_drewN | apply Kd.S_drew)); exact Kd.S_mono HO_3.out (fun _ hk => ⟨trivial, (by first | exact hk | exact fun e_ => hk (e_.trans (own_len _ _ _ _ _)))⟩)) hg (.inl rfl)); have n2_ := Aside0.mk (blk_grown (g := gb522) (o := .cells #[.slice (some ad529) l0_0.length c0_0] 60 (0, 0)) (by (with_reducible repeat (first | refine blk_drewN ?_ _ | refine blk_drew ?_ | refine blk_alloc ?_ _)); exact BK522.out) hg (Kd.R_ne HO_2.out BK522.out (by decide))); have n3_ := Aside0.mk (blk_grown (g := gb530) (o := .cells #[.int .i64 ((rd_T89 l0_0 x20_1).f0), .int .i64 ((rd_T89 l0_0 x20_1).f1), .string ((rd_T89 l0_0 x20_1).f2), .int .i64 ((rd_T89 l0_0 x20_1).f3)] 89 (0, 0)) (by (with_reducible repeat (first | refine blk_drewN ?_ _ | refine blk_drew ?_ | refine blk_alloc ?_ _)); exact BK530.out) hg (Kd.R_ne HO_2.out BK530.out (by decide))); have n4_ := Aside0.mk ((by rw [hw]; exact below_set (HB.out) GB45.out : Below w.heap.size w w52)); clear HO_2; clear HO_3; clear BK522; clear BK530; clear HB; have HO_2 := n0_; have HO_3 := n1_; have BK522 := n2_; have BK530 := n3_; have HB := n4_; clear n0_ n1_ n2_ n3_ n4_; clear hg hw hp_))
                go_roundg k2
                case measure => have := HK1.out; have := HK2.out; omega
                case rel => exact ⟨(y541), (y540), (wrap64 (x20_1 + 1)), (by first | rfl | (simp; done) | (simp [*]; done)), H', ⟨by have := HK1.out; have := HK2.out; omega⟩, ⟨by (with_reducible repeat (first | apply Kd.R_alloc | apply Kd.R_drewN | apply Kd.R_drew)); exact HO_2.out⟩, ⟨by (with_reducible repeat (first | apply Kd.S_alloc | apply Kd.S_drewN | apply Kd.S_drew)); exact Kd.S_mono HO_3.out (fun _ hk => hk.2)⟩, ⟨by (with_reducible repeat (first | refine blk_drewN ?_ _ | refine blk_drew ?_ | refine blk_alloc ?_ _)); exact BK522.out⟩, ⟨by repeat (first | (with_reducible first | exact HB.out | apply below_alloc | apply pw_below_drewN | apply below_drew1 | refine below_set ?_ GE522.out | refine below_set ?_ GE530.out) | exact HB.out)⟩⟩
               ·rw [if_neg c44] at H
                exact absurd H (by simp)
              ·rw [if_neg c42] at H
               exact absurd H (by simp)
             ·rw [if_neg c41] at H
              exact absurd H (by simp)
         ·replace c16 := Bool.eq_false_iff.mpr c16
          subst c16
          have H1 : (some (([] : List Int), ([] : List (List Int)), false)) = some (r1, r2, r3) := by rw [if_neg (show ¬ (false = true) by decide)] at H; exact H
          clear H
          have H := H1
          clear H1
          simp only [Option.some.injEq, Prod.mk.injEq] at H
          obtain ⟨rfl, rfl, rfl⟩ := H
          have p529 : 0 ≤ (x20_1 : Int) := of_decide_eq_true (by first | (with_reducible assumption) | assumption)
          have q529 : x20_1 < (l0_0.length : Int) := of_decide_eq_true (by first | (with_reducible assumption) | assumption)
          obtain ⟨ad529, e529, hx529_0, hx529_1, hx529_2, hx529_3⟩ := at_T89 HR0_0.out x20_1 p529 q529
          cases e529
          replace hx529_0 := (HB.out.cell (World.block_lt_of_cell? w _ hx529_0)).trans hx529_0
          replace hx529_1 := (HB.out.cell (World.block_lt_of_cell? w _ hx529_1)).trans hx529_1
          replace hx529_2 := (HB.out.cell (World.block_lt_of_cell? w _ hx529_2)).trans hx529_2
          replace hx529_3 := (HB.out.cell (World.block_lt_of_cell? w _ hx529_3)).trans hx529_3
          replace p529 := eq_true p529
          replace q529 := eq_true q529
          go_wp2_with (first | ((with_reducible refine gate_dst (N := 7) rfl ?_); refine box_event ?hg (N := 7) ?hd (cs := #[.int .i64 0, .int .i64 0, .string (⟨#[]⟩ : ByteArray), .int .i64 0]) (t := 89) ?hr ?_; (case hd => rfl); (case hg => rfl); (case hr => first | (go_simp; done) | (go_simp; rfl)); intro gb530 hg w53 hbox hb; have n0_ := Aside0.mk (Kd.R_below (by (with_reducible repeat (first | apply Kd.R_alloc | apply Kd.R_drewN | apply Kd.R_drew)); exact HO_2.out) hb); have n1_ := Aside0.mk (Kd.S_below (by (with_reducible repeat (first | apply Kd.S_alloc | apply Kd.S_drewN | apply Kd.S_drew)); exact HO_3.out) hb); have n2_ := Aside0.mk (blk_below (g := gb522) (o := .cells #[.slice (some ad529) l0_0.length c0_0] 60 (0, 0)) (by (with_reducible repeat (first | refine blk_drewN ?_ _ | refine blk_drew ?_ | refine blk_alloc ?_ _)); exact BK522.out) hb); have n3_ := Aside0.mk (below_step (by repeat (first | (with_reducible first | exact HB.out | apply below_alloc | apply pw_below_drewN | apply below_drew1 | refine below_set ?_ GE522.out) | exact HB.out)) hb); have n4_ := Aside0.mk (hbox); have n5_ := Aside0.mk ((by rw [hg]; exact (below_size (by repeat (first | (with_reducible first | exact HB.out | apply below_alloc | apply pw_below_drewN | apply below_drew1 | refine below_set ?_ GE522.out) | exact HB.out))) : w.heap.size ≤ gb530)); have n6_ := Aside0.mk ((by rw [hg]; exact (below_size (by repeat (first | (with_reducible first | exact HB.out | apply below_alloc | apply pw_below_drewN | apply below_drew1 | refine below_set ?_ GE522.out) | exact HB.out))) : w.heap.size ≤ gb530)); have n7_ := Aside0.mk ((by rw [hg]; exact Nat.ne_of_lt (blk_lt (g := gb522) (o := .cells #[.slice (some ad529) l0_0.length c0_0] 60 (0, 0)) (by (with_reducible repeat (first | refine blk_drewN ?_ _ | refine blk_drew ?_ | refine blk_alloc ?_ _)); exact BK522.out)) : gb522 ≠ gb530)); have n8_ := Aside0.mk ((by rw [hg]; exact Nat.ne_of_gt (blk_lt (g := gb522) (o := .cells #[.slice (some ad529) l0_0.length c0_0] 60 (0, 0)) (by (with_reducible repeat (first | refine blk_drewN ?_ _ | refine blk_drew ?_ | refine blk_alloc ?_ _)); exact BK522.out)) : gb530 ≠ gb522)); clear HO_2; clear HO_3; clear BK522; clear HB; have HO_2 := n0_; have HO_3 := n1_; have BK522 := n2_; have HB := n3_; have BK530 := n4_; have GW530 := n5_; have GE530 := n6_; have NB522_530 := n7_; have NB530_522 := n8_; clear n0_ n1_ n2_ n3_ n4_ n5_ n6_ n7_ n8_; clear hb hbox hg; have hnb54 := NB530_522.out; have hnc54 := NB522_530.out; have hcz55_0 : w53.cell? ⟨gb530, 0, none⟩ = some (.int .i64 0) := (blk_cell BK530.out 0).trans rfl; have hcz55_1 : w53.cell? ⟨gb530, 1, none⟩ = some (.int .i64 0) := (blk_cell BK530.out 1).trans rfl; have hcz55_2 : w53.cell? ⟨gb530, 2, none⟩ = some (.string (⟨#[]⟩ : ByteArray)) := (blk_cell BK530.out 2).trans rfl; have hcz55_3 : w53.cell? ⟨gb530, 3, none⟩ = some (.int .i64 0) := (blk_cell BK530.out 3).trans rfl; have hfz55_0 := blk_frozen BK530.out 0; have hfz55_1 := blk_frozen BK530.out 1; have hfz55_2 := blk_frozen BK530.out 2; have hfz55_3 := blk_frozen BK530.out 3) | ((with_reducible refine gate_callee (f := 56) rfl ?_); refine goesL_ (some 26) rfl rfl Try.func56 (by kernel_rfl) rfl #[.agg #[.int .i64 ((rd_T89 l0_0 x20_1).f0), .int .i64 ((rd_T89 l0_0 x20_1).f1), .string ((rd_T89 l0_0 x20_1).f2), .int .i64 ((rd_T89 l0_0 x20_1).f3)]] rfl (by (try simp only [List.map_toArray, List.map_cons, List.map_nil]); first | done | rfl | (simp only [List.length_drop, List.length_take]; rfl)) ?_; (with_reducible refine (impl_validAtom.calls k1 ((rd_T89 l0_0 x20_1).f0) ((rd_T89 l0_0 x20_1).f1) ((rd_T89 l0_0 x20_1).f2) ((rd_T89 l0_0 x20_1).f3) false _ A15.out).mono ?_); rintro e w56 ⟨rfl, hb⟩; refine ⟨_, rfl, ?_⟩; have n0_ := Aside0.mk (Kd.R_below (by (with_reducible repeat (first | apply Kd.R_alloc | apply Kd.R_drewN | apply Kd.R_drew)); exact (Kd.R_mono (Kd.R_far (p := ⟨gb530, 3, none⟩) (Kd.R_far (p := ⟨gb530, 2, none⟩) (Kd.R_far (p := ⟨gb530, 1, none⟩) (Kd.R_far (p := ⟨gb530, 0, none⟩) (Kd.R_types HO_2.out BK530.out (by decide)) (fun _ hk => hk.2) (.int .i64 ((rd_T89 l0_0 x20_1).f0))) (fun _ hk => hk.2) (.int .i64 ((rd_T89 l0_0 x20_1).f1))) (fun _ hk => hk.2) (.string ((rd_T89 l0_0 x20_1).f2))) (fun _ hk => hk.2) (.int .i64 ((rd_T89 l0_0 x20_1).f3))) (fun _ h_ => h_.1))) hb); have n1_ := Aside0.mk (Kd.S_below (by (with_reducible repeat (first | apply Kd.S_alloc | apply Kd.S_drewN | apply Kd.S_drew)); exact (Kd.S_mono (Kd.S_far (p := ⟨gb530, 3, none⟩) (Kd.S_far (p := ⟨gb530, 2, none⟩) (Kd.S_far (p := ⟨gb530, 1, none⟩) (Kd.S_far (p := ⟨gb530, 0, none⟩) (Kd.S_types HO_3.out BK530.out (by decide)) (fun _ hk => hk.2) (.int .i64 ((rd_T89 l0_0 x20_1).f0))) (fun _ hk => hk.2) (.int .i64 ((rd_T89 l0_0 x20_1).f1))) (fun _ hk => hk.2) (.string ((rd_T89 l0_0 x20_1).f2))) (fun _ hk => hk.2) (.int .i64 ((rd_T89 l0_0 x20_1).f3))) (fun _ h_ => h_.1))) hb); have n2_ := Aside0.mk (blk_below (g := gb522) (o := .cells #[.slice (some ad529) l0_0.length c0_0] 60 (0, 0)) (by (with_reducible repeat (first | refine blk_drewN ?_ _ | refine blk_drew ?_ | refine blk_alloc ?_ _)); refine blk_far ?_ NB522_530.out _; (with_reducible repeat (first | refine blk_drewN ?_ _ | refine blk_drew ?_ | refine blk_alloc ?_ _)); refine blk_far ?_ NB522_530.out _; (with_reducible repeat (first | refine blk_drewN ?_ _ | refine blk_drew ?_ | refine blk_alloc ?_ _)); refine blk_far ?_ NB522_530.out _; (with_reducible repeat (first | refine blk_drewN ?_ _ | refine blk_drew ?_ | refine blk_alloc ?_ _)); refine blk_far ?_ NB522_530.out _; (with_reducible repeat (first | refine blk_drewN ?_ _ | refine blk_drew ?_ | refine blk_alloc ?_ _)); exact BK522.out) hb); have n3_ := Aside0.mk (blk_below (g := gb530) (o := .cells #[.int .i64 ((rd_T89 l0_0 x20_1).f0), .int .i64 ((rd_T89 l0_0 x20_1).f1), .string ((rd_T89 l0_0 x20_1).f2), .int .i64 ((rd_T89 l0_0 x20_1).f3)] 89 (0, 0)) (by (with_reducible repeat (first | refine blk_drewN ?_ _ | refine blk_drew ?_ | refine blk_alloc ?_ _)); refine blk_put (cs := #[.int .i64 ((rd_T89 l0_0 x20_1).f0), .int .i64 ((rd_T89 l0_0 x20_1).f1), .string ((rd_T89 l0_0 x20_1).f2), .int .i64 0]) ?_ 3 _ rfl; (with_reducible repeat (first | refine blk_drewN ?_ _ | refine blk_drew ?_ | refine blk_alloc ?_ _)); refine blk_put (cs := #[.int .i64 ((rd_T89 l0_0 x20_1).f0), .int .i64 ((rd_T89 l0_0 x20_1).f1), .string (⟨#[]⟩ : ByteArray), .int .i64 0]) ?_ 2 _ rfl; (with_reducible repeat (first | refine blk_drewN ?_ _ | refine blk_drew ?_ | refine blk_alloc ?_ _)); refine blk_put (cs := #[.int .i64 ((rd_T89 l0_0 x20_1).f0), .int .i64 0, .string (⟨#[]⟩ : ByteArray), .int .i64 0]) ?_ 1 _ rfl; (with_reducible repeat (first | refine blk_drewN ?_ _ | refine blk_drew ?_ | refine blk_alloc ?_ _)); refine blk_put (cs := #[.int .i64 0, .int .i64 0, .string (⟨#[]⟩ : ByteArray), .int .i64 0]) ?_ 0 _ rfl; (with_reducible repeat (first | refine blk_drewN ?_ _ | refine blk_drew ?_ | refine blk_alloc ?_ _)); exact BK530.out) hb); have n4_ := Aside0.mk (below_step (by repeat (first | (with_reducible first | exact HB.out | apply below_alloc | apply pw_below_drewN | apply below_drew1 | refine below_set ?_ GE522.out | refine below_set ?_ GE530.out) | exact HB.out)) hb); clear HO_2; clear HO_3; clear BK522; clear BK530; clear HB; have HO_2 := n0_; have HO_3 := n1_; have BK522 := n2_; have BK530 := n3_; have HB := n4_; clear n0_ n1_ n2_ n3_ n4_; (try clear hb); (try clear hb2); (try clear hk); (try clear hi)))
          go_ret3
          exact ⟨_, _, by first | rfl | (simp [errW_none, errW_some] <;> rfl) | (simp [*, errW_none, errW_some] <;> rfl), by first | exact Kd.R_nil _ _ _ _ _ | exact Kd.N_nil _ _ _ _ _ | exact Kd.V_nil _ _ _ _ _ | exact Kd.Q_nil _ _ _ _ _ | exact Kd.S_nil _ _ _ _ _, by first | exact Kd.S_nil _ _ _ _ _ | exact Kd.N_nil _ _ _ _ _ | exact Kd.V_nil _ _ _ _ _ | exact Kd.Q_nil _ _ _ _ _ | exact Kd.R_nil _ _ _ _ _, by repeat (first | (with_reducible first | exact HB.out | apply below_alloc | apply pw_below_drewN | apply below_drew1 | refine below_set ?_ GE522.out | refine below_set ?_ GE530.out) | exact HB.out)⟩
        ·rw [if_neg c14] at H
         exact absurd H (by simp)
       ·rw [if_neg c13] at H
        exact absurd H (by simp)
      ·rw [if_neg c12] at H
       have c12b0 : decide (x20_1 < (l0_0.length : Int)) = false := decide_eq_false c12
       clear c12
       simp only [Option.some.injEq, Prod.mk.injEq] at H
       obtain ⟨rfl, rfl, rfl⟩ := H
       go_wp2
       go_ret3
       exact ⟨_, _, by first | rfl | (simp [errW_none, errW_some] <;> rfl) | (simp [*, errW_none, errW_some] <;> rfl), by (with_reducible repeat (first | apply Kd.R_alloc | apply Kd.R_drewN | apply Kd.R_drew)); exact HO_2.out, by (with_reducible repeat (first | apply Kd.S_alloc | apply Kd.S_drewN | apply Kd.S_drew)); exact HO_3.out, by repeat (first | (with_reducible first | exact HB.out | apply below_alloc | apply pw_below_drewN | apply below_drew1 | refine below_set ?_ GE522.out) | exact HB.out)⟩
   ·rw [if_neg c4] at H
    exact absurd H (by simp)
  ·rw [if_neg c3] at H
   exact absurd H (by simp)
 ·rw [if_neg c2] at H
  exact absurd H (by simp)

end Go.Proofs.Ytgaibeckblmbbaa.P
