-- Printed for this claim by a small program of this session (kprint.py), which drives the kit's print program.
import Derived.Test.YtgaibeckblmbbaaP0
import Derived.Test.YtgaibeckblmbbaaPImplIn
import Derived.Test.YtgaibeckblmbbaaPImplLayout
namespace Go.Proofs.Ytgaibeckblmbbaa.P
open Go.RowKit Go.Proofs.YtgaibeckblmbbaaW.PrintWords Go.Proofs.YtgaibeckblmbbaaW.PrintLast Go.Proofs.YtgaibeckblmbbaaW.PrintMore
attribute [local go_sem] max2_int min2_int max_two min_two max_three min_three max_four min_four
set_option linter.unusedVariables false
set_option linter.unusedSimpArgs false

/-! ### impl_ValidValue: function 34 -/
mutual
def impl_ValidValue.j0 : Nat → Int → List (List Int) → Bool → List (S89) → Option (Bool)
 | 0, _, _, _, _ => none
 | k + 1, x3, x5, x34, x543000 => if x34 = true then (some false) else (if 0 ≤ x3 then (if (x3 : Int).toNat ≤ 35184372088832 then (impl_ValidValue.l0 k x5 (List.replicate (x3 : Int).toNat 0) (wrap64 (x3 - 1)) x543000) else (none)) else (none))
def impl_ValidValue.l0 : Nat → List (List Int) → List Int → Int → List (S89) → Option (Bool)
 | 0, _, _, _, _ => none
 | k + 1, x5, x7, x8, x543000 => if x8 ≥ 0 then (if 0 ≤ x8 then (if x8 < (x7.length : Int) then (if (rd x7 x8) > 12 then (some false) else (if x8 < (x5.length : Int) then (impl_ValidValue.l1 k x5 x7 x8 (⟨#[]⟩ : ByteArray) (rd_L8 x5 x8) ((rd_L8 x5 x8).length : Int) 0 x543000) else (none))) else (none)) else (none)) else (some true)
def impl_ValidValue.l1 : Nat → List (List Int) → List Int → Int → ByteArray → List Int → Int → Int → List (S89) → Option (Bool)
 | 0, _, _, _, _, _, _, _, _ => none
 | k + 1, x5, x7, x8, x9, x51, x52, x53, x543000 => if x53 < x52 then (if 0 ≤ x53 then (if x53 < (x51.length : Int) then (if 0 ≤ x8 then (if x8 < (x7.length : Int) then (if 0 ≤ (rd x51 x53) then (if (rd x51 x53) < (x7.length : Int) then ((some (x7.set ((rd x51 x53) : Int).toNat (wrap64 ((rd x7 x8) + 1)) : List Int)).bind fun y559 => (if x8 < (x543000.length : Int) then (if ((rd_T89 x543000 x8).f0) = 5 then (impl_ValidValue.j3 k x5 y559 x8 x9 x53 (rd x51 x53) x51 x52 x53 ((Int.tmod x53 2) == 0) x543000) else (impl_ValidValue.j3 k x5 y559 x8 x9 x53 (rd x51 x53) x51 x52 x53 false x543000)) else (none))) else (none)) else (none)) else (none)) else (none)) else (none)) else (none)) else (impl_ValidValue.l0 k x5 x7 (wrap64 (x8 - 1)) x543000)
def impl_ValidValue.j3 : Nat → List (List Int) → List Int → Int → ByteArray → Int → Int → List Int → Int → Int → Bool → List (S89) → Option (Bool)
 | 0, _, _, _, _, _, _, _, _, _, _, _ => none
 | k + 1, x5, x7, x8, x9, x10, x11, x51, x52, x53, x77, x543000 => if x77 = true then (if 0 ≤ x11 then (if x11 < (x543000.length : Int) then (if ((rd_T89 x543000 x11).f0) = 3 then (if x10 > 0 then (if ((Op.bytesLess x9.toList (((rd_T89 x543000 x11).f2).toList)) = true) then (impl_ValidValue.l1 k x5 x7 x8 ((rd_T89 x543000 x11).f2) x51 x52 (wrap64 (x53 + 1)) x543000) else (some false)) else (impl_ValidValue.l1 k x5 x7 x8 ((rd_T89 x543000 x11).f2) x51 x52 (wrap64 (x53 + 1)) x543000)) else (some false)) else (none)) else (none)) else (impl_ValidValue.l1 k x5 x7 x8 x9 x51 x52 (wrap64 (x53 + 1)) x543000)
end
def impl_ValidValue.f (k : Nat) (l0_0 : List (S89)) : Option (Bool) := (impl_in.f (l0_0.length : Int) 1 300).bind fun t543 => (if t543 = true then ((impl_layout.f k l0_0).bind fun bt544 => (if bt544.2.2 = true then (if 0 ≤ (wrap64 ((l0_0.length : Int) - 1)) then (if (wrap64 ((l0_0.length : Int) - 1)) < (bt544.1.length : Int) then (impl_ValidValue.j0 k (l0_0.length : Int) bt544.2.1 ((rd bt544.1 (wrap64 ((l0_0.length : Int) - 1))) != 0) l0_0) else (none)) else (none)) else (impl_ValidValue.j0 k (l0_0.length : Int) bt544.2.1 true l0_0))) else (some false))
theorem impl_ValidValue.mono_l : ∀ k, (∀ y0 y1 y2 y3, LeO (impl_ValidValue.j0 k y0 y1 y2 y3) (impl_ValidValue.j0 (k + 1) y0 y1 y2 y3)) ∧ (∀ y0 y1 y2 y3, LeO (impl_ValidValue.l0 k y0 y1 y2 y3) (impl_ValidValue.l0 (k + 1) y0 y1 y2 y3)) ∧ (∀ y0 y1 y2 y3 y4 y5 y6 y7, LeO (impl_ValidValue.l1 k y0 y1 y2 y3 y4 y5 y6 y7) (impl_ValidValue.l1 (k + 1) y0 y1 y2 y3 y4 y5 y6 y7)) ∧ (∀ y0 y1 y2 y3 y4 y5 y6 y7 y8 y9 y10, LeO (impl_ValidValue.j3 k y0 y1 y2 y3 y4 y5 y6 y7 y8 y9 y10) (impl_ValidValue.j3 (k + 1) y0 y1 y2 y3 y4 y5 y6 y7 y8 y9 y10))
 | 0 => ⟨fun _ _ _ _ r h => by simp [impl_ValidValue.j0] at h, fun _ _ _ _ r h => by simp [impl_ValidValue.l0] at h, fun _ _ _ _ _ _ _ _ r h => by simp [impl_ValidValue.l1] at h, fun _ _ _ _ _ _ _ _ _ _ _ r h => by simp [impl_ValidValue.j3] at h⟩
 | k + 1 => by
  obtain ⟨ih0, ih1, ih2, ih3⟩ := impl_ValidValue.mono_l k
  refine ⟨?_, ?_, ?_, ?_⟩
  ·intro y0 y1 y2 y3
   unfold impl_ValidValue.j0
   repeat' first
   | (with_reducible exact ih0 _ _ _ _)
   | (with_reducible exact ih1 _ _ _ _)
   | (with_reducible exact ih2 _ _ _ _ _ _ _ _)
   | (with_reducible exact ih3 _ _ _ _ _ _ _ _ _ _ _)
   | (with_reducible exact impl_layout.mono _ _)
   | (with_reducible exact LeO.refl _)
   | (with_reducible exact LeO.none _)
   | (with_reducible refine LeO.ite ?_ ?_)
   | (with_reducible refine LeO.bind ?_ (fun _ => ?_))
   | exact ih0 _ _ _ _
   | exact ih1 _ _ _ _
   | exact ih2 _ _ _ _ _ _ _ _
   | exact ih3 _ _ _ _ _ _ _ _ _ _ _
   | exact impl_layout.mono _ _
   | exact LeO.none _
   | refine LeO.ite ?_ ?_
   | refine LeO.bind ?_ (fun _ => ?_)
  ·intro y0 y1 y2 y3
   unfold impl_ValidValue.l0
   repeat' first
   | (with_reducible exact ih0 _ _ _ _)
   | (with_reducible exact ih1 _ _ _ _)
   | (with_reducible exact ih2 _ _ _ _ _ _ _ _)
   | (with_reducible exact ih3 _ _ _ _ _ _ _ _ _ _ _)
   | (with_reducible exact impl_layout.mono _ _)
   | (with_reducible exact LeO.refl _)
   | (with_reducible exact LeO.none _)
   | (with_reducible refine LeO.ite ?_ ?_)
   | (with_reducible refine LeO.bind ?_ (fun _ => ?_))
   | exact ih0 _ _ _ _
   | exact ih1 _ _ _ _
   | exact ih2 _ _ _ _ _ _ _ _
   | exact ih3 _ _ _ _ _ _ _ _ _ _ _
   | exact impl_layout.mono _ _
   | exact LeO.none _
   | refine LeO.ite ?_ ?_
   | refine LeO.bind ?_ (fun _ => ?_)
  ·intro y0 y1 y2 y3 y4 y5 y6 y7
   unfold impl_ValidValue.l1
   repeat' first
   | (with_reducible exact ih0 _ _ _ _)
   | (with_reducible exact ih1 _ _ _ _)
   | (with_reducible exact ih2 _ _ _ _ _ _ _ _)
   | (with_reducible exact ih3 _ _ _ _ _ _ _ _ _ _ _)
   | (with_reducible exact impl_layout.mono _ _)
   | (with_reducible exact LeO.refl _)
   | (with_reducible exact LeO.none _)
   | (with_reducible refine LeO.ite ?_ ?_)
   | (with_reducible refine LeO.bind ?_ (fun _ => ?_))
   | exact ih0 _ _ _ _
   | exact ih1 _ _ _ _
   | exact ih2 _ _ _ _ _ _ _ _
   | exact ih3 _ _ _ _ _ _ _ _ _ _ _
   | exact impl_layout.mono _ _
   | exact LeO.none _
   | refine LeO.ite ?_ ?_
   | refine LeO.bind ?_ (fun _ => ?_)
  ·intro y0 y1 y2 y3 y4 y5 y6 y7 y8 y9 y10
   unfold impl_ValidValue.j3
   repeat' first
   | (with_reducible exact ih0 _ _ _ _)
   | (with_reducible exact ih1 _ _ _ _)
   | (with_reducible exact ih2 _ _ _ _ _ _ _ _)
   | (with_reducible exact ih3 _ _ _ _ _ _ _ _ _ _ _)
   | (with_reducible exact impl_layout.mono _ _)
   | (with_reducible exact LeO.refl _)
   | (with_reducible exact LeO.none _)
   | (with_reducible refine LeO.ite ?_ ?_)
   | (with_reducible refine LeO.bind ?_ (fun _ => ?_))
   | exact ih0 _ _ _ _
   | exact ih1 _ _ _ _
   | exact ih2 _ _ _ _ _ _ _ _
   | exact ih3 _ _ _ _ _ _ _ _ _ _ _
   | exact impl_layout.mono _ _
   | exact LeO.none _
   | refine LeO.ite ?_ ?_
   | refine LeO.bind ?_ (fun _ => ?_)
theorem impl_ValidValue.mono : ∀ a0 k, LeO (impl_ValidValue.f k a0) (impl_ValidValue.f (k + 1) a0) := by
 intro a0 k
 obtain ⟨ih0, ih1, ih2, ih3⟩ := impl_ValidValue.mono_l k
 unfold impl_ValidValue.f
 repeat' first
   | (with_reducible exact ih0 _ _ _ _)
   | (with_reducible exact ih1 _ _ _ _)
   | (with_reducible exact ih2 _ _ _ _ _ _ _ _)
   | (with_reducible exact ih3 _ _ _ _ _ _ _ _ _ _ _)
   | (with_reducible exact impl_layout.mono _ _)
   | (with_reducible exact LeO.refl _)
   | (with_reducible exact LeO.none _)
   | (with_reducible refine LeO.ite ?_ ?_)
   | (with_reducible refine LeO.bind ?_ (fun _ => ?_))
   | exact ih0 _ _ _ _
   | exact ih1 _ _ _ _
   | exact ih2 _ _ _ _ _ _ _ _
   | exact ih3 _ _ _ _ _ _ _ _ _ _ _
   | exact impl_layout.mono _ _
   | exact LeO.none _
   | refine LeO.ite ?_ ?_
   | refine LeO.bind ?_ (fun _ => ?_)
set_option maxHeartbeats 8000000 in
set_option maxRecDepth 100000 in
theorem impl_ValidValue.calls (k : Nat) (A0_0 : Option Addr) (c0_0 : Nat) (l0_0 : List (S89)) (r : Bool) (w : World) (hr0_0 : Kd.C k89 w A0_0 l0_0.length l0_0) (hc0_0 : l0_0.length ≤ c0_0) (h : impl_ValidValue.f k l0_0 = some r) :
  Calls Try.prog 34 #[.agg #[.slice A0_0 l0_0.length c0_0]] w fun e w' => e = .returned (.bool r) ∧ Below w.heap.size w w' := by
 have hu60 := Try.underlying60
 have hu89 := Try.underlying89
 have HR0_0 := Aside0.mk hr0_0
 have HC0_0 := Aside0.mk hc0_0
 clear hr0_0 hc0_0
 have HB := Aside0.mk (Below.refl w.heap.size w)
 have H : ((impl_in.f (l0_0.length : Int) 1 300).bind fun t543 => (if t543 = true then ((impl_layout.f k l0_0).bind fun bt544 => (if bt544.2.2 = true then (if 0 ≤ (wrap64 ((l0_0.length : Int) - 1)) then (if (wrap64 ((l0_0.length : Int) - 1)) < (bt544.1.length : Int) then (impl_ValidValue.j0 k (l0_0.length : Int) bt544.2.1 ((rd bt544.1 (wrap64 ((l0_0.length : Int) - 1))) != 0) l0_0) else (none)) else (none)) else (impl_ValidValue.j0 k (l0_0.length : Int) bt544.2.1 true l0_0))) else (some false))) = some r := h
 clear h
 replace H := Option.bind_eq_some_iff.mp H
 obtain ⟨t543, A20, H⟩ := H
 replace H : (if t543 = true then ((impl_layout.f k l0_0).bind fun bt544 => (if bt544.2.2 = true then (if 0 ≤ (wrap64 ((l0_0.length : Int) - 1)) then (if (wrap64 ((l0_0.length : Int) - 1)) < (bt544.1.length : Int) then (impl_ValidValue.j0 k (l0_0.length : Int) bt544.2.1 ((rd bt544.1 (wrap64 ((l0_0.length : Int) - 1))) != 0) l0_0) else (none)) else (none)) else (impl_ValidValue.j0 k (l0_0.length : Int) bt544.2.1 true l0_0))) else (some false)) = some r := H
 have A2 := Aside0.mk A20
 clear A20
 by_cases c3 : t543 = true
 ·subst c3
  have H1 : ((impl_layout.f k l0_0).bind fun bt544 => (if bt544.2.2 = true then (if 0 ≤ (wrap64 ((l0_0.length : Int) - 1)) then (if (wrap64 ((l0_0.length : Int) - 1)) < (bt544.1.length : Int) then (impl_ValidValue.j0 k (l0_0.length : Int) bt544.2.1 ((rd bt544.1 (wrap64 ((l0_0.length : Int) - 1))) != 0) l0_0) else (none)) else (none)) else (impl_ValidValue.j0 k (l0_0.length : Int) bt544.2.1 true l0_0))) = some r := by rw [if_pos rfl] at H; exact H
  clear H
  have H := H1
  clear H1
  replace H := Option.bind_eq_some_iff.mp H
  obtain ⟨⟨t544, t547, t550⟩, A40, H⟩ := H
  replace H : (if t550 = true then (if 0 ≤ (wrap64 ((l0_0.length : Int) - 1)) then (if (wrap64 ((l0_0.length : Int) - 1)) < (t544.length : Int) then (impl_ValidValue.j0 k (l0_0.length : Int) t547 ((rd t544 (wrap64 ((l0_0.length : Int) - 1))) != 0) l0_0) else (none)) else (none)) else (impl_ValidValue.j0 k (l0_0.length : Int) t547 true l0_0)) = some r := H
  have A4 := Aside0.mk A40
  clear A40
  have HC5 := Aside0.mk H
  clear H
  go_enter Try.func34, Try.ntmps34
  go_upto_region 5 with (first | ((with_reducible refine gate_dst (N := 1) rfl ?_); refine box_event ?hg (N := 1) ?hd (cs := #[.slice A0_0 l0_0.length c0_0]) (t := 60) ?hr ?_; (case hd => rfl); (case hg => rfl); (case hr => first | (go_simp; done) | (go_simp; rfl)); intro gb542 hg w6 hbox hb; have n0_ := Aside0.mk (below_step (by repeat (first | (with_reducible first | exact HB.out | apply below_alloc | apply pw_below_drewN | apply below_drew1) | exact HB.out)) hb); have n1_ := Aside0.mk (hbox); have n2_ := Aside0.mk ((by rw [hg]; exact (below_size (by repeat (first | (with_reducible first | exact HB.out | apply below_alloc | apply pw_below_drewN | apply below_drew1) | exact HB.out))) : w.heap.size ≤ gb542)); have n3_ := Aside0.mk ((by rw [hg]; exact (below_size (by repeat (first | (with_reducible first | exact HB.out | apply below_alloc | apply pw_below_drewN | apply below_drew1) | exact HB.out))) : w.heap.size ≤ gb542)); clear HB; have HB := n0_; have BK542 := n1_; have GW542 := n2_; have GE542 := n3_; clear n0_ n1_ n2_ n3_; clear hb hbox hg; have hcz7_0 : w6.cell? ⟨gb542, 0, none⟩ = some (.slice A0_0 l0_0.length c0_0) := (blk_cell BK542.out 0).trans rfl; have hfz7_0 := blk_frozen BK542.out 0) | ((with_reducible refine gate_callee (f := 37) rfl ?_); refine goesL_ (some 17) rfl rfl Try.func37 (by kernel_rfl) rfl #[.int .i64 (l0_0.length : Int), .int .i64 1, .int .i64 300] rfl (by (try simp only [List.map_toArray, List.map_cons, List.map_nil]); first | done | rfl | (simp only [List.length_drop, List.length_take]; rfl)) ?_; (with_reducible refine (impl_in.calls (l0_0.length : Int) 1 300 true _ A2.out).mono ?_); rintro e w' ⟨rfl, ⟨nd, rfl⟩⟩; refine ⟨_, rfl, ?_⟩) | ((with_reducible refine gate_callee (f := 50) rfl ?_); refine goesL_ (some 21) rfl rfl Try.func50 (by kernel_rfl) rfl #[.agg #[.slice A0_0 l0_0.length c0_0]] rfl (by (try simp only [List.map_toArray, List.map_cons, List.map_nil]); first | done | rfl | (simp only [List.length_drop, List.length_take]; rfl)) ?_; (with_reducible refine (impl_layout.calls k _ _ l0_0 t544 t547 t550 _ ?side1 ?side2 A4.out).mono ?_); (case side1 => repeat (first | exact (Kd.C_below HR0_0.out (by repeat (first | (with_reducible first | exact HB.out | apply below_alloc | apply pw_below_drewN | apply below_drew1 | refine below_set ?_ GE542.out) | exact HB.out))) | (with_reducible refine Kd.C_alloc ?_ _) | (with_reducible refine Kd.C_drewN ?_ _) | (with_reducible refine Kd.C_drew ?_))); (case side2 => exact HC0_0.out); rintro e w8 ⟨v545, v548, rfl, ho0, ho1, hb⟩; refine ⟨_, rfl, ?_⟩; have n0_ := Aside0.mk (Kd.R_lower ho0 (below_size (by repeat (first | (with_reducible first | exact HB.out | apply below_alloc | apply pw_below_drewN | apply below_drew1 | refine below_set ?_ GE542.out) | exact HB.out)))); have n1_ := Aside0.mk (Kd.S_lower ho1 (below_size (by repeat (first | (with_reducible first | exact HB.out | apply below_alloc | apply pw_below_drewN | apply below_drew1 | refine below_set ?_ GE542.out) | exact HB.out)))); have n2_ := Aside0.mk (blk_below (g := gb542) (o := .cells #[.slice A0_0 l0_0.length c0_0] 60 (0, 0)) (by (with_reducible repeat (first | refine blk_drewN ?_ _ | refine blk_drew ?_ | refine blk_alloc ?_ _)); exact BK542.out) hb); have n3_ := Aside0.mk (below_step (by repeat (first | (with_reducible first | exact HB.out | apply below_alloc | apply pw_below_drewN | apply below_drew1 | refine below_set ?_ GE542.out) | exact HB.out)) hb); clear BK542; clear HB; have HO546 := n0_; have HO549 := n1_; have BK542 := n2_; have HB := n3_; clear n0_ n1_ n2_ n3_; (try clear hb); (try clear hb2); (try clear hk); (try clear hi); (try clear ho0); (try clear ho1)))
  (try simp only [Act.put, List.setIfInBounds_toArray, List.set_cons_zero, List.set_cons_succ])
  go_cut [34] (fun v34 wc => ∃ (kq : Nat) (x34_4 : Bool), v34 = .bool x34_4 ∧ Aside0 (impl_ValidValue.j0 kq (l0_0.length : Int) t547 x34_4 l0_0 = some r) ∧ Aside0 (kq ≤ k) ∧ Aside0 (Kd.S (Kd.slice 3 (Kd.int .i64)) 70 wc w.heap.size (fun _ => True) v548 t547) ∧ Aside0 (wc.heap[gb542]? = some (.cells #[(.slice A0_0 l0_0.length c0_0)] 60 (0, 0))) ∧ Aside0 (Below w.heap.size w wc))
  case first =>
   have H := HC5.out
   clear HC5
   by_cases c9 : t550 = true
   ·subst c9
    have H1 : (if 0 ≤ (wrap64 ((l0_0.length : Int) - 1)) then (if (wrap64 ((l0_0.length : Int) - 1)) < (t544.length : Int) then (impl_ValidValue.j0 k (l0_0.length : Int) t547 ((rd t544 (wrap64 ((l0_0.length : Int) - 1))) != 0) l0_0) else (none)) else (none)) = some r := by rw [if_pos rfl] at H; exact H
    clear H
    have H := H1
    clear H1
    obtain ⟨ji10, hji10⟩ : ∃ j_ : Int, (wrap64 ((l0_0.length : Int) - 1)) = j_ := ⟨_, rfl⟩
    replace H : (if 0 ≤ (ji10) then (if (ji10) < (t544.length : Int) then (impl_ValidValue.j0 k (l0_0.length : Int) t547 ((rd t544 (ji10)) != 0) l0_0) else (none)) else (none)) = some r := by first | (rw [hji10] at H; exact H) | (simp only [hji10] at H ⊢; exact H)
    have hji10w : (IntKind.i64.wrap ((l0_0.length : Int) - 1)) = ji10 := (i64_w _).trans hji10
    by_cases c11 : 0 ≤ (ji10)
    ·rw [if_pos c11] at H
     have c11b0 : decide (0 ≤ (ji10)) = true := decide_eq_true c11
     clear c11
     (first | rw [c11b0] | (simp only [i64_w, i32_w]; rw [c11b0]) | skip)
     by_cases c12 : (ji10) < (t544.length : Int)
     ·rw [if_pos c12] at H
      have c12b0 : decide ((ji10) < (t544.length : Int)) = true := decide_eq_true c12
      clear c12
      have H' := Aside0.mk H
      clear H
      obtain ⟨Ao13, co13, eo13⟩ := Kd.R_slice HO546.out
      subst eo13
      have p551 : 0 ≤ ((ji10) : Int) := of_decide_eq_true (by first | (with_reducible assumption) | assumption)
      have q551 : (ji10) < (t544.length : Int) := of_decide_eq_true (by first | (with_reducible assumption) | assumption)
      obtain ⟨ad551, e551, hx551_0⟩ := Kd.at_int (Kd.R_reads' HO546.out).2.2 (ji10) p551 q551
      cases e551
      replace p551 := eq_true p551
      replace q551 := eq_true q551
      go_wp2
      go_meet
      case rel => exact ⟨_, (((rd t544 (ji10)) != 0)), (by first | rfl | (simp; done) | (simp only [← hji10] <;> (first | rfl | simp)) | (simp [*]; done)), (by first | exact H' | (subst hji10; exact H') | (simp only [← hji10] at H' ⊢; exact H')), ⟨by first | omega | exact Nat.le_refl _⟩, ⟨by (with_reducible repeat (first | apply Kd.S_alloc | apply Kd.S_drewN | apply Kd.S_drew)); exact Kd.S_mono HO549.out (fun _ hk => trivial)⟩, ⟨by (with_reducible repeat (first | refine blk_drewN ?_ _ | refine blk_drew ?_ | refine blk_alloc ?_ _)); exact BK542.out⟩, ⟨by repeat (first | (with_reducible first | exact HB.out | apply below_alloc | apply pw_below_drewN | apply below_drew1 | refine below_set ?_ GE542.out) | exact HB.out)⟩⟩
     ·rw [if_neg c12] at H
      exact absurd H (by simp)
    ·rw [if_neg c11] at H
     exact absurd H (by simp)
   ·replace c9 := Bool.eq_false_iff.mpr c9
    subst c9
    have H1 : (impl_ValidValue.j0 k (l0_0.length : Int) t547 true l0_0) = some r := by rw [if_neg (show ¬ (false = true) by decide)] at H; exact H
    clear H
    have H := H1
    clear H1
    have H' := Aside0.mk H
    clear H
    go_wp2
    go_meet
    case rel => exact ⟨_, (true), (by first | rfl | (simp; done) | (simp [*]; done)), H', ⟨by first | omega | exact Nat.le_refl _⟩, ⟨by (with_reducible repeat (first | apply Kd.S_alloc | apply Kd.S_drewN | apply Kd.S_drew)); exact Kd.S_mono HO549.out (fun _ hk => trivial)⟩, ⟨by (with_reducible repeat (first | refine blk_drewN ?_ _ | refine blk_drew ?_ | refine blk_alloc ?_ _)); exact BK542.out⟩, ⟨by repeat (first | (with_reducible first | exact HB.out | apply below_alloc | apply pw_below_drewN | apply below_drew1 | refine below_set ?_ GE542.out) | exact HB.out)⟩⟩
  case rest =>
   clear HC5
   try clear c1
   try clear p2
   try clear c3
   try clear c5
   try clear p5
   try clear q5
   try clear hx5
   try clear p6
   try clear c9
   try clear c11
   try clear c11b0
   try clear c12
   try clear c12b0
   try clear hcz7_0
   try clear hfz7_0
   try clear hx551_0
   try clear p551
   try clear q551
   obtain ⟨kq, x34_4, rfl, HA, HJ4, HO_5, BK542, HB⟩ := hcut
   cases kq with
   | zero => exact absurd HA.out (by simp [impl_ValidValue.j0])
   | succ kj4 =>
    have H := HA.out
    clear HA
    simp only [impl_ValidValue.j0] at H
    by_cases c14 : x34_4 = true
    ·subst c14
     have H1 : (some false) = some r := by rw [if_pos rfl] at H; exact H
     clear H
     have H := H1
     clear H1
     obtain rfl := Option.some.inj H
     go_wp2
     go_ret
     exact ⟨by first | rfl | (simp [errW_none, errW_some] <;> rfl) | (simp [*, errW_none, errW_some] <;> rfl), by repeat (first | (with_reducible first | exact HB.out | apply below_alloc | apply pw_below_drewN | apply below_drew1 | refine below_set ?_ GE542.out) | exact HB.out)⟩
    ·replace c14 := Bool.eq_false_iff.mpr c14
     subst c14
     have H1 : (if 0 ≤ (l0_0.length : Int) then (if ((l0_0.length : Int) : Int).toNat ≤ 35184372088832 then (impl_ValidValue.l0 kj4 t547 (List.replicate ((l0_0.length : Int) : Int).toNat 0) (wrap64 ((l0_0.length : Int) - 1)) l0_0) else (none)) else (none)) = some r := by rw [if_neg (show ¬ (false = true) by decide)] at H; exact H
     clear H
     have H := H1
     clear H1
     by_cases c15 : 0 ≤ (l0_0.length : Int)
     ·rw [if_pos c15] at H
      have c15b0 := eq_true c15
      have c15b1 : decide (0 ≤ (l0_0.length : Int)) = true := decide_eq_true c15
      clear c15
      by_cases c16 : ((l0_0.length : Int) : Int).toNat ≤ 35184372088832
      ·rw [if_pos c16] at H
       have c16b0 := eq_true c16
       have c16b1 : decide (((l0_0.length : Int) : Int).toNat ≤ 35184372088832) = true := decide_eq_true c16
       clear c16
       obtain ⟨y552, hy552⟩ : ∃ y_ : List Int, y_ = (List.replicate ((l0_0.length : Int) : Int).toNat 0) := ⟨_, rfl⟩
       replace H : (impl_ValidValue.l0 kj4 t547 y552 (wrap64 ((l0_0.length : Int) - 1)) l0_0) = some r := by first | (rw [hy552]; with_reducible exact H) | (have H2_ := (Option.bind_some _ _).symm.trans H; rw [hy552]; with_reducible exact H2_) | (have H2_ := (Option.bind_some _ _).symm.trans H; with_reducible exact H2_) | with_reducible exact H | (rw [hy552]; exact H) | exact H
       have Ny552 := Aside0.mk hy552
       clear hy552
       have H' := Aside0.mk H
       clear H
       go_wp2_with (first | ((with_reducible refine gate_dst (N := 36) rfl ?_); refine Kd.R_make (Kd.int .i64) _ 3 rfl (N := 36) rfl 70 _ _ rfl (l0_0.length : Int) rfl rfl Try.underlying70 (.int .i64 0) 8 info3 rfl (by decide) (by omega) 0 (ok := fun _ => True) (okp := fun _ => True) rfl (fun _ hk => hk) trivial (of_decide_eq_true (by first | (with_reducible assumption) | assumption)) (Nat.le_trans (Nat.mul_le_mul_right _ (of_decide_eq_true (by first | (with_reducible assumption) | assumption) : (l0_0.length : Int).toNat ≤ 35184372088832)) (by omega)) (Below.refl _ _) (Nat.le_refl _) ?_; intro v553 w17 ho18 hb hg_ hnew_; clear hg_ hnew_; (first | rw [← Ny552.out] at ho18 | (simp only [Int.reduceToNat] at ho18; rw [← Ny552.out] at ho18)); have n0_ := Aside0.mk (Kd.S_elder' (by (with_reducible repeat (first | apply Kd.S_alloc | apply Kd.S_drewN | apply Kd.S_drew)); exact HO_5.out) (Kd.R_base ho18) hb); have n1_ := Aside0.mk (Kd.R_lower ho18 (below_size (by repeat (first | (with_reducible first | exact HB.out | apply below_alloc | apply pw_below_drewN | apply below_drew1 | refine below_set ?_ GE542.out) | exact HB.out)))); have n2_ := Aside0.mk (blk_below (g := gb542) (o := .cells #[.slice A0_0 l0_0.length c0_0] 60 (0, 0)) (by (with_reducible repeat (first | refine blk_drewN ?_ _ | refine blk_drew ?_ | refine blk_alloc ?_ _)); exact BK542.out) hb); have n3_ := Aside0.mk (below_step (by repeat (first | (with_reducible first | exact HB.out | apply below_alloc | apply pw_below_drewN | apply below_drew1 | refine below_set ?_ GE542.out) | exact HB.out)) hb); clear HO_5; clear BK542; clear HB; have HO_5 := n0_; have HO554 := n1_; have BK542 := n2_; have HB := n3_; clear n0_ n1_ n2_ n3_; clear hb ho18))
       go_loopg [8] kj4 (fun kq v8 w' => ∃ (x7_2 : List Int) (x8_2 : Int), v8 = .int .i64 x8_2 ∧ Aside0 (impl_ValidValue.l0 kq t547 x7_2 x8_2 l0_0 = some r) ∧ Aside0 (kq ≤ kj4) ∧ Aside0 (Kd.S (Kd.slice 3 (Kd.int .i64)) 70 w' w.heap.size (fun k_ => some k_ ≠ (v553 : Value).ownBlock) v548 t547) ∧ Aside0 (Kd.R (Kd.int .i64) 3 w' w.heap.size (fun _ => True) v553 x7_2) ∧ Aside0 (w'.heap[gb542]? = some (.cells #[(.slice A0_0 l0_0.length c0_0)] 60 (0, 0))) ∧ Aside0 (Below w.heap.size w w'))
       case atStart => exact ⟨(y552), (wrap64 ((l0_0.length : Int) - 1)), (by first | rfl | (simp; done) | (simp [*]; done)), H', ⟨Nat.le_refl _⟩, ⟨by (with_reducible repeat (first | apply Kd.S_alloc | apply Kd.S_drewN | apply Kd.S_drew)); exact Kd.S_mono HO_5.out (fun _ hk => hk.2)⟩, ⟨by (with_reducible repeat (first | apply Kd.R_alloc | apply Kd.R_drewN | apply Kd.R_drew)); exact HO554.out⟩, ⟨by (with_reducible repeat (first | refine blk_drewN ?_ _ | refine blk_drew ?_ | refine blk_alloc ?_ _)); exact BK542.out⟩, ⟨by repeat (first | (with_reducible first | exact HB.out | apply below_alloc | apply pw_below_drewN | apply below_drew1 | refine below_set ?_ GE542.out) | exact HB.out)⟩⟩
       case round =>
        clear H'
        try clear c1
        try clear p2
        try clear c3
        try clear c5
        try clear p5
        try clear q5
        try clear hx5
        try clear p6
        try clear c9
        try clear c11
        try clear c11b0
        try clear c12
        try clear c12b0
        try clear c14
        try clear c15
        try clear c15b0
        try clear c15b1
        try clear c16
        try clear c16b0
        try clear c16b1
        try clear hcz7_0
        try clear hfz7_0
        try clear hx551_0
        try clear p2
        try clear p5
        try clear p551
        try clear p6
        try clear q5
        try clear q551
        obtain ⟨x7_2, x8_2, rfl, HA, HK2, HO_5, HO_7, BK542, HB⟩ := hrel
        cases gk with
        | zero => exact absurd HA.out (by simp [impl_ValidValue.l0])
        | succ k2 =>
         have H := HA.out
         clear HA
         simp only [impl_ValidValue.l0] at H
         by_cases c19 : x8_2 ≥ 0
         ·rw [if_pos c19] at H
          have c19b0 : decide (0 ≤ x8_2) = true := decide_eq_true c19
          clear c19
          by_cases c20 : 0 ≤ x8_2
          ·rw [if_pos c20] at H
           have c20b0 : decide (0 ≤ x8_2) = true := decide_eq_true c20
           clear c20
           by_cases c21 : x8_2 < (x7_2.length : Int)
           ·rw [if_pos c21] at H
            have c21b0 : decide (x8_2 < (x7_2.length : Int)) = true := decide_eq_true c21
            clear c21
            by_cases c22 : (rd x7_2 x8_2) > 12
            ·rw [if_pos c22] at H
             have c22b0 : decide (12 < (rd x7_2 x8_2)) = true := decide_eq_true c22
             clear c22
             obtain rfl := Option.some.inj H
             obtain ⟨Ao23, co23, eo23⟩ := Kd.R_slice HO_7.out
             subst eo23
             have p555 : 0 ≤ (x8_2 : Int) := of_decide_eq_true (by first | (with_reducible assumption) | assumption)
             have q555 : x8_2 < (x7_2.length : Int) := of_decide_eq_true (by first | (with_reducible assumption) | assumption)
             obtain ⟨ad555, e555, hx555_0⟩ := Kd.at_int (Kd.R_reads' HO_7.out).2.2 x8_2 p555 q555
             cases e555
             replace p555 := eq_true p555
             replace q555 := eq_true q555
             go_wp2
             go_ret
             exact ⟨by first | rfl | (simp [errW_none, errW_some] <;> rfl) | (simp [*, errW_none, errW_some] <;> rfl), by repeat (first | (with_reducible first | exact HB.out | apply below_alloc | apply pw_below_drewN | apply below_drew1 | refine below_set ?_ GE542.out) | exact HB.out)⟩
            ·rw [if_neg c22] at H
             have c22b0 : decide (12 < (rd x7_2 x8_2)) = false := decide_eq_false c22
             clear c22
             by_cases c24 : x8_2 < (t547.length : Int)
             ·rw [if_pos c24] at H
              have c24b0 : decide (x8_2 < (t547.length : Int)) = true := decide_eq_true c24
              clear c24
              have H' := Aside0.mk H
              clear H
              obtain ⟨Ao25, co25, eo25⟩ := Kd.R_slice HO_7.out
              subst eo25
              have p555 : 0 ≤ (x8_2 : Int) := of_decide_eq_true (by first | (with_reducible assumption) | assumption)
              have q555 : x8_2 < (x7_2.length : Int) := of_decide_eq_true (by first | (with_reducible assumption) | assumption)
              obtain ⟨ad555, e555, hx555_0⟩ := Kd.at_int (Kd.R_reads' HO_7.out).2.2 x8_2 p555 q555
              cases e555
              replace p555 := eq_true p555
              replace q555 := eq_true q555
              obtain ⟨Ao26, co26, eo26⟩ := Kd.S_slice HO_5.out
              subst eo26
              have p556 : 0 ≤ (x8_2 : Int) := of_decide_eq_true (by first | (with_reducible assumption) | assumption)
              have q556 : x8_2 < (t547.length : Int) := of_decide_eq_true (by first | (with_reducible assumption) | assumption)
              obtain ⟨ad556, A556_0, c556_0, e556, hx556_0, hl556_0, hi556_0⟩ := at_L8 (Kd.S_reads' HO_5.out).2.2 x8_2 p556 q556
              cases e556
              obtain ⟨ce556, hce556, hMe556, hcc556⟩ := Kd.S_get HO_5.out [] x8_2 p556 (by first | exact q556 | exact of_decide_eq_true (by first | (with_reducible assumption) | assumption) | (have e_ := (Kd.S_reads' HO_5.out).1; omega))
              obtain ⟨ve556_0, rfl, ge556_0⟩ := hMe556
              have hv556_0 := hcc556 0 _ rfl
              rw [Nat.add_zero, show ((Kd.slice 3 (Kd.int .i64))).sz = 1 from rfl, Nat.mul_one] at hv556_0
              replace hv556_0 := Option.some.inj (hv556_0.symm.trans hx556_0)
              rw [hv556_0] at ge556_0
              have HL556_0 := Aside0.mk (show Kd.R (Kd.int .i64) 3 _ _ _ _ (rd_L8 t547 x8_2) from ge556_0)
              clear hv556_0 ge556_0
              clear hcc556 hce556
              obtain ⟨go34, co34, eo34, gb34, gl34, cl34, HG34⟩ := Kd.R_form HO_7.out (by have h1_ := of_eq_true p555; have h2_ := of_eq_true q555; omega)
              (first | cases eo34 | (injection eo34 with ea_ en_ ec_; (first | subst ea_ | (injection ea_ with ea_; subst ea_)); subst ec_; clear en_))
              (first | simp only [add_plain] at hx555_0 | skip)
              clear gb34 gl34 cl34 HG34
              have HR556_0 := Aside0.mk hi556_0
              have HC556_0 := Aside0.mk hl556_0
              clear hi556_0 hl556_0
              replace p556 := eq_true p556
              replace q556 := eq_true q556
              go_wp2
              go_loopg [9, 53] k2 (fun kq v9 v53 w' => ∃ (x7_3 : List Int) (x9_3 : ByteArray) (x53_3 : Int), v9 = .string x9_3 ∧ v53 = .int .i64 x53_3 ∧ Aside0 (impl_ValidValue.l1 kq t547 x7_3 x8_2 x9_3 (rd_L8 t547 x8_2) ((rd_L8 t547 x8_2).length : Int) x53_3 l0_0 = some r) ∧ Aside0 (kq ≤ k2) ∧ Aside0 (Kd.S (Kd.slice 3 (Kd.int .i64)) 70 w' w.heap.size (fun k_ => some k_ ≠ ((.slice (some ⟨go34, 0, none⟩) x7_2.length co25) : Value).ownBlock) (.slice (some ad556) t547.length co26) t547) ∧ Aside0 (Kd.R (Kd.int .i64) 3 w' w.heap.size (fun _ => True) (.slice (some ⟨go34, 0, none⟩) x7_2.length co25) x7_3) ∧ Aside0 (w'.heap[gb542]? = some (.cells #[(.slice A0_0 l0_0.length c0_0)] 60 (0, 0))) ∧ Aside0 (Kd.R (Kd.int .i64) 3 w' w.heap.size (fun k_ => some k_ ≠ ((.slice (some ⟨go34, 0, none⟩) x7_2.length co25) : Value).ownBlock) (.slice A556_0 (rd_L8 t547 x8_2).length c556_0) (rd_L8 t547 x8_2)) ∧ Aside0 (Below w.heap.size w w'))
              case atStart => exact ⟨(x7_2), ((⟨#[]⟩ : ByteArray)), (0), (by first | rfl | (simp; done) | (simp [*]; done)), (by first | rfl | (simp; done) | (simp [*]; done)), H', ⟨Nat.le_refl _⟩, ⟨by (with_reducible repeat (first | apply Kd.S_alloc | apply Kd.S_drewN | apply Kd.S_drew)); exact HO_5.out⟩, ⟨by (with_reducible repeat (first | apply Kd.R_alloc | apply Kd.R_drewN | apply Kd.R_drew)); exact HO_7.out⟩, ⟨by (with_reducible repeat (first | refine blk_drewN ?_ _ | refine blk_drew ?_ | refine blk_alloc ?_ _)); exact BK542.out⟩, ⟨by (with_reducible repeat (first | apply Kd.R_alloc | apply Kd.R_drewN | apply Kd.R_drew)); exact Kd.R_mono HL556_0.out (fun _ h_ => by first | exact h_ | exact h_.1)⟩, ⟨by repeat (first | (with_reducible first | exact HB.out | apply below_alloc | apply pw_below_drewN | apply below_drew1 | refine below_set ?_ GE542.out) | exact HB.out)⟩⟩
              case round =>
               clear H'
               try clear c1
               try clear c2
               try clear p2
               try clear c3
               try clear c5
               try clear p5
               try clear q5
               try clear hx5
               try clear p6
               try clear c9
               try clear c11
               try clear c11b0
               try clear c12
               try clear c12b0
               try clear c14
               try clear c15
               try clear c15b0
               try clear c15b1
               try clear c16
               try clear c16b0
               try clear c16b1
               try clear c19
               try clear c19b0
               try clear c20
               try clear c20b0
               try clear c21
               try clear c21b0
               try clear c22
               try clear c22b0
               try clear c24
               try clear c24b0
               try clear hcz7_0
               try clear hfz7_0
               try clear hx551_0
               try clear hx555_0
               try clear hx556_0
               try clear p2
               try clear p5
               try clear p551
               try clear p555
               try clear p556
               try clear p6
               try clear q5
               try clear q551
               try clear q555
               try clear q556
               obtain ⟨x7_3, x9_3, x53_3, rfl, rfl, HA, HK3, HO_5, HO_7, BK542, HL556_0, HB⟩ := hrel
               have hl7_3 := (Kd.R_reads' HO_7.out).1
               rw [hl7_3] at HO_7
               (try simp only [hl7_3])
               (try simp only [hl7_3] at BK542)
               (try simp only [hl7_3] at HO_5)
               cases gk with
               | zero => exact absurd HA.out (by simp [impl_ValidValue.l1])
               | succ k3 =>
                have H := HA.out
                clear HA
                simp only [impl_ValidValue.l1] at H
                by_cases c27 : x53_3 < ((rd_L8 t547 x8_2).length : Int)
                ·rw [if_pos c27] at H
                 have c27b0 : decide (x53_3 < ((rd_L8 t547 x8_2).length : Int)) = true := decide_eq_true c27
                 clear c27
                 by_cases c28 : 0 ≤ x53_3
                 ·rw [if_pos c28] at H
                  have c28b0 : decide (0 ≤ x53_3) = true := decide_eq_true c28
                  clear c28
                  by_cases c29 : x53_3 < ((rd_L8 t547 x8_2).length : Int)
                  ·rw [if_pos c29] at H
                   have c29b0 : decide (x53_3 < ((rd_L8 t547 x8_2).length : Int)) = true := decide_eq_true c29
                   clear c29
                   by_cases c30 : 0 ≤ x8_2
                   ·rw [if_pos c30] at H
                    have c30b0 : decide (0 ≤ x8_2) = true := decide_eq_true c30
                    clear c30
                    by_cases c31 : x8_2 < (x7_3.length : Int)
                    ·rw [if_pos c31] at H
                     have c31b0 : decide (x8_2 < (x7_3.length : Int)) = true := decide_eq_true c31
                     clear c31
                     by_cases c32 : 0 ≤ (rd (rd_L8 t547 x8_2) x53_3)
                     ·rw [if_pos c32] at H
                      have c32b0 : decide (0 ≤ (rd (rd_L8 t547 x8_2) x53_3)) = true := decide_eq_true c32
                      clear c32
                      by_cases c33 : (rd (rd_L8 t547 x8_2) x53_3) < (x7_3.length : Int)
                      ·rw [if_pos c33] at H
                       have c33b0 : decide ((rd (rd_L8 t547 x8_2) x53_3) < (x7_3.length : Int)) = true := decide_eq_true c33
                       clear c33
                       obtain ⟨y559, hy559⟩ : ∃ y_ : List Int, y_ = (x7_3.set ((rd (rd_L8 t547 x8_2) x53_3) : Int).toNat (wrap64 ((rd x7_3 x8_2) + 1))) := ⟨_, rfl⟩
                       replace H : (if x8_2 < (l0_0.length : Int) then (if ((rd_T89 l0_0 x8_2).f0) = 5 then (impl_ValidValue.j3 k3 t547 y559 x8_2 x9_3 x53_3 (rd (rd_L8 t547 x8_2) x53_3) (rd_L8 t547 x8_2) ((rd_L8 t547 x8_2).length : Int) x53_3 ((Int.tmod x53_3 2) == 0) l0_0) else (impl_ValidValue.j3 k3 t547 y559 x8_2 x9_3 x53_3 (rd (rd_L8 t547 x8_2) x53_3) (rd_L8 t547 x8_2) ((rd_L8 t547 x8_2).length : Int) x53_3 false l0_0)) else (none)) = some r := by first | (rw [hy559]; with_reducible exact H) | (have H2_ := (Option.bind_some _ _).symm.trans H; rw [hy559]; with_reducible exact H2_) | (have H2_ := (Option.bind_some _ _).symm.trans H; with_reducible exact H2_) | with_reducible exact H | (rw [hy559]; exact H) | exact H
                       have Ny559 := Aside0.mk hy559
                       clear hy559
                       have HC35 := Aside0.mk H
                       clear H
                       have p557 : 0 ≤ (x53_3 : Int) := of_decide_eq_true (by first | (with_reducible assumption) | assumption)
                       have q557 : x53_3 < ((rd_L8 t547 x8_2).length : Int) := of_decide_eq_true (by first | (with_reducible assumption) | assumption)
                       obtain ⟨ad557, e557, hx557_0⟩ := Kd.at_int (Kd.R_reads' HL556_0.out).2.2 x53_3 p557 q557
                       cases e557
                       skip
                       replace p557 := eq_true p557
                       replace q557 := eq_true q557
                       have p558 : 0 ≤ (x8_2 : Int) := of_decide_eq_true (by first | (with_reducible assumption) | assumption)
                       have q558 : x8_2 < (x7_3.length : Int) := of_decide_eq_true (by first | (with_reducible assumption) | assumption)
                       obtain ⟨ad558, e558, hx558_0⟩ := Kd.at_int (Kd.R_reads' HO_7.out).2.2 x8_2 p558 q558
                       obtain rfl : (⟨go34, 0, none⟩ : Addr) = ad558 := (by injection e558)
                       replace p558 := eq_true p558
                       replace q558 := eq_true q558
                       have p34 : 0 ≤ ((rd (rd_L8 t547 x8_2) x53_3) : Int) := of_decide_eq_true (by first | (with_reducible assumption) | assumption)
                       have q34 : ((rd (rd_L8 t547 x8_2) x53_3) : Int) < ((x7_3.length : Int) : Int) := of_decide_eq_true (by first | (with_reducible assumption) | assumption)
                       obtain ⟨go34, co34, eo34, gb34, gl34, cl34, HG34⟩ := Kd.R_form HO_7.out (by omega)
                       (first | cases eo34 | (injection eo34 with ea_ en_ ec_; (first | subst ea_ | (injection ea_ with ea_; subst ea_)); subst ec_; clear en_))
                       have GB34 := Aside0.mk gb34
                       have GG34 := Aside0.mk HG34
                       clear gb34 gl34 HG34
                       (first | simp only [add_plain] at hx555_0 | skip)
                       (first | simp only [add_plain] at hx558_0 | skip)
                       obtain ⟨hx34_0, hf34_0⟩ := Kd.R_celln 0 HO_7.out ((rd (rd_L8 t547 x8_2) x53_3) : Int) p34 q34
                       replace p34 := eq_true p34
                       replace q34 := eq_true q34
                       have HP36 := Kd.R_putg HO_7.out ((rd (rd_L8 t547 x8_2) x53_3) : Int) (wrap64 ((rd x7_3 x8_2) + 1))
                       go_upto_region 18 with (first | ((with_reducible refine gate_store (t := 3) (p := 65) rfl ?_); refine store_event (t := 3) (p := 65) (v := ?vo_w37) (w1 := (wr.setCell ⟨go34, ((rd (rd_L8 t547 x8_2) x53_3) : Int).toNat, none⟩ (.int .i64 (wrap64 ((rd x7_3 x8_2) + 1))))) ?hg ?ho ?hn ?hr ?_; (case ho => rfl); (case hg => rfl); (case hn => rfl); (case hr => first | (go_simp; done) | (go_simp; rfl)); intro w37 hw; have hg : wr.grownBy w37 (some go34) := (by rw [hw]; exact HP36.2); have hp_ : Kd.R (Kd.int .i64) 3 w37 w.heap.size (fun _ => True) (.slice (some ⟨go34, 0, none⟩) x7_3.length co25) y559 := (by rw [hw, Ny559.out]; exact HP36.1); clear HP36; have n0_ := Aside0.mk (Kd.S_after (v := (.slice (some ⟨go34, 0, none⟩) x7_3.length co25)) (v1 := (.slice (some ⟨go34, 0, none⟩) x7_3.length co25)) (ok := (fun _ => True)) (by (with_reducible repeat (first | apply Kd.S_alloc | apply Kd.S_drewN | apply Kd.S_drew)); exact Kd.S_mono HO_5.out (fun _ hk => ⟨trivial, (by first | exact hk | exact fun e_ => hk (e_.trans (own_len _ _ _ _ _)))⟩)) hg (.inl rfl)); have n1_ := Aside0.mk (hp_); have n2_ := Aside0.mk (blk_grown (g := gb542) (o := .cells #[.slice A0_0 l0_0.length c0_0] 60 (0, 0)) (by (with_reducible repeat (first | refine blk_drewN ?_ _ | refine blk_drew ?_ | refine blk_alloc ?_ _)); exact BK542.out) hg (Kd.R_ne HO_7.out BK542.out (by decide))); have n3_ := Aside0.mk ((by rw [hw]; exact below_set (HB.out) GB34.out : Below w.heap.size w w37)); clear HO_5; clear HO_7; clear BK542; clear HB; have HO_5 := n0_; have HO_7 := n1_; have BK542 := n2_; have HB := n3_; clear n0_ n1_ n2_ n3_; have HL556_0 := Aside0.mk (Kd.R_step HL556_0.out (fun k_ hk_ hlt_ => hg.block k_ hlt_ hk_)); clear hg hw hp_))
                       (try simp only [Act.put, List.setIfInBounds_toArray, List.set_cons_zero, List.set_cons_succ])
                       go_cut [77] (fun v77 wc => ∃ (kq : Nat) (x77_34 : Bool), v77 = .bool x77_34 ∧ Aside0 (impl_ValidValue.j3 kq t547 y559 x8_2 x9_3 x53_3 (rd (rd_L8 t547 x8_2) x53_3) (rd_L8 t547 x8_2) ((rd_L8 t547 x8_2).length : Int) x53_3 x77_34 l0_0 = some r) ∧ Aside0 (kq ≤ k3) ∧ Aside0 (Kd.S (Kd.slice 3 (Kd.int .i64)) 70 wc w.heap.size (fun k_ => some k_ ≠ ((.slice (some ⟨go34, 0, none⟩) x7_3.length co25) : Value).ownBlock) (.slice (some ad556) t547.length co26) t547) ∧ Aside0 (Kd.R (Kd.int .i64) 3 wc w.heap.size (fun _ => True) (.slice (some ⟨go34, 0, none⟩) x7_3.length co25) y559) ∧ Aside0 (wc.heap[gb542]? = some (.cells #[(.slice A0_0 l0_0.length c0_0)] 60 (0, 0))) ∧ Aside0 (Kd.R (Kd.int .i64) 3 wc w.heap.size (fun k_ => some k_ ≠ ((.slice (some ⟨go34, 0, none⟩) x7_3.length co25) : Value).ownBlock) (.slice (some ad557) (rd_L8 t547 x8_2).length c556_0) (rd_L8 t547 x8_2)) ∧ Aside0 (Below w.heap.size w wc))
                       case first =>
                        have H := HC35.out
                        clear HC35
                        by_cases c38 : x8_2 < (l0_0.length : Int)
                        ·rw [if_pos c38] at H
                         have c38b0 : decide (x8_2 < (l0_0.length : Int)) = true := decide_eq_true c38
                         clear c38
                         (first | rw [c38b0] | (simp only [i64_w, i32_w]; rw [c38b0]) | skip)
                         by_cases c39 : ((rd_T89 l0_0 x8_2).f0) = 5
                         ·rw [if_pos c39] at H
                          have c39b0 : (((rd_T89 l0_0 x8_2).f0) == 5) = true := beq_iff_eq.mpr c39
                          have c39b1 : (((rd_T89 l0_0 x8_2).f0) != 5) = false := bne_eq_false_iff_eq.mpr c39
                          clear c39
                          have H' := Aside0.mk H
                          clear H
                          have hcz40_0 : w37.cell? ⟨gb542, 0, none⟩ = some (.slice A0_0 l0_0.length c0_0) := (blk_cell BK542.out 0).trans rfl
                          have hfz40_0 := blk_frozen BK542.out 0
                          have p560 : 0 ≤ (x8_2 : Int) := of_decide_eq_true (by first | (with_reducible assumption) | assumption)
                          have q560 : x8_2 < (l0_0.length : Int) := of_decide_eq_true (by first | (with_reducible assumption) | assumption)
                          obtain ⟨ad560, e560, hx560_0, hx560_1, hx560_2, hx560_3⟩ := at_T89 HR0_0.out x8_2 p560 q560
                          cases e560
                          replace hx560_0 := (HB.out.cell (World.block_lt_of_cell? w _ hx560_0)).trans hx560_0
                          replace hx560_1 := (HB.out.cell (World.block_lt_of_cell? w _ hx560_1)).trans hx560_1
                          replace hx560_2 := (HB.out.cell (World.block_lt_of_cell? w _ hx560_2)).trans hx560_2
                          replace hx560_3 := (HB.out.cell (World.block_lt_of_cell? w _ hx560_3)).trans hx560_3
                          replace p560 := eq_true p560
                          replace q560 := eq_true q560
                          go_wp2
                          go_meet
                          case rel => exact ⟨_, (((Int.tmod x53_3 2) == 0)), (by first | rfl | (simp; done) | (simp [*]; done)), H', ⟨by have := HJ4.out; have := HK2.out; have := HK3.out; first | omega | exact Nat.le_refl _⟩, ⟨by (try simp only [hl7_3]); (with_reducible repeat (first | apply Kd.S_alloc | apply Kd.S_drewN | apply Kd.S_drew)); exact Kd.S_mono HO_5.out (fun _ hk => hk.2)⟩, ⟨by (try simp only [hl7_3]); (with_reducible repeat (first | apply Kd.R_alloc | apply Kd.R_drewN | apply Kd.R_drew)); exact HO_7.out⟩, ⟨by (try simp only [hl7_3]); (with_reducible repeat (first | refine blk_drewN ?_ _ | refine blk_drew ?_ | refine blk_alloc ?_ _)); exact BK542.out⟩, ⟨by (with_reducible repeat (first | apply Kd.R_alloc | apply Kd.R_drewN | apply Kd.R_drew)); exact Kd.R_mono HL556_0.out (fun _ h_ => by first | exact h_ | exact h_.1)⟩, ⟨by repeat (first | (with_reducible first | exact HB.out | apply below_alloc | apply pw_below_drewN | apply below_drew1 | refine below_set ?_ GE542.out) | exact HB.out)⟩⟩
                         ·rw [if_neg c39] at H
                          have c39b0 : (((rd_T89 l0_0 x8_2).f0) == 5) = false := beq_eq_false_iff_ne.mpr c39
                          have c39b1 : (((rd_T89 l0_0 x8_2).f0) != 5) = true := bne_iff_ne.mpr c39
                          have H' := Aside0.mk H
                          clear H
                          have hcz41_0 : w37.cell? ⟨gb542, 0, none⟩ = some (.slice A0_0 l0_0.length c0_0) := (blk_cell BK542.out 0).trans rfl
                          have hfz41_0 := blk_frozen BK542.out 0
                          have p560 : 0 ≤ (x8_2 : Int) := of_decide_eq_true (by first | (with_reducible assumption) | assumption)
                          have q560 : x8_2 < (l0_0.length : Int) := of_decide_eq_true (by first | (with_reducible assumption) | assumption)
                          obtain ⟨ad560, e560, hx560_0, hx560_1, hx560_2, hx560_3⟩ := at_T89 HR0_0.out x8_2 p560 q560
                          cases e560
                          replace hx560_0 := (HB.out.cell (World.block_lt_of_cell? w _ hx560_0)).trans hx560_0
                          replace hx560_1 := (HB.out.cell (World.block_lt_of_cell? w _ hx560_1)).trans hx560_1
                          replace hx560_2 := (HB.out.cell (World.block_lt_of_cell? w _ hx560_2)).trans hx560_2
                          replace hx560_3 := (HB.out.cell (World.block_lt_of_cell? w _ hx560_3)).trans hx560_3
                          replace p560 := eq_true p560
                          replace q560 := eq_true q560
                          go_wp2
                          go_meet
                          case rel => exact ⟨_, (false), (by first | rfl | (simp; done) | (simp [*]; done)), H', ⟨by have := HJ4.out; have := HK2.out; have := HK3.out; first | omega | exact Nat.le_refl _⟩, ⟨by (try simp only [hl7_3]); (with_reducible repeat (first | apply Kd.S_alloc | apply Kd.S_drewN | apply Kd.S_drew)); exact Kd.S_mono HO_5.out (fun _ hk => hk.2)⟩, ⟨by (try simp only [hl7_3]); (with_reducible repeat (first | apply Kd.R_alloc | apply Kd.R_drewN | apply Kd.R_drew)); exact HO_7.out⟩, ⟨by (try simp only [hl7_3]); (with_reducible repeat (first | refine blk_drewN ?_ _ | refine blk_drew ?_ | refine blk_alloc ?_ _)); exact BK542.out⟩, ⟨by (with_reducible repeat (first | apply Kd.R_alloc | apply Kd.R_drewN | apply Kd.R_drew)); exact Kd.R_mono HL556_0.out (fun _ h_ => by first | exact h_ | exact h_.1)⟩, ⟨by repeat (first | (with_reducible first | exact HB.out | apply below_alloc | apply pw_below_drewN | apply below_drew1 | refine below_set ?_ GE542.out) | exact HB.out)⟩⟩
                        ·rw [if_neg c38] at H
                         exact absurd H (by simp)
                       case rest =>
                        clear HC35
                        try clear c1
                        try clear c2
                        try clear p2
                        try clear c3
                        try clear p3
                        try clear q3
                        try clear hx3
                        try clear hf3
                        try clear c5
                        try clear p5
                        try clear q5
                        try clear hx5
                        try clear p6
                        try clear c9
                        try clear c11
                        try clear c11b0
                        try clear c12
                        try clear c12b0
                        try clear c14
                        try clear c15
                        try clear c15b0
                        try clear c15b1
                        try clear c16
                        try clear c16b0
                        try clear c16b1
                        try clear c19
                        try clear c19b0
                        try clear c20
                        try clear c20b0
                        try clear c21
                        try clear c21b0
                        try clear c22
                        try clear c22b0
                        try clear c24
                        try clear c24b0
                        try clear c27
                        try clear c27b0
                        try clear c28
                        try clear c28b0
                        try clear c29
                        try clear c29b0
                        try clear c30
                        try clear c30b0
                        try clear c31
                        try clear c31b0
                        try clear c32
                        try clear c32b0
                        try clear c33
                        try clear c33b0
                        try clear c34
                        try clear p34
                        try clear q34
                        try clear hx34
                        try clear hf34
                        try clear c37
                        try clear c38
                        try clear c38b0
                        try clear c39
                        try clear c39b0
                        try clear c39b1
                        try clear hcz40_0
                        try clear hcz41_0
                        try clear hcz7_0
                        try clear hfz40_0
                        try clear hfz41_0
                        try clear hfz7_0
                        try clear hx34_0
                        try clear hx551_0
                        try clear hx555_0
                        try clear hx556_0
                        try clear hx557_0
                        try clear hx558_0
                        try clear hx560_0
                        try clear hx560_1
                        try clear hx560_2
                        try clear hx560_3
                        try clear p2
                        try clear p34
                        try clear p5
                        try clear p551
                        try clear p555
                        try clear p556
                        try clear p557
                        try clear p558
                        try clear p560
                        try clear p6
                        try clear q34
                        try clear q5
                        try clear q551
                        try clear q555
                        try clear q556
                        try clear q557
                        try clear q558
                        try clear q560
                        obtain ⟨kq, x77_34, rfl, HA, HJ34, HO_5, HO_7, BK542, HL556_0, HB⟩ := hcut
                        have hl7_34 := (Kd.R_reads' HO_7.out).1
                        rw [hl7_34] at HO_7
                        (try simp only [hl7_34])
                        (try simp only [hl7_34] at BK542)
                        (try simp only [hl7_34] at HO_5)
                        cases kq with
                        | zero => exact absurd HA.out (by simp [impl_ValidValue.j3])
                        | succ kj34 =>
                         have H := HA.out
                         clear HA
                         simp only [impl_ValidValue.j3] at H
                         by_cases c42 : x77_34 = true
                         ·subst c42
                          have H1 : (if 0 ≤ (rd (rd_L8 t547 x8_2) x53_3) then (if (rd (rd_L8 t547 x8_2) x53_3) < (l0_0.length : Int) then (if ((rd_T89 l0_0 (rd (rd_L8 t547 x8_2) x53_3)).f0) = 3 then (if x53_3 > 0 then (if ((Op.bytesLess x9_3.toList (((rd_T89 l0_0 (rd (rd_L8 t547 x8_2) x53_3)).f2).toList)) = true) then (impl_ValidValue.l1 kj34 t547 y559 x8_2 ((rd_T89 l0_0 (rd (rd_L8 t547 x8_2) x53_3)).f2) (rd_L8 t547 x8_2) ((rd_L8 t547 x8_2).length : Int) (wrap64 (x53_3 + 1)) l0_0) else (some false)) else (impl_ValidValue.l1 kj34 t547 y559 x8_2 ((rd_T89 l0_0 (rd (rd_L8 t547 x8_2) x53_3)).f2) (rd_L8 t547 x8_2) ((rd_L8 t547 x8_2).length : Int) (wrap64 (x53_3 + 1)) l0_0)) else (some false)) else (none)) else (none)) = some r := by rw [if_pos rfl] at H; exact H
                          clear H
                          have H := H1
                          clear H1
                          by_cases c43 : 0 ≤ (rd (rd_L8 t547 x8_2) x53_3)
                          ·rw [if_pos c43] at H
                           have c43b0 : decide (0 ≤ (rd (rd_L8 t547 x8_2) x53_3)) = true := decide_eq_true c43
                           clear c43
                           by_cases c44 : (rd (rd_L8 t547 x8_2) x53_3) < (l0_0.length : Int)
                           ·rw [if_pos c44] at H
                            have c44b0 : decide ((rd (rd_L8 t547 x8_2) x53_3) < (l0_0.length : Int)) = true := decide_eq_true c44
                            clear c44
                            by_cases c45 : ((rd_T89 l0_0 (rd (rd_L8 t547 x8_2) x53_3)).f0) = 3
                            ·rw [if_pos c45] at H
                             have c45b0 : (((rd_T89 l0_0 (rd (rd_L8 t547 x8_2) x53_3)).f0) == 3) = true := beq_iff_eq.mpr c45
                             have c45b1 : (((rd_T89 l0_0 (rd (rd_L8 t547 x8_2) x53_3)).f0) != 3) = false := bne_eq_false_iff_eq.mpr c45
                             clear c45
                             by_cases c46 : x53_3 > 0
                             ·rw [if_pos c46] at H
                              have c46b0 : decide (0 < x53_3) = true := decide_eq_true c46
                              clear c46
                              by_cases c47 : ((Op.bytesLess x9_3.toList (((rd_T89 l0_0 (rd (rd_L8 t547 x8_2) x53_3)).f2).toList)) = true)
                              ·rw [if_pos c47] at H
                               have c47b0 : (Op.bytesLess x9_3.toList (((rd_T89 l0_0 (rd (rd_L8 t547 x8_2) x53_3)).f2).toList)) = true := c47
                               clear c47
                               have H' := Aside0.mk H
                               clear H
                               have hcz48_0 : wc.cell? ⟨gb542, 0, none⟩ = some (.slice A0_0 l0_0.length c0_0) := (blk_cell BK542.out 0).trans rfl
                               have hfz48_0 := blk_frozen BK542.out 0
                               have p561 : 0 ≤ ((rd (rd_L8 t547 x8_2) x53_3) : Int) := of_decide_eq_true (by first | (with_reducible assumption) | assumption)
                               have q561 : (rd (rd_L8 t547 x8_2) x53_3) < (l0_0.length : Int) := of_decide_eq_true (by first | (with_reducible assumption) | assumption)
                               obtain ⟨ad561, e561, hx561_0, hx561_1, hx561_2, hx561_3⟩ := at_T89 HR0_0.out (rd (rd_L8 t547 x8_2) x53_3) p561 q561
                               cases e561
                               replace hx561_0 := (HB.out.cell (World.block_lt_of_cell? w _ hx561_0)).trans hx561_0
                               replace hx561_1 := (HB.out.cell (World.block_lt_of_cell? w _ hx561_1)).trans hx561_1
                               replace hx561_2 := (HB.out.cell (World.block_lt_of_cell? w _ hx561_2)).trans hx561_2
                               replace hx561_3 := (HB.out.cell (World.block_lt_of_cell? w _ hx561_3)).trans hx561_3
                               replace p561 := eq_true p561
                               replace q561 := eq_true q561
                               go_wp2_with (first | ((with_reducible refine gate_dst (N := 12) rfl ?_); refine box_event ?hg (N := 12) ?hd (cs := #[.int .i64 0, .int .i64 0, .string (⟨#[]⟩ : ByteArray), .int .i64 0]) (t := 89) ?hr ?_; (case hd => rfl); (case hg => rfl); (case hr => first | (go_simp; done) | (go_simp; rfl)); intro gb562 hg w49 hbox hb; have HL556_0 := Aside0.mk (Kd.R_below HL556_0.out hb); have n0_ := Aside0.mk (Kd.S_below (by (with_reducible repeat (first | apply Kd.S_alloc | apply Kd.S_drewN | apply Kd.S_drew)); exact HO_5.out) hb); have n1_ := Aside0.mk (Kd.R_below (by (with_reducible repeat (first | apply Kd.R_alloc | apply Kd.R_drewN | apply Kd.R_drew)); exact HO_7.out) hb); have n2_ := Aside0.mk (blk_below (g := gb542) (o := .cells #[.slice (some ad561) l0_0.length c0_0] 60 (0, 0)) (by (with_reducible repeat (first | refine blk_drewN ?_ _ | refine blk_drew ?_ | refine blk_alloc ?_ _)); exact BK542.out) hb); have n3_ := Aside0.mk (below_step (by repeat (first | (with_reducible first | exact HB.out | apply below_alloc | apply pw_below_drewN | apply below_drew1 | refine below_set ?_ GE542.out) | exact HB.out)) hb); have n4_ := Aside0.mk (hbox); have n5_ := Aside0.mk ((by rw [hg]; exact (below_size (by repeat (first | (with_reducible first | exact HB.out | apply below_alloc | apply pw_below_drewN | apply below_drew1 | refine below_set ?_ GE542.out) | exact HB.out))) : w.heap.size ≤ gb562)); have n6_ := Aside0.mk ((by rw [hg]; exact (below_size (by repeat (first | (with_reducible first | exact HB.out | apply below_alloc | apply pw_below_drewN | apply below_drew1 | refine below_set ?_ GE542.out) | exact HB.out))) : w.heap.size ≤ gb562)); have n7_ := Aside0.mk ((by rw [hg]; exact Nat.ne_of_lt (blk_lt (g := gb542) (o := .cells #[.slice (some ad561) l0_0.length c0_0] 60 (0, 0)) (by (with_reducible repeat (first | refine blk_drewN ?_ _ | refine blk_drew ?_ | refine blk_alloc ?_ _)); exact BK542.out)) : gb542 ≠ gb562)); have n8_ := Aside0.mk ((by rw [hg]; exact Nat.ne_of_gt (blk_lt (g := gb542) (o := .cells #[.slice (some ad561) l0_0.length c0_0] 60 (0, 0)) (by (with_reducible repeat (first | refine blk_drewN ?_ _ | refine blk_drew ?_ | refine blk_alloc ?_ _)); exact BK542.out)) : gb562 ≠ gb542)); clear HO_5; clear HO_7; clear BK542; clear HB; have HO_5 := n0_; have HO_7 := n1_; have BK542 := n2_; have HB := n3_; have BK562 := n4_; have GW562 := n5_; have GE562 := n6_; have NB542_562 := n7_; have NB562_542 := n8_; clear n0_ n1_ n2_ n3_ n4_ n5_ n6_ n7_ n8_; clear hb hbox hg; have hnb50 := NB562_542.out; have hnc50 := NB542_562.out; have hcz51_0 : w49.cell? ⟨gb562, 0, none⟩ = some (.int .i64 0) := (blk_cell BK562.out 0).trans rfl; have hcz51_1 : w49.cell? ⟨gb562, 1, none⟩ = some (.int .i64 0) := (blk_cell BK562.out 1).trans rfl; have hcz51_2 : w49.cell? ⟨gb562, 2, none⟩ = some (.string (⟨#[]⟩ : ByteArray)) := (blk_cell BK562.out 2).trans rfl; have hcz51_3 : w49.cell? ⟨gb562, 3, none⟩ = some (.int .i64 0) := (blk_cell BK562.out 3).trans rfl; have hfz51_0 := blk_frozen BK562.out 0; have hfz51_1 := blk_frozen BK562.out 1; have hfz51_2 := blk_frozen BK562.out 2; have hfz51_3 := blk_frozen BK562.out 3))
                               (try simp only [← hl7_3, ← hl7_34])
                               go_roundg kj34
                               case measure => have := HJ4.out; have := HK2.out; have := HK3.out; have := HJ34.out; omega
                               case rel => exact ⟨(y559), ((rd_T89 l0_0 (rd (rd_L8 t547 x8_2) x53_3)).f2), (wrap64 (x53_3 + 1)), (by first | rfl | (simp; done) | (simp [*]; done)), (by first | rfl | (simp; done) | (simp [*]; done)), H', ⟨by have := HJ4.out; have := HK2.out; have := HK3.out; have := HJ34.out; omega⟩, ⟨by (try simp only [hl7_3]); (try simp only [hl7_34]); (with_reducible repeat (first | apply Kd.S_alloc | apply Kd.S_drewN | apply Kd.S_drew)); exact Kd.S_mono (Kd.S_far (p := ⟨gb562, 3, none⟩) (Kd.S_far (p := ⟨gb562, 2, none⟩) (Kd.S_far (p := ⟨gb562, 1, none⟩) (Kd.S_far (p := ⟨gb562, 0, none⟩) (Kd.S_types HO_5.out BK562.out (by decide)) (fun _ hk => hk.2) (.int .i64 ((rd_T89 l0_0 (rd (rd_L8 t547 x8_2) x53_3)).f0))) (fun _ hk => hk.2) (.int .i64 ((rd_T89 l0_0 (rd (rd_L8 t547 x8_2) x53_3)).f1))) (fun _ hk => hk.2) (.string ((rd_T89 l0_0 (rd (rd_L8 t547 x8_2) x53_3)).f2))) (fun _ hk => hk.2) (.int .i64 ((rd_T89 l0_0 (rd (rd_L8 t547 x8_2) x53_3)).f3))) (fun _ hk => hk.1)⟩, ⟨by (try simp only [hl7_3]); (try simp only [hl7_34]); (with_reducible repeat (first | apply Kd.R_alloc | apply Kd.R_drewN | apply Kd.R_drew)); exact Kd.R_mono (Kd.R_far (p := ⟨gb562, 3, none⟩) (Kd.R_far (p := ⟨gb562, 2, none⟩) (Kd.R_far (p := ⟨gb562, 1, none⟩) (Kd.R_far (p := ⟨gb562, 0, none⟩) (Kd.R_types HO_7.out BK562.out (by decide)) (fun _ hk => hk.2) (.int .i64 ((rd_T89 l0_0 (rd (rd_L8 t547 x8_2) x53_3)).f0))) (fun _ hk => hk.2) (.int .i64 ((rd_T89 l0_0 (rd (rd_L8 t547 x8_2) x53_3)).f1))) (fun _ hk => hk.2) (.string ((rd_T89 l0_0 (rd (rd_L8 t547 x8_2) x53_3)).f2))) (fun _ hk => hk.2) (.int .i64 ((rd_T89 l0_0 (rd (rd_L8 t547 x8_2) x53_3)).f3))) (fun _ hk => trivial)⟩, ⟨by (try simp only [hl7_3]); (try simp only [hl7_34]); (with_reducible repeat (first | refine blk_drewN ?_ _ | refine blk_drew ?_ | refine blk_alloc ?_ _)); refine blk_far ?_ NB542_562.out _; (with_reducible repeat (first | refine blk_drewN ?_ _ | refine blk_drew ?_ | refine blk_alloc ?_ _)); refine blk_far ?_ NB542_562.out _; (with_reducible repeat (first | refine blk_drewN ?_ _ | refine blk_drew ?_ | refine blk_alloc ?_ _)); refine blk_far ?_ NB542_562.out _; (with_reducible repeat (first | refine blk_drewN ?_ _ | refine blk_drew ?_ | refine blk_alloc ?_ _)); refine blk_far ?_ NB542_562.out _; (with_reducible repeat (first | refine blk_drewN ?_ _ | refine blk_drew ?_ | refine blk_alloc ?_ _)); exact BK542.out⟩, ⟨by (with_reducible repeat (first | apply Kd.R_alloc | apply Kd.R_drewN | apply Kd.R_drew)); exact Kd.R_mono (Kd.R_far (p := ⟨gb562, 3, none⟩) (Kd.R_far (p := ⟨gb562, 2, none⟩) (Kd.R_far (p := ⟨gb562, 1, none⟩) (Kd.R_far (p := ⟨gb562, 0, none⟩) (Kd.R_types HL556_0.out BK562.out (by decide)) (fun _ hk => hk.2) (.int .i64 ((rd_T89 l0_0 (rd (rd_L8 t547 x8_2) x53_3)).f0))) (fun _ hk => hk.2) (.int .i64 ((rd_T89 l0_0 (rd (rd_L8 t547 x8_2) x53_3)).f1))) (fun _ hk => hk.2) (.string ((rd_T89 l0_0 (rd (rd_L8 t547 x8_2) x53_3)).f2))) (fun _ hk => hk.2) (.int .i64 ((rd_T89 l0_0 (rd (rd_L8 t547 x8_2) x53_3)).f3))) (fun _ h_ => h_.1)⟩, ⟨by repeat (first | (with_reducible first | exact HB.out | apply below_alloc | apply pw_below_drewN | apply below_drew1 | refine below_set ?_ GE542.out | refine below_set ?_ GE562.out) | exact HB.out)⟩⟩
                              ·rw [if_neg c47] at H
                               have c47b0 : (Op.bytesLess x9_3.toList (((rd_T89 l0_0 (rd (rd_L8 t547 x8_2) x53_3)).f2).toList)) = false := by simpa using c47
                               clear c47
                               obtain rfl := Option.some.inj H
                               have hcz52_0 : wc.cell? ⟨gb542, 0, none⟩ = some (.slice A0_0 l0_0.length c0_0) := (blk_cell BK542.out 0).trans rfl
                               have hfz52_0 := blk_frozen BK542.out 0
                               have p561 : 0 ≤ ((rd (rd_L8 t547 x8_2) x53_3) : Int) := of_decide_eq_true (by first | (with_reducible assumption) | assumption)
                               have q561 : (rd (rd_L8 t547 x8_2) x53_3) < (l0_0.length : Int) := of_decide_eq_true (by first | (with_reducible assumption) | assumption)
                               obtain ⟨ad561, e561, hx561_0, hx561_1, hx561_2, hx561_3⟩ := at_T89 HR0_0.out (rd (rd_L8 t547 x8_2) x53_3) p561 q561
                               cases e561
                               replace hx561_0 := (HB.out.cell (World.block_lt_of_cell? w _ hx561_0)).trans hx561_0
                               replace hx561_1 := (HB.out.cell (World.block_lt_of_cell? w _ hx561_1)).trans hx561_1
                               replace hx561_2 := (HB.out.cell (World.block_lt_of_cell? w _ hx561_2)).trans hx561_2
                               replace hx561_3 := (HB.out.cell (World.block_lt_of_cell? w _ hx561_3)).trans hx561_3
                               replace p561 := eq_true p561
                               replace q561 := eq_true q561
                               go_wp2_with (first | ((with_reducible refine gate_dst (N := 12) rfl ?_); refine box_event ?hg (N := 12) ?hd (cs := #[.int .i64 0, .int .i64 0, .string (⟨#[]⟩ : ByteArray), .int .i64 0]) (t := 89) ?hr ?_; (case hd => rfl); (case hg => rfl); (case hr => first | (go_simp; done) | (go_simp; rfl)); intro gb562 hg w53 hbox hb; have HL556_0 := Aside0.mk (Kd.R_below HL556_0.out hb); have n0_ := Aside0.mk (Kd.S_below (by (with_reducible repeat (first | apply Kd.S_alloc | apply Kd.S_drewN | apply Kd.S_drew)); exact HO_5.out) hb); have n1_ := Aside0.mk (Kd.R_below (by (with_reducible repeat (first | apply Kd.R_alloc | apply Kd.R_drewN | apply Kd.R_drew)); exact HO_7.out) hb); have n2_ := Aside0.mk (blk_below (g := gb542) (o := .cells #[.slice (some ad561) l0_0.length c0_0] 60 (0, 0)) (by (with_reducible repeat (first | refine blk_drewN ?_ _ | refine blk_drew ?_ | refine blk_alloc ?_ _)); exact BK542.out) hb); have n3_ := Aside0.mk (below_step (by repeat (first | (with_reducible first | exact HB.out | apply below_alloc | apply pw_below_drewN | apply below_drew1 | refine below_set ?_ GE542.out) | exact HB.out)) hb); have n4_ := Aside0.mk (hbox); have n5_ := Aside0.mk ((by rw [hg]; exact (below_size (by repeat (first | (with_reducible first | exact HB.out | apply below_alloc | apply pw_below_drewN | apply below_drew1 | refine below_set ?_ GE542.out) | exact HB.out))) : w.heap.size ≤ gb562)); have n6_ := Aside0.mk ((by rw [hg]; exact (below_size (by repeat (first | (with_reducible first | exact HB.out | apply below_alloc | apply pw_below_drewN | apply below_drew1 | refine below_set ?_ GE542.out) | exact HB.out))) : w.heap.size ≤ gb562)); have n7_ := Aside0.mk ((by rw [hg]; exact Nat.ne_of_lt (blk_lt (g := gb542) (o := .cells #[.slice (some ad561) l0_0.length c0_0] 60 (0, 0)) (by (with_reducible repeat (first | refine blk_drewN ?_ _ | refine blk_drew ?_ | refine blk_alloc ?_ _)); exact BK542.out)) : gb542 ≠ gb562)); have n8_ := Aside0.mk ((by rw [hg]; exact Nat.ne_of_gt (blk_lt (g := gb542) (o := .cells #[.slice (some ad561) l0_0.length c0_0] 60 (0, 0)) (by (with_reducible repeat (first | refine blk_drewN ?_ _ | refine blk_drew ?_ | refine blk_alloc ?_ _)); exact BK542.out)) : gb562 ≠ gb542)); clear HO_5; clear HO_7; clear BK542; clear HB; have HO_5 := n0_; have HO_7 := n1_; have BK542 := n2_; have HB := n3_; have BK562 := n4_; have GW562 := n5_; have GE562 := n6_; have NB542_562 := n7_; have NB562_542 := n8_; clear n0_ n1_ n2_ n3_ n4_ n5_ n6_ n7_ n8_; clear hb hbox hg; have hnb54 := NB562_542.out; have hnc54 := NB542_562.out; have hcz55_0 : w53.cell? ⟨gb562, 0, none⟩ = some (.int .i64 0) := (blk_cell BK562.out 0).trans rfl; have hcz55_1 : w53.cell? ⟨gb562, 1, none⟩ = some (.int .i64 0) := (blk_cell BK562.out 1).trans rfl; have hcz55_2 : w53.cell? ⟨gb562, 2, none⟩ = some (.string (⟨#[]⟩ : ByteArray)) := (blk_cell BK562.out 2).trans rfl; have hcz55_3 : w53.cell? ⟨gb562, 3, none⟩ = some (.int .i64 0) := (blk_cell BK562.out 3).trans rfl; have hfz55_0 := blk_frozen BK562.out 0; have hfz55_1 := blk_frozen BK562.out 1; have hfz55_2 := blk_frozen BK562.out 2; have hfz55_3 := blk_frozen BK562.out 3))
                               go_ret
                               exact ⟨by first | rfl | (simp [errW_none, errW_some] <;> rfl) | (simp [*, errW_none, errW_some] <;> rfl), by repeat (first | (with_reducible first | exact HB.out | apply below_alloc | apply pw_below_drewN | apply below_drew1 | refine below_set ?_ GE542.out | refine below_set ?_ GE562.out) | exact HB.out)⟩
                             ·rw [if_neg c46] at H
                              have c46b0 : decide (0 < x53_3) = false := decide_eq_false c46
                              clear c46
                              have H' := Aside0.mk H
                              clear H
                              have hcz56_0 : wc.cell? ⟨gb542, 0, none⟩ = some (.slice A0_0 l0_0.length c0_0) := (blk_cell BK542.out 0).trans rfl
                              have hfz56_0 := blk_frozen BK542.out 0
                              have p561 : 0 ≤ ((rd (rd_L8 t547 x8_2) x53_3) : Int) := of_decide_eq_true (by first | (with_reducible assumption) | assumption)
                              have q561 : (rd (rd_L8 t547 x8_2) x53_3) < (l0_0.length : Int) := of_decide_eq_true (by first | (with_reducible assumption) | assumption)
                              obtain ⟨ad561, e561, hx561_0, hx561_1, hx561_2, hx561_3⟩ := at_T89 HR0_0.out (rd (rd_L8 t547 x8_2) x53_3) p561 q561
                              cases e561
                              replace hx561_0 := (HB.out.cell (World.block_lt_of_cell? w _ hx561_0)).trans hx561_0
                              replace hx561_1 := (HB.out.cell (World.block_lt_of_cell? w _ hx561_1)).trans hx561_1
                              replace hx561_2 := (HB.out.cell (World.block_lt_of_cell? w _ hx561_2)).trans hx561_2
                              replace hx561_3 := (HB.out.cell (World.block_lt_of_cell? w _ hx561_3)).trans hx561_3
                              replace p561 := eq_true p561
                              replace q561 := eq_true q561
                              go_wp2_with (first | ((with_reducible refine gate_dst (N := 12) rfl ?_); refine box_event ?hg (N := 12) ?hd (cs := #[.int .i64 0, .int .i64 0, .string (⟨#[]⟩ : ByteArray), .int .i64 0]) (t := 89) ?hr ?_; (case hd => rfl); (case hg => rfl); (case hr => first | (go_simp; done) | (go_simp; rfl)); intro gb562 hg w57 hbox hb; have HL556_0 := Aside0.mk (Kd.R_below HL556_0.out hb); have n0_ := Aside0.mk (Kd.S_below (by (with_reducible repeat (first | apply Kd.S_alloc | apply Kd.S_drewN | apply Kd.S_drew)); exact HO_5.out) hb); have n1_ := Aside0.mk (Kd.R_below (by (with_reducible repeat (first | apply Kd.R_alloc | apply Kd.R_drewN | apply Kd.R_drew)); exact HO_7.out) hb); have n2_ := Aside0.mk (blk_below (g := gb542) (o := .cells #[.slice (some ad561) l0_0.length c0_0] 60 (0, 0)) (by (with_reducible repeat (first | refine blk_drewN ?_ _ | refine blk_drew ?_ | refine blk_alloc ?_ _)); exact BK542.out) hb); have n3_ := Aside0.mk (below_step (by repeat (first | (with_reducible first | exact HB.out | apply below_alloc | apply pw_below_drewN | apply below_drew1 | refine below_set ?_ GE542.out) | exact HB.out)) hb); have n4_ := Aside0.mk (hbox); have n5_ := Aside0.mk ((by rw [hg]; exact (below_size (by repeat (first | (with_reducible first | exact HB.out | apply below_alloc | apply pw_below_drewN | apply below_drew1 | refine below_set ?_ GE542.out) | exact HB.out))) : w.heap.size ≤ gb562)); have n6_ := Aside0.mk ((by rw [hg]; exact (below_size (by repeat (first | (with_reducible first | exact HB.out | apply below_alloc | apply pw_below_drewN | apply below_drew1 | refine below_set ?_ GE542.out) | exact HB.out))) : w.heap.size ≤ gb562)); have n7_ := Aside0.mk ((by rw [hg]; exact Nat.ne_of_lt (blk_lt (g := gb542) (o := .cells #[.slice (some ad561) l0_0.length c0_0] 60 (0, 0)) (by (with_reducible repeat (first | refine blk_drewN ?_ _ | refine blk_drew ?_ | refine blk_alloc ?_ _)); exact BK542.out)) : gb542 ≠ gb562)); have n8_ := Aside0.mk ((by rw [hg]; exact Nat.ne_of_gt (blk_lt (g := gb542) (o := .cells #[.slice (some ad561) l0_0.length c0_0] 60 (0, 0)) (by (with_reducible repeat (first | refine blk_drewN ?_ _ | refine blk_drew ?_ | refine blk_alloc ?_ _)); exact BK542.out)) : gb562 ≠ gb542)); clear HO_5; clear HO_7; clear BK542; clear HB; have HO_5 := n0_; have HO_7 := n1_; have BK542 := n2_; have HB := n3_; have BK562 := n4_; have GW562 := n5_; have GE562 := n6_; have NB542_562 := n7_; have NB562_542 := n8_; clear n0_ n1_ n2_ n3_ n4_ n5_ n6_ n7_ n8_; clear hb hbox hg; have hnb58 := NB562_542.out; have hnc58 := NB542_562.out; have hcz59_0 : w57.cell? ⟨gb562, 0, none⟩ = some (.int .i64 0) := (blk_cell BK562.out 0).trans rfl; have hcz59_1 : w57.cell? ⟨gb562, 1, none⟩ = some (.int .i64 0) := (blk_cell BK562.out 1).trans rfl; have hcz59_2 : w57.cell? ⟨gb562, 2, none⟩ = some (.string (⟨#[]⟩ : ByteArray)) := (blk_cell BK562.out 2).trans rfl; have hcz59_3 : w57.cell? ⟨gb562, 3, none⟩ = some (.int .i64 0) := (blk_cell BK562.out 3).trans rfl; have hfz59_0 := blk_frozen BK562.out 0; have hfz59_1 := blk_frozen BK562.out 1; have hfz59_2 := blk_frozen BK562.out 2; have hfz59_3 := blk_frozen BK562.out 3))
                              (try simp only [← hl7_3, ← hl7_34])
                              go_roundg kj34
                              case measure => have := HJ4.out; have := HK2.out; have := HK3.out; have := HJ34.out; omega
                              case rel => exact ⟨(y559), ((rd_T89 l0_0 (rd (rd_L8 t547 x8_2) x53_3)).f2), (wrap64 (x53_3 + 1)), (by first | rfl | (simp; done) | (simp [*]; done)), (by first | rfl | (simp; done) | (simp [*]; done)), H', ⟨by have := HJ4.out; have := HK2.out; have := HK3.out; have := HJ34.out; omega⟩, ⟨by (try simp only [hl7_3]); (try simp only [hl7_34]); (with_reducible repeat (first | apply Kd.S_alloc | apply Kd.S_drewN | apply Kd.S_drew)); exact Kd.S_mono (Kd.S_far (p := ⟨gb562, 3, none⟩) (Kd.S_far (p := ⟨gb562, 2, none⟩) (Kd.S_far (p := ⟨gb562, 1, none⟩) (Kd.S_far (p := ⟨gb562, 0, none⟩) (Kd.S_types HO_5.out BK562.out (by decide)) (fun _ hk => hk.2) (.int .i64 ((rd_T89 l0_0 (rd (rd_L8 t547 x8_2) x53_3)).f0))) (fun _ hk => hk.2) (.int .i64 ((rd_T89 l0_0 (rd (rd_L8 t547 x8_2) x53_3)).f1))) (fun _ hk => hk.2) (.string ((rd_T89 l0_0 (rd (rd_L8 t547 x8_2) x53_3)).f2))) (fun _ hk => hk.2) (.int .i64 ((rd_T89 l0_0 (rd (rd_L8 t547 x8_2) x53_3)).f3))) (fun _ hk => hk.1)⟩, ⟨by (try simp only [hl7_3]); (try simp only [hl7_34]); (with_reducible repeat (first | apply Kd.R_alloc | apply Kd.R_drewN | apply Kd.R_drew)); exact Kd.R_mono (Kd.R_far (p := ⟨gb562, 3, none⟩) (Kd.R_far (p := ⟨gb562, 2, none⟩) (Kd.R_far (p := ⟨gb562, 1, none⟩) (Kd.R_far (p := ⟨gb562, 0, none⟩) (Kd.R_types HO_7.out BK562.out (by decide)) (fun _ hk => hk.2) (.int .i64 ((rd_T89 l0_0 (rd (rd_L8 t547 x8_2) x53_3)).f0))) (fun _ hk => hk.2) (.int .i64 ((rd_T89 l0_0 (rd (rd_L8 t547 x8_2) x53_3)).f1))) (fun _ hk => hk.2) (.string ((rd_T89 l0_0 (rd (rd_L8 t547 x8_2) x53_3)).f2))) (fun _ hk => hk.2) (.int .i64 ((rd_T89 l0_0 (rd (rd_L8 t547 x8_2) x53_3)).f3))) (fun _ hk => trivial)⟩, ⟨by (try simp only [hl7_3]); (try simp only [hl7_34]); (with_reducible repeat (first | refine blk_drewN ?_ _ | refine blk_drew ?_ | refine blk_alloc ?_ _)); refine blk_far ?_ NB542_562.out _; (with_reducible repeat (first | refine blk_drewN ?_ _ | refine blk_drew ?_ | refine blk_alloc ?_ _)); refine blk_far ?_ NB542_562.out _; (with_reducible repeat (first | refine blk_drewN ?_ _ | refine blk_drew ?_ | refine blk_alloc ?_ _)); refine blk_far ?_ NB542_562.out _; (with_reducible repeat (first | refine blk_drewN ?_ _ | refine blk_drew ?_ | refine blk_alloc ?_ _)); refine blk_far ?_ NB542_562.out _; (with_reducible repeat (first | refine blk_drewN ?_ _ | refine blk_drew ?_ | refine blk_alloc ?_ _)); exact BK542.out⟩, ⟨by (with_reducible repeat (first | apply Kd.R_alloc | apply Kd.R_drewN | apply Kd.R_drew)); exact Kd.R_mono (Kd.R_far (p := ⟨gb562, 3, none⟩) (Kd.R_far (p := ⟨gb562, 2, none⟩) (Kd.R_far (p := ⟨gb562, 1, none⟩) (Kd.R_far (p := ⟨gb562, 0, none⟩) (Kd.R_types HL556_0.out BK562.out (by decide)) (fun _ hk => hk.2) (.int .i64 ((rd_T89 l0_0 (rd (rd_L8 t547 x8_2) x53_3)).f0))) (fun _ hk => hk.2) (.int .i64 ((rd_T89 l0_0 (rd (rd_L8 t547 x8_2) x53_3)).f1))) (fun _ hk => hk.2) (.string ((rd_T89 l0_0 (rd (rd_L8 t547 x8_2) x53_3)).f2))) (fun _ hk => hk.2) (.int .i64 ((rd_T89 l0_0 (rd (rd_L8 t547 x8_2) x53_3)).f3))) (fun _ h_ => h_.1)⟩, ⟨by repeat (first | (with_reducible first | exact HB.out | apply below_alloc | apply pw_below_drewN | apply below_drew1 | refine below_set ?_ GE542.out | refine below_set ?_ GE562.out) | exact HB.out)⟩⟩
                            ·rw [if_neg c45] at H
                             have c45b0 : (((rd_T89 l0_0 (rd (rd_L8 t547 x8_2) x53_3)).f0) == 3) = false := beq_eq_false_iff_ne.mpr c45
                             have c45b1 : (((rd_T89 l0_0 (rd (rd_L8 t547 x8_2) x53_3)).f0) != 3) = true := bne_iff_ne.mpr c45
                             obtain rfl := Option.some.inj H
                             have hcz60_0 : wc.cell? ⟨gb542, 0, none⟩ = some (.slice A0_0 l0_0.length c0_0) := (blk_cell BK542.out 0).trans rfl
                             have hfz60_0 := blk_frozen BK542.out 0
                             have p561 : 0 ≤ ((rd (rd_L8 t547 x8_2) x53_3) : Int) := of_decide_eq_true (by first | (with_reducible assumption) | assumption)
                             have q561 : (rd (rd_L8 t547 x8_2) x53_3) < (l0_0.length : Int) := of_decide_eq_true (by first | (with_reducible assumption) | assumption)
                             obtain ⟨ad561, e561, hx561_0, hx561_1, hx561_2, hx561_3⟩ := at_T89 HR0_0.out (rd (rd_L8 t547 x8_2) x53_3) p561 q561
                             cases e561
                             replace hx561_0 := (HB.out.cell (World.block_lt_of_cell? w _ hx561_0)).trans hx561_0
                             replace hx561_1 := (HB.out.cell (World.block_lt_of_cell? w _ hx561_1)).trans hx561_1
                             replace hx561_2 := (HB.out.cell (World.block_lt_of_cell? w _ hx561_2)).trans hx561_2
                             replace hx561_3 := (HB.out.cell (World.block_lt_of_cell? w _ hx561_3)).trans hx561_3
                             replace p561 := eq_true p561
                             replace q561 := eq_true q561
                             go_wp2_with (first | ((with_reducible refine gate_dst (N := 12) rfl ?_); refine box_event ?hg (N := 12) ?hd (cs := #[.int .i64 0, .int .i64 0, .string (⟨#[]⟩ : ByteArray), .int .i64 0]) (t := 89) ?hr ?_; (case hd => rfl); (case hg => rfl); (case hr => first | (go_simp; done) | (go_simp; rfl)); intro gb562 hg w61 hbox hb; have HL556_0 := Aside0.mk (Kd.R_below HL556_0.out hb); have n0_ := Aside0.mk (Kd.S_below (by (with_reducible repeat (first | apply Kd.S_alloc | apply Kd.S_drewN | apply Kd.S_drew)); exact HO_5.out) hb); have n1_ := Aside0.mk (Kd.R_below (by (with_reducible repeat (first | apply Kd.R_alloc | apply Kd.R_drewN | apply Kd.R_drew)); exact HO_7.out) hb); have n2_ := Aside0.mk (blk_below (g := gb542) (o := .cells #[.slice (some ad561) l0_0.length c0_0] 60 (0, 0)) (by (with_reducible repeat (first | refine blk_drewN ?_ _ | refine blk_drew ?_ | refine blk_alloc ?_ _)); exact BK542.out) hb); have n3_ := Aside0.mk (below_step (by repeat (first | (with_reducible first | exact HB.out | apply below_alloc | apply pw_below_drewN | apply below_drew1 | refine below_set ?_ GE542.out) | exact HB.out)) hb); have n4_ := Aside0.mk (hbox); have n5_ := Aside0.mk ((by rw [hg]; exact (below_size (by repeat (first | (with_reducible first | exact HB.out | apply below_alloc | apply pw_below_drewN | apply below_drew1 | refine below_set ?_ GE542.out) | exact HB.out))) : w.heap.size ≤ gb562)); have n6_ := Aside0.mk ((by rw [hg]; exact (below_size (by repeat (first | (with_reducible first | exact HB.out | apply below_alloc | apply pw_below_drewN | apply below_drew1 | refine below_set ?_ GE542.out) | exact HB.out))) : w.heap.size ≤ gb562)); have n7_ := Aside0.mk ((by rw [hg]; exact Nat.ne_of_lt (blk_lt (g := gb542) (o := .cells #[.slice (some ad561) l0_0.length c0_0] 60 (0, 0)) (by (with_reducible repeat (first | refine blk_drewN ?_ _ | refine blk_drew ?_ | refine blk_alloc ?_ _)); exact BK542.out)) : gb542 ≠ gb562)); have n8_ := Aside0.mk ((by rw [hg]; exact Nat.ne_of_gt (blk_lt (g := gb542) (o := .cells #[.slice (some ad561) l0_0.length c0_0] 60 (0, 0)) (by (with_reducible repeat (first | refine blk_drewN ?_ _ | refine blk_drew ?_ | refine blk_alloc ?_ _)); exact BK542.out)) : gb562 ≠ gb542)); clear HO_5; clear HO_7; clear BK542; clear HB; have HO_5 := n0_; have HO_7 := n1_; have BK542 := n2_; have HB := n3_; have BK562 := n4_; have GW562 := n5_; have GE562 := n6_; have NB542_562 := n7_; have NB562_542 := n8_; clear n0_ n1_ n2_ n3_ n4_ n5_ n6_ n7_ n8_; clear hb hbox hg; have hnb62 := NB562_542.out; have hnc62 := NB542_562.out; have hcz63_0 : w61.cell? ⟨gb562, 0, none⟩ = some (.int .i64 0) := (blk_cell BK562.out 0).trans rfl; have hcz63_1 : w61.cell? ⟨gb562, 1, none⟩ = some (.int .i64 0) := (blk_cell BK562.out 1).trans rfl; have hcz63_2 : w61.cell? ⟨gb562, 2, none⟩ = some (.string (⟨#[]⟩ : ByteArray)) := (blk_cell BK562.out 2).trans rfl; have hcz63_3 : w61.cell? ⟨gb562, 3, none⟩ = some (.int .i64 0) := (blk_cell BK562.out 3).trans rfl; have hfz63_0 := blk_frozen BK562.out 0; have hfz63_1 := blk_frozen BK562.out 1; have hfz63_2 := blk_frozen BK562.out 2; have hfz63_3 := blk_frozen BK562.out 3))
                             go_ret
                             exact ⟨by first | rfl | (simp [errW_none, errW_some] <;> rfl) | (simp [*, errW_none, errW_some] <;> rfl), by repeat (first | (with_reducible first | exact HB.out | apply below_alloc | apply pw_below_drewN | apply below_drew1 | refine below_set ?_ GE542.out | refine below_set ?_ GE562.out) | exact HB.out)⟩
                           ·rw [if_neg c44] at H
                            exact absurd H (by simp)
                          ·rw [if_neg c43] at H
                           exact absurd H (by simp)
                         ·replace c42 := Bool.eq_false_iff.mpr c42
                          subst c42
                          have H1 : (impl_ValidValue.l1 kj34 t547 y559 x8_2 x9_3 (rd_L8 t547 x8_2) ((rd_L8 t547 x8_2).length : Int) (wrap64 (x53_3 + 1)) l0_0) = some r := by rw [if_neg (show ¬ (false = true) by decide)] at H; exact H
                          clear H
                          have H := H1
                          clear H1
                          have H' := Aside0.mk H
                          clear H
                          go_wp2
                          (try simp only [← hl7_3, ← hl7_34])
                          go_roundg kj34
                          case measure => have := HJ4.out; have := HK2.out; have := HK3.out; have := HJ34.out; omega
                          case rel => exact ⟨(y559), (x9_3), (wrap64 (x53_3 + 1)), (by first | rfl | (simp; done) | (simp [*]; done)), (by first | rfl | (simp; done) | (simp [*]; done)), H', ⟨by have := HJ4.out; have := HK2.out; have := HK3.out; have := HJ34.out; omega⟩, ⟨by (try simp only [hl7_3]); (try simp only [hl7_34]); (with_reducible repeat (first | apply Kd.S_alloc | apply Kd.S_drewN | apply Kd.S_drew)); exact HO_5.out⟩, ⟨by (try simp only [hl7_3]); (try simp only [hl7_34]); (with_reducible repeat (first | apply Kd.R_alloc | apply Kd.R_drewN | apply Kd.R_drew)); exact HO_7.out⟩, ⟨by (try simp only [hl7_3]); (try simp only [hl7_34]); (with_reducible repeat (first | refine blk_drewN ?_ _ | refine blk_drew ?_ | refine blk_alloc ?_ _)); exact BK542.out⟩, ⟨by (with_reducible repeat (first | apply Kd.R_alloc | apply Kd.R_drewN | apply Kd.R_drew)); exact Kd.R_mono HL556_0.out (fun _ h_ => by first | exact h_ | exact h_.1)⟩, ⟨by repeat (first | (with_reducible first | exact HB.out | apply below_alloc | apply pw_below_drewN | apply below_drew1 | refine below_set ?_ GE542.out) | exact HB.out)⟩⟩
                      ·rw [if_neg c33] at H
                       exact absurd H (by simp)
                     ·rw [if_neg c32] at H
                      exact absurd H (by simp)
                    ·rw [if_neg c31] at H
                     exact absurd H (by simp)
                   ·rw [if_neg c30] at H
                    exact absurd H (by simp)
                  ·rw [if_neg c29] at H
                   exact absurd H (by simp)
                 ·rw [if_neg c28] at H
                  exact absurd H (by simp)
                ·rw [if_neg c27] at H
                 have c27b0 : decide (x53_3 < ((rd_L8 t547 x8_2).length : Int)) = false := decide_eq_false c27
                 clear c27
                 have H' := Aside0.mk H
                 clear H
                 go_wp2
                 (try simp only [← hl7_3])
                 go_roundg k3
                 case measure => have := HJ4.out; have := HK2.out; have := HK3.out; omega
                 case rel => exact ⟨(x7_3), (wrap64 (x8_2 - 1)), (by first | rfl | (simp; done) | (simp [*]; done)), H', ⟨by have := HJ4.out; have := HK2.out; have := HK3.out; omega⟩, ⟨by (try simp only [hl7_3]); (with_reducible repeat (first | apply Kd.S_alloc | apply Kd.S_drewN | apply Kd.S_drew)); exact HO_5.out⟩, ⟨by (try simp only [hl7_3]); (with_reducible repeat (first | apply Kd.R_alloc | apply Kd.R_drewN | apply Kd.R_drew)); exact HO_7.out⟩, ⟨by (try simp only [hl7_3]); (with_reducible repeat (first | refine blk_drewN ?_ _ | refine blk_drew ?_ | refine blk_alloc ?_ _)); exact BK542.out⟩, ⟨by repeat (first | (with_reducible first | exact HB.out | apply below_alloc | apply pw_below_drewN | apply below_drew1 | refine below_set ?_ GE542.out) | exact HB.out)⟩⟩
             ·rw [if_neg c24] at H
              exact absurd H (by simp)
           ·rw [if_neg c21] at H
            exact absurd H (by simp)
          ·rw [if_neg c20] at H
           exact absurd H (by simp)
         ·rw [if_neg c19] at H
          have c19b0 : decide (0 ≤ x8_2) = false := decide_eq_false c19
          clear c19
          obtain rfl := Option.some.inj H
          go_wp2
          go_ret
          exact ⟨by first | rfl | (simp [errW_none, errW_some] <;> rfl) | (simp [*, errW_none, errW_some] <;> rfl), by repeat (first | (with_reducible first | exact HB.out | apply below_alloc | apply pw_below_drewN | apply below_drew1 | refine below_set ?_ GE542.out) | exact HB.out)⟩
      ·rw [if_neg c16] at H
       exact absurd H (by simp)
     ·rw [if_neg c15] at H
      exact absurd H (by simp)
 ·replace c3 := Bool.eq_false_iff.mpr c3
  subst c3
  have H1 : (some false) = some r := by rw [if_neg (show ¬ (false = true) by decide)] at H; exact H
  clear H
  have H := H1
  clear H1
  obtain rfl := Option.some.inj H
  go_enter Try.func34, Try.ntmps34
  go_wp2_with (first | ((with_reducible refine gate_dst (N := 1) rfl ?_); refine box_event ?hg (N := 1) ?hd (cs := #[.slice A0_0 l0_0.length c0_0]) (t := 60) ?hr ?_; (case hd => rfl); (case hg => rfl); (case hr => first | (go_simp; done) | (go_simp; rfl)); intro gb542 hg w64 hbox hb; have n0_ := Aside0.mk (below_step (by repeat (first | (with_reducible first | exact HB.out | apply below_alloc | apply pw_below_drewN | apply below_drew1) | exact HB.out)) hb); have n1_ := Aside0.mk (hbox); have n2_ := Aside0.mk ((by rw [hg]; exact (below_size (by repeat (first | (with_reducible first | exact HB.out | apply below_alloc | apply pw_below_drewN | apply below_drew1) | exact HB.out))) : w.heap.size ≤ gb542)); have n3_ := Aside0.mk ((by rw [hg]; exact (below_size (by repeat (first | (with_reducible first | exact HB.out | apply below_alloc | apply pw_below_drewN | apply below_drew1) | exact HB.out))) : w.heap.size ≤ gb542)); clear HB; have HB := n0_; have BK542 := n1_; have GW542 := n2_; have GE542 := n3_; clear n0_ n1_ n2_ n3_; clear hb hbox hg; have hcz65_0 : w64.cell? ⟨gb542, 0, none⟩ = some (.slice A0_0 l0_0.length c0_0) := (blk_cell BK542.out 0).trans rfl; have hfz65_0 := blk_frozen BK542.out 0) | ((with_reducible refine gate_callee (f := 37) rfl ?_); refine goesL_ (some 17) rfl rfl Try.func37 (by kernel_rfl) rfl #[.int .i64 (l0_0.length : Int), .int .i64 1, .int .i64 300] rfl (by (try simp only [List.map_toArray, List.map_cons, List.map_nil]); first | done | rfl | (simp only [List.length_drop, List.length_take]; rfl)) ?_; (with_reducible refine (impl_in.calls (l0_0.length : Int) 1 300 false _ A2.out).mono ?_); rintro e w' ⟨rfl, ⟨nd, rfl⟩⟩; refine ⟨_, rfl, ?_⟩))
  go_ret
  exact ⟨by first | rfl | (simp [errW_none, errW_some] <;> rfl) | (simp [*, errW_none, errW_some] <;> rfl), by repeat (first | (with_reducible first | exact HB.out | apply below_alloc | apply pw_below_drewN | apply below_drew1 | refine below_set ?_ GE542.out) | exact HB.out)⟩

end Go.Proofs.Ytgaibeckblmbbaa.P
