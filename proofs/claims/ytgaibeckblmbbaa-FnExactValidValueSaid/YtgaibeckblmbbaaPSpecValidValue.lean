-- Printed for this claim by a small program of this session (kprint.py), which drives the kit's print program.
import Derived.Test.YtgaibeckblmbbaaP0
import Derived.Test.YtgaibeckblmbbaaPSpecL1In
import Derived.Test.YtgaibeckblmbbaaPSpecL2AtomOk
import Derived.Test.YtgaibeckblmbbaaPSpecL2Kids
namespace Go.Proofs.Ytgaibeckblmbbaa.P
open Go.RowKit Go.Proofs.YtgaibeckblmbbaaW.PrintWords Go.Proofs.YtgaibeckblmbbaaW.PrintLast Go.Proofs.YtgaibeckblmbbaaW.PrintMore
attribute [local go_sem] max2_int min2_int max_two min_two max_three min_three max_four min_four
set_option linter.unusedVariables false
set_option linter.unusedSimpArgs false

/-! ### spec_ValidValue: function 32 -/
mutual
def spec_ValidValue.l0 : Nat → List (List Int) → List Int → Int → List (S89) → Option (Bool)
 | 0, _, _, _, _ => none
 | k + 1, x3, x5, x6, x474000 => if x6 < (x3.length : Int) then (spec_ValidValue.l1 k x3 x5 x6 0 (⟨#[]⟩ : ByteArray) 0 x474000) else (some true)
def spec_ValidValue.l1 : Nat → List (List Int) → List Int → Int → Int → ByteArray → Int → List (S89) → Option (Bool)
 | 0, _, _, _, _, _, _, _ => none
 | k + 1, x3, x5, x6, x7, x8, x9, x474000 => if 0 ≤ x6 then (if x6 < (x3.length : Int) then (if x9 < ((rd_L8 x3 x6).length : Int) then (if 0 ≤ x9 then (if 0 ≤ (rd (rd_L8 x3 x6) x9) then (if (rd (rd_L8 x3 x6) x9) < (x474000.length : Int) then (if (rd (rd_L8 x3 x6) x9) < (x5.length : Int) then (if (wrap64 ((rd x5 (rd (rd_L8 x3 x6) x9)) + 1)) > x7 then (spec_ValidValue.j2 k x3 x5 x6 (wrap64 ((rd x5 (rd (rd_L8 x3 x6) x9)) + 1)) x8 x9 x474000 ((rd_T89 x474000 (rd (rd_L8 x3 x6) x9)).f0) ((rd_T89 x474000 (rd (rd_L8 x3 x6) x9)).f1) ((rd_T89 x474000 (rd (rd_L8 x3 x6) x9)).f2) ((rd_T89 x474000 (rd (rd_L8 x3 x6) x9)).f3)) else (spec_ValidValue.j2 k x3 x5 x6 x7 x8 x9 x474000 ((rd_T89 x474000 (rd (rd_L8 x3 x6) x9)).f0) ((rd_T89 x474000 (rd (rd_L8 x3 x6) x9)).f1) ((rd_T89 x474000 (rd (rd_L8 x3 x6) x9)).f2) ((rd_T89 x474000 (rd (rd_L8 x3 x6) x9)).f3))) else (none)) else (none)) else (none)) else (none)) else (if x5.length < 17592186044416 then (if x7 > 12 then (some false) else (if x6 < (x474000.length : Int) then ((spec_l2AtomOk.f k ((rd_T89 x474000 x6).f0) ((rd_T89 x474000 x6).f1) ((rd_T89 x474000 x6).f2) ((rd_T89 x474000 x6).f3)).bind fun t487 => (if t487 = true then (spec_ValidValue.l0 k x3 (x5 ++ [x7]) (wrap64 (x6 + 1)) x474000) else (some false))) else (none))) else (none))) else (none)) else (none)
def spec_ValidValue.j2 : Nat → List (List Int) → List Int → Int → Int → ByteArray → Int → List (S89) → Int → Int → ByteArray → Int → Option (Bool)
 | 0, _, _, _, _, _, _, _, _, _, _, _ => none
 | k + 1, x3, x5, x6, x7, x8, x9, x474000, x492000, x492001, x492002, x492003 => if 0 ≤ x6 then (if x6 < (x474000.length : Int) then (if ((rd_T89 x474000 x6).f0) = 5 then (spec_ValidValue.j3 k x3 x5 x6 x7 x8 x9 ((Int.tmod x9 2) == 0) x474000 x492000 x492001 x492002 x492003) else (spec_ValidValue.j3 k x3 x5 x6 x7 x8 x9 false x474000 x492000 x492001 x492002 x492003)) else (none)) else (none)
def spec_ValidValue.j3 : Nat → List (List Int) → List Int → Int → Int → ByteArray → Int → Bool → List (S89) → Int → Int → ByteArray → Int → Option (Bool)
 | 0, _, _, _, _, _, _, _, _, _, _, _, _ => none
 | k + 1, x3, x5, x6, x7, x8, x9, x85, x474000, x492000, x492001, x492002, x492003 => if x85 = true then (if x492000 = 3 then (if x9 > 0 then (if ((Op.bytesLess x8.toList x492002.toList) = true) then (spec_ValidValue.l1 k x3 x5 x6 x7 x492002 (wrap64 (x9 + 1)) x474000) else (some false)) else (spec_ValidValue.l1 k x3 x5 x6 x7 x492002 (wrap64 (x9 + 1)) x474000)) else (some false)) else (spec_ValidValue.l1 k x3 x5 x6 x7 x8 (wrap64 (x9 + 1)) x474000)
end
def spec_ValidValue.f (k : Nat) (l0_0 : List (S89)) : Option (Bool) := (spec_l1In.f (l0_0.length : Int) 1 300).bind fun t474 => (if t474 = true then ((spec_l2Kids.f k l0_0).bind fun bt475 => (if bt475.2 = true then (spec_ValidValue.l0 k bt475.1 (([] : List Int)) 0 l0_0) else (some false))) else (some false))
theorem spec_ValidValue.mono_l : ∀ k, (∀ y0 y1 y2 y3, LeO (spec_ValidValue.l0 k y0 y1 y2 y3) (spec_ValidValue.l0 (k + 1) y0 y1 y2 y3)) ∧ (∀ y0 y1 y2 y3 y4 y5 y6, LeO (spec_ValidValue.l1 k y0 y1 y2 y3 y4 y5 y6) (spec_ValidValue.l1 (k + 1) y0 y1 y2 y3 y4 y5 y6)) ∧ (∀ y0 y1 y2 y3 y4 y5 y6 y7 y8 y9 y10, LeO (spec_ValidValue.j2 k y0 y1 y2 y3 y4 y5 y6 y7 y8 y9 y10) (spec_ValidValue.j2 (k + 1) y0 y1 y2 y3 y4 y5 y6 y7 y8 y9 y10)) ∧ (∀ y0 y1 y2 y3 y4 y5 y6 y7 y8 y9 y10 y11, LeO (spec_ValidValue.j3 k y0 y1 y2 y3 y4 y5 y6 y7 y8 y9 y10 y11) (spec_ValidValue.j3 (k + 1) y0 y1 y2 y3 y4 y5 y6 y7 y8 y9 y10 y11))
 | 0 => ⟨fun _ _ _ _ r h => by simp [spec_ValidValue.l0] at h, fun _ _ _ _ _ _ _ r h => by simp [spec_ValidValue.l1] at h, fun _ _ _ _ _ _ _ _ _ _ _ r h => by simp [spec_ValidValue.j2] at h, fun _ _ _ _ _ _ _ _ _ _ _ _ r h => by simp [spec_ValidValue.j3] at h⟩
 | k + 1 => by
  obtain ⟨ih0, ih1, ih2, ih3⟩ := spec_ValidValue.mono_l k
  refine ⟨?_, ?_, ?_, ?_⟩
  ·intro y0 y1 y2 y3
   unfold spec_ValidValue.l0
   repeat' first
   | (with_reducible exact ih0 _ _ _ _)
   | (with_reducible exact ih1 _ _ _ _ _ _ _)
   | (with_reducible exact ih2 _ _ _ _ _ _ _ _ _ _ _)
   | (with_reducible exact ih3 _ _ _ _ _ _ _ _ _ _ _ _)
   | (with_reducible exact spec_l2AtomOk.mono _ _ _ _ _)
   | (with_reducible exact spec_l2Kids.mono _ _)
   | (with_reducible exact LeO.refl _)
   | (with_reducible exact LeO.none _)
   | (with_reducible refine LeO.ite ?_ ?_)
   | (with_reducible refine LeO.bind ?_ (fun _ => ?_))
   | exact ih0 _ _ _ _
   | exact ih1 _ _ _ _ _ _ _
   | exact ih2 _ _ _ _ _ _ _ _ _ _ _
   | exact ih3 _ _ _ _ _ _ _ _ _ _ _ _
   | exact spec_l2AtomOk.mono _ _ _ _ _
   | exact spec_l2Kids.mono _ _
   | exact LeO.none _
   | refine LeO.ite ?_ ?_
   | refine LeO.bind ?_ (fun _ => ?_)
  ·intro y0 y1 y2 y3 y4 y5 y6
   unfold spec_ValidValue.l1
   repeat' first
   | (with_reducible exact ih0 _ _ _ _)
   | (with_reducible exact ih1 _ _ _ _ _ _ _)
   | (with_reducible exact ih2 _ _ _ _ _ _ _ _ _ _ _)
   | (with_reducible exact ih3 _ _ _ _ _ _ _ _ _ _ _ _)
   | (with_reducible exact spec_l2AtomOk.mono _ _ _ _ _)
   | (with_reducible exact spec_l2Kids.mono _ _)
   | (with_reducible exact LeO.refl _)
   | (with_reducible exact LeO.none _)
   | (with_reducible refine LeO.ite ?_ ?_)
   | (with_reducible refine LeO.bind ?_ (fun _ => ?_))
   | exact ih0 _ _ _ _
   | exact ih1 _ _ _ _ _ _ _
   | exact ih2 _ _ _ _ _ _ _ _ _ _ _
   | exact ih3 _ _ _ _ _ _ _ _ _ _ _ _
   | exact spec_l2AtomOk.mono _ _ _ _ _
   | exact spec_l2Kids.mono _ _
   | exact LeO.none _
   | refine LeO.ite ?_ ?_
   | refine LeO.bind ?_ (fun _ => ?_)
  ·intro y0 y1 y2 y3 y4 y5 y6 y7 y8 y9 y10
   unfold spec_ValidValue.j2
   repeat' first
   | (with_reducible exact ih0 _ _ _ _)
   | (with_reducible exact ih1 _ _ _ _ _ _ _)
   | (with_reducible exact ih2 _ _ _ _ _ _ _ _ _ _ _)
   | (with_reducible exact ih3 _ _ _ _ _ _ _ _ _ _ _ _)
   | (with_reducible exact spec_l2AtomOk.mono _ _ _ _ _)
   | (with_reducible exact spec_l2Kids.mono _ _)
   | (with_reducible exact LeO.refl _)
   | (with_reducible exact LeO.none _)
   | (with_reducible refine LeO.ite ?_ ?_)
   | (with_reducible refine LeO.bind ?_ (fun _ => ?_))
   | exact ih0 _ _ _ _
   | exact ih1 _ _ _ _ _ _ _
   | exact ih2 _ _ _ _ _ _ _ _ _ _ _
   | exact ih3 _ _ _ _ _ _ _ _ _ _ _ _
   | exact spec_l2AtomOk.mono _ _ _ _ _
   | exact spec_l2Kids.mono _ _
   | exact LeO.none _
   | refine LeO.ite ?_ ?_
   | refine LeO.bind ?_ (fun _ => ?_)
  ·intro y0 y1 y2 y3 y4 y5 y6 y7 y8 y9 y10 y11
   unfold spec_ValidValue.j3
   repeat' first
   | (with_reducible exact ih0 _ _ _ _)
   | (with_reducible exact ih1 _ _ _ _ _ _ _)
   | (with_reducible exact ih2 _ _ _ _ _ _ _ _ _ _ _)
   | (with_reducible exact ih3 _ _ _ _ _ _ _ _ _ _ _ _)
   | (with_reducible exact spec_l2AtomOk.mono _ _ _ _ _)
   | (with_reducible exact spec_l2Kids.mono _ _)
   | (with_reducible exact LeO.refl _)
   | (with_reducible exact LeO.none _)
   | (with_reducible refine LeO.ite ?_ ?_)
   | (with_reducible refine LeO.bind ?_ (fun _ => ?_))
   | exact ih0 _ _ _ _
   | exact ih1 _ _ _ _ _ _ _
   | exact ih2 _ _ _ _ _ _ _ _ _ _ _
   | exact ih3 _ _ _ _ _ _ _ _ _ _ _ _
   | exact spec_l2AtomOk.mono _ _ _ _ _
   | exact spec_l2Kids.mono _ _
   | exact LeO.none _
   | refine LeO.ite ?_ ?_
   | refine LeO.bind ?_ (fun _ => ?_)
theorem spec_ValidValue.mono : ∀ a0 k, LeO (spec_ValidValue.f k a0) (spec_ValidValue.f (k + 1) a0) := by
 intro a0 k
 obtain ⟨ih0, ih1, ih2, ih3⟩ := spec_ValidValue.mono_l k
 unfold spec_ValidValue.f
 repeat' first
   | (with_reducible exact ih0 _ _ _ _)
   | (with_reducible exact ih1 _ _ _ _ _ _ _)
   | (with_reducible exact ih2 _ _ _ _ _ _ _ _ _ _ _)
   | (with_reducible exact ih3 _ _ _ _ _ _ _ _ _ _ _ _)
   | (with_reducible exact spec_l2AtomOk.mono _ _ _ _ _)
   | (with_reducible exact spec_l2Kids.mono _ _)
   | (with_reducible exact LeO.refl _)
   | (with_reducible exact LeO.none _)
   | (with_reducible refine LeO.ite ?_ ?_)
   | (with_reducible refine LeO.bind ?_ (fun _ => ?_))
   | exact ih0 _ _ _ _
   | exact ih1 _ _ _ _ _ _ _
   | exact ih2 _ _ _ _ _ _ _ _ _ _ _
   | exact ih3 _ _ _ _ _ _ _ _ _ _ _ _
   | exact spec_l2AtomOk.mono _ _ _ _ _
   | exact spec_l2Kids.mono _ _
   | exact LeO.none _
   | refine LeO.ite ?_ ?_
   | refine LeO.bind ?_ (fun _ => ?_)
def spec_ValidValue.T15 : Bool × List (List Nat × List Nat) := (true, [([], []), ([0], [0]), ([], []), ([], []), ([2, 3], [2, 3]), ([4], [4]), ([], []), ([5, 6], [5, 6]), ([7], [7]), ([1, 8], [1, 8]), ([9], [9]), ([], []), ([11, 10, 0, 1, 2, 3, 4, 5, 6, 7, 8, 9, 10, 11], [10, 11])])
def spec_ValidValue.B15 : List Nat := [0, 1, 0, 0, 12, 28, 0, 124, 252, 511, 1023, 0, 4095]
theorem spec_ValidValue.tab15 : rtab .any (opsOf Try.f32 15) = spec_ValidValue.T15 := by kernel_rfl
theorem spec_ValidValue.bits15 : waitsOk spec_ValidValue.T15.2 spec_ValidValue.B15 = true := by kernel_rfl
set_option maxHeartbeats 8000000 in
set_option maxRecDepth 100000 in
theorem spec_ValidValue.calls (k : Nat) (A0_0 : Option Addr) (c0_0 : Nat) (l0_0 : List (S89)) (r : Bool) (w : World) (hr0_0 : Kd.C k89 w A0_0 l0_0.length l0_0) (hc0_0 : l0_0.length ≤ c0_0) (h : spec_ValidValue.f k l0_0 = some r) :
  Calls Try.prog 32 #[.agg #[.slice A0_0 l0_0.length c0_0]] w fun e w' => e = .returned (.bool r) ∧ Below w.heap.size w w' := by
 have hu60 := Try.underlying60
 have hu89 := Try.underlying89
 have HR0_0 := Aside0.mk hr0_0
 have HC0_0 := Aside0.mk hc0_0
 clear hr0_0 hc0_0
 have HB := Aside0.mk (Below.refl w.heap.size w)
 have H : ((spec_l1In.f (l0_0.length : Int) 1 300).bind fun t474 => (if t474 = true then ((spec_l2Kids.f k l0_0).bind fun bt475 => (if bt475.2 = true then (spec_ValidValue.l0 k bt475.1 (([] : List Int)) 0 l0_0) else (some false))) else (some false))) = some r := h
 clear h
 replace H := Option.bind_eq_some_iff.mp H
 obtain ⟨t474, A20, H⟩ := H
 replace H : (if t474 = true then ((spec_l2Kids.f k l0_0).bind fun bt475 => (if bt475.2 = true then (spec_ValidValue.l0 k bt475.1 (([] : List Int)) 0 l0_0) else (some false))) else (some false)) = some r := H
 have A2 := Aside0.mk A20
 clear A20
 by_cases c3 : t474 = true
 ·subst c3
  have H1 : ((spec_l2Kids.f k l0_0).bind fun bt475 => (if bt475.2 = true then (spec_ValidValue.l0 k bt475.1 (([] : List Int)) 0 l0_0) else (some false))) = some r := by rw [if_pos rfl] at H; exact H
  clear H
  have H := H1
  clear H1
  replace H := Option.bind_eq_some_iff.mp H
  obtain ⟨⟨t475, t478⟩, A40, H⟩ := H
  replace H : (if t478 = true then (spec_ValidValue.l0 k t475 (([] : List Int)) 0 l0_0) else (some false)) = some r := H
  have A4 := Aside0.mk A40
  clear A40
  by_cases c5 : t478 = true
  ·subst c5
   have H1 : (spec_ValidValue.l0 k t475 (([] : List Int)) 0 l0_0) = some r := by rw [if_pos rfl] at H; exact H
   clear H
   have H := H1
   clear H1
   obtain ⟨y479, hy479⟩ : ∃ y_ : List Int, y_ = (([] : List Int)) := ⟨_, rfl⟩
   replace H : (spec_ValidValue.l0 k t475 y479 0 l0_0) = some r := by first | (rw [hy479]; with_reducible exact H) | (have H2_ := (Option.bind_some _ _).symm.trans H; rw [hy479]; with_reducible exact H2_) | (have H2_ := (Option.bind_some _ _).symm.trans H; with_reducible exact H2_) | with_reducible exact H | (rw [hy479]; exact H) | exact H
   have Ny479 := Aside0.mk hy479
   clear hy479
   have H' := Aside0.mk H
   clear H
   go_enter Try.func32, Try.ntmps32
   go_wp2_with (first | ((with_reducible refine gate_dst (N := 1) rfl ?_); refine box_event ?hg (N := 1) ?hd (cs := #[.slice A0_0 l0_0.length c0_0]) (t := 60) ?hr ?_; (case hd => rfl); (case hg => rfl); (case hr => first | (go_simp; done) | (go_simp; rfl)); intro gb473 hg w6 hbox hb; have n0_ := Aside0.mk (below_step (by repeat (first | (with_reducible first | exact HB.out | apply below_alloc | apply pw_below_drewN | apply below_drew1) | exact HB.out)) hb); have n1_ := Aside0.mk (hbox); have n2_ := Aside0.mk ((by rw [hg]; exact (below_size (by repeat (first | (with_reducible first | exact HB.out | apply below_alloc | apply pw_below_drewN | apply below_drew1) | exact HB.out))) : w.heap.size ≤ gb473)); have n3_ := Aside0.mk ((by rw [hg]; exact (below_size (by repeat (first | (with_reducible first | exact HB.out | apply below_alloc | apply pw_below_drewN | apply below_drew1) | exact HB.out))) : w.heap.size ≤ gb473)); clear HB; have HB := n0_; have BK473 := n1_; have GW473 := n2_; have GE473 := n3_; clear n0_ n1_ n2_ n3_; clear hb hbox hg; have hcz7_0 : w6.cell? ⟨gb473, 0, none⟩ = some (.slice A0_0 l0_0.length c0_0) := (blk_cell BK473.out 0).trans rfl; have hfz7_0 := blk_frozen BK473.out 0) | ((with_reducible refine gate_callee (f := 36) rfl ?_); refine goesL_ (some 14) rfl rfl Try.func36 (by kernel_rfl) rfl #[.int .i64 (l0_0.length : Int), .int .i64 1, .int .i64 300] rfl (by (try simp only [List.map_toArray, List.map_cons, List.map_nil]); first | done | rfl | (simp only [List.length_drop, List.length_take]; rfl)) ?_; (with_reducible refine (spec_l1In.calls (l0_0.length : Int) 1 300 true _ A2.out).mono ?_); rintro e w' ⟨rfl, ⟨nd, rfl⟩⟩; refine ⟨_, rfl, ?_⟩) | ((with_reducible refine gate_callee (f := 47) rfl ?_); refine goesL_ (some 18) rfl rfl Try.func47 (by kernel_rfl) rfl #[.agg #[.slice A0_0 l0_0.length c0_0]] rfl (by (try simp only [List.map_toArray, List.map_cons, List.map_nil]); first | done | rfl | (simp only [List.length_drop, List.length_take]; rfl)) ?_; (with_reducible refine (spec_l2Kids.calls k _ _ l0_0 t475 true _ ?side1 ?side2 A4.out).mono ?_); (case side1 => repeat (first | exact (Kd.C_below HR0_0.out (by repeat (first | (with_reducible first | exact HB.out | apply below_alloc | apply pw_below_drewN | apply below_drew1 | refine below_set ?_ GE473.out) | exact HB.out))) | (with_reducible refine Kd.C_alloc ?_ _) | (with_reducible refine Kd.C_drewN ?_ _) | (with_reducible refine Kd.C_drew ?_))); (case side2 => exact HC0_0.out); rintro e w8 ⟨v476, rfl, ho0, hb⟩; refine ⟨_, rfl, ?_⟩; have n0_ := Aside0.mk (Kd.S_lower ho0 (below_size (by repeat (first | (with_reducible first | exact HB.out | apply below_alloc | apply pw_below_drewN | apply below_drew1 | refine below_set ?_ GE473.out) | exact HB.out)))); have n1_ := Aside0.mk (blk_below (g := gb473) (o := .cells #[.slice A0_0 l0_0.length c0_0] 60 (0, 0)) (by (with_reducible repeat (first | refine blk_drewN ?_ _ | refine blk_drew ?_ | refine blk_alloc ?_ _)); exact BK473.out) hb); have n2_ := Aside0.mk (below_step (by repeat (first | (with_reducible first | exact HB.out | apply below_alloc | apply pw_below_drewN | apply below_drew1 | refine below_set ?_ GE473.out) | exact HB.out)) hb); clear BK473; clear HB; have HO477 := n0_; have BK473 := n1_; have HB := n2_; clear n0_ n1_ n2_; (try clear hb); (try clear hb2); (try clear hk); (try clear hi); (try clear ho0)) | ((with_reducible refine gate_dst (N := 23) rfl ?_); refine Kd.R_lit (Kd.int .i64) _ 3 ?hg (N := 23) ?hd (xs := ([] : List Int)) (inner := []) (ok := fun _ => True) (okp := fun _ => True) ?hr ?hp (fun _ hk => hk) trivial (Below.refl _ _) (Nat.le_refl _) (by simp) ?_; (case hd => rfl); (case hg => rfl); (case hr => first | (go_simp; done) | (go_simp; rfl)); (case hp => exact (Reps.none _ _)); intro v480 w9 ho10 hb hg_ hnew_; clear hg_ hnew_; (first | rw [← Ny479.out] at ho10 | (simp only [Int.reduceToNat] at ho10; rw [← Ny479.out] at ho10)); have n0_ := Aside0.mk (Kd.S_elder' (by (with_reducible repeat (first | apply Kd.S_alloc | apply Kd.S_drewN | apply Kd.S_drew)); exact HO477.out) (Kd.R_base ho10) hb); have n1_ := Aside0.mk (Kd.R_lower ho10 (below_size (by repeat (first | (with_reducible first | exact HB.out | apply below_alloc | apply pw_below_drewN | apply below_drew1 | refine below_set ?_ GE473.out) | exact HB.out)))); have n2_ := Aside0.mk (blk_below (g := gb473) (o := .cells #[.slice A0_0 l0_0.length c0_0] 60 (0, 0)) (by (with_reducible repeat (first | refine blk_drewN ?_ _ | refine blk_drew ?_ | refine blk_alloc ?_ _)); exact BK473.out) hb); have n3_ := Aside0.mk (below_step (by repeat (first | (with_reducible first | exact HB.out | apply below_alloc | apply pw_below_drewN | apply below_drew1 | refine below_set ?_ GE473.out) | exact HB.out)) hb); clear HO477; clear BK473; clear HB; have HO477 := n0_; have HO481 := n1_; have BK473 := n2_; have HB := n3_; clear n0_ n1_ n2_ n3_; clear hb ho10))
   go_loopg [5, 6] k (fun kq v5 v6 w' => ∃ (x5_1 : List Int) (x6_1 : Int), v6 = .int .i64 x6_1 ∧ Aside0 (spec_ValidValue.l0 kq t475 x5_1 x6_1 l0_0 = some r) ∧ Aside0 (kq ≤ k) ∧ Aside0 (Kd.S (Kd.slice 3 (Kd.int .i64)) 70 w' w.heap.size (fun k_ => some k_ ≠ (v5 : Value).ownBlock) v476 t475) ∧ Aside0 (Kd.R (Kd.int .i64) 3 w' w.heap.size (fun _ => True) v5 x5_1) ∧ Aside0 (w'.heap[gb473]? = some (.cells #[(.slice A0_0 l0_0.length c0_0)] 60 (0, 0))) ∧ Aside0 (Below w.heap.size w w'))
   case atStart => exact ⟨(y479), (0), (by first | rfl | (simp; done) | (simp [*]; done)), H', ⟨Nat.le_refl _⟩, ⟨by (with_reducible repeat (first | apply Kd.S_alloc | apply Kd.S_drewN | apply Kd.S_drew)); exact Kd.S_mono HO477.out (fun _ hk => hk.2)⟩, ⟨by (with_reducible repeat (first | apply Kd.R_alloc | apply Kd.R_drewN | apply Kd.R_drew)); exact HO481.out⟩, ⟨by (with_reducible repeat (first | refine blk_drewN ?_ _ | refine blk_drew ?_ | refine blk_alloc ?_ _)); exact BK473.out⟩, ⟨by repeat (first | (with_reducible first | exact HB.out | apply below_alloc | apply pw_below_drewN | apply below_drew1 | refine below_set ?_ GE473.out) | exact HB.out)⟩⟩
   case round =>
    clear H'
    try clear p2
    try clear c3
    try clear c4
    try clear c5
    try clear hcz7_0
    try clear hfz7_0
    obtain ⟨x5_1, x6_1, rfl, HA, HK1, HO_3, HO_5, BK473, HB⟩ := hrel
    cases gk with
    | zero => exact absurd HA.out (by simp [spec_ValidValue.l0])
    | succ k1 =>
     have H := HA.out
     clear HA
     simp only [spec_ValidValue.l0] at H
     by_cases c11 : x6_1 < (t475.length : Int)
     ·rw [if_pos c11] at H
      have c11b0 : decide (x6_1 < (t475.length : Int)) = true := decide_eq_true c11
      clear c11
      have H' := Aside0.mk H
      clear H
      obtain ⟨Ao12, co12, eo12⟩ := Kd.S_slice HO_3.out
      subst eo12
      go_wp2
      go_loopg [7, 8, 9] k1 (fun kq v7 v8 v9 w' => ∃ (x7_2 : Int) (x8_2 : ByteArray) (x9_2 : Int), v7 = .int .i64 x7_2 ∧ v8 = .string x8_2 ∧ v9 = .int .i64 x9_2 ∧ Aside0 (spec_ValidValue.l1 kq t475 x5_1 x6_1 x7_2 x8_2 x9_2 l0_0 = some r) ∧ Aside0 (kq ≤ k1) ∧ Aside0 (Kd.S (Kd.slice 3 (Kd.int .i64)) 70 w' w.heap.size (fun k_ => some k_ ≠ (u5 : Value).ownBlock) (.slice Ao12 t475.length co12) t475) ∧ Aside0 (Kd.R (Kd.int .i64) 3 w' w.heap.size (fun _ => True) u5 x5_1) ∧ Aside0 (w'.heap[gb473]? = some (.cells #[(.slice A0_0 l0_0.length c0_0)] 60 (0, 0))) ∧ Aside0 (Below w.heap.size w w'))
      case atStart => exact ⟨(0), ((⟨#[]⟩ : ByteArray)), (0), (by first | rfl | (simp; done) | (simp [*]; done)), (by first | rfl | (simp; done) | (simp [*]; done)), (by first | rfl | (simp; done) | (simp [*]; done)), H', ⟨Nat.le_refl _⟩, ⟨by (with_reducible repeat (first | apply Kd.S_alloc | apply Kd.S_drewN | apply Kd.S_drew)); exact HO_3.out⟩, ⟨by (with_reducible repeat (first | apply Kd.R_alloc | apply Kd.R_drewN | apply Kd.R_drew)); exact HO_5.out⟩, ⟨by (with_reducible repeat (first | refine blk_drewN ?_ _ | refine blk_drew ?_ | refine blk_alloc ?_ _)); exact BK473.out⟩, ⟨by repeat (first | (with_reducible first | exact HB.out | apply below_alloc | apply pw_below_drewN | apply below_drew1 | refine below_set ?_ GE473.out) | exact HB.out)⟩⟩
      case round =>
       clear H'
       try clear c1
       try clear p2
       try clear c3
       try clear c4
       try clear c5
       try clear c11
       try clear c11b0
       try clear hcz7_0
       try clear hfz7_0
       try clear p2
       obtain ⟨x7_2, x8_2, x9_2, rfl, rfl, rfl, HA, HK2, HO_3, HO_5, BK473, HB⟩ := hrel
       cases gk with
       | zero => exact absurd HA.out (by simp [spec_ValidValue.l1])
       | succ k2 =>
        have H := HA.out
        clear HA
        simp only [spec_ValidValue.l1] at H
        by_cases c13 : 0 ≤ x6_1
        ·rw [if_pos c13] at H
         have c13b0 : decide (0 ≤ x6_1) = true := decide_eq_true c13
         clear c13
         by_cases c14 : x6_1 < (t475.length : Int)
         ·rw [if_pos c14] at H
          have c14b0 : decide (x6_1 < (t475.length : Int)) = true := decide_eq_true c14
          clear c14
          by_cases c15 : x9_2 < ((rd_L8 t475 x6_1).length : Int)
          ·rw [if_pos c15] at H
           have c15b0 : decide (x9_2 < ((rd_L8 t475 x6_1).length : Int)) = true := decide_eq_true c15
           clear c15
           by_cases c16 : 0 ≤ x9_2
           ·rw [if_pos c16] at H
            have c16b0 : decide (0 ≤ x9_2) = true := decide_eq_true c16
            clear c16
            by_cases c17 : 0 ≤ (rd (rd_L8 t475 x6_1) x9_2)
            ·rw [if_pos c17] at H
             have c17b0 : decide (0 ≤ (rd (rd_L8 t475 x6_1) x9_2)) = true := decide_eq_true c17
             clear c17
             by_cases c18 : (rd (rd_L8 t475 x6_1) x9_2) < (l0_0.length : Int)
             ·rw [if_pos c18] at H
              have c18b0 : decide ((rd (rd_L8 t475 x6_1) x9_2) < (l0_0.length : Int)) = true := decide_eq_true c18
              clear c18
              by_cases c19 : (rd (rd_L8 t475 x6_1) x9_2) < (x5_1.length : Int)
              ·rw [if_pos c19] at H
               have c19b0 : decide ((rd (rd_L8 t475 x6_1) x9_2) < (x5_1.length : Int)) = true := decide_eq_true c19
               clear c19
               have HC20 := Aside0.mk H
               clear H
               have p482 : 0 ≤ (x6_1 : Int) := of_decide_eq_true (by first | (with_reducible assumption) | assumption)
               have q482 : x6_1 < (t475.length : Int) := of_decide_eq_true (by first | (with_reducible assumption) | assumption)
               obtain ⟨ad482, A482_0, c482_0, e482, hx482_0, hl482_0, hi482_0⟩ := at_L8 (Kd.S_reads' HO_3.out).2.2 x6_1 p482 q482
               cases e482
               obtain ⟨ce482, hce482, hMe482, hcc482⟩ := Kd.S_get HO_3.out [] x6_1 p482 (by first | exact q482 | exact of_decide_eq_true (by first | (with_reducible assumption) | assumption) | (have e_ := (Kd.S_reads' HO_3.out).1; omega))
               obtain ⟨ve482_0, rfl, ge482_0⟩ := hMe482
               have hv482_0 := hcc482 0 _ rfl
               rw [Nat.add_zero, show ((Kd.slice 3 (Kd.int .i64))).sz = 1 from rfl, Nat.mul_one] at hv482_0
               replace hv482_0 := Option.some.inj (hv482_0.symm.trans hx482_0)
               rw [hv482_0] at ge482_0
               have HL482_0 := Aside0.mk (show Kd.R (Kd.int .i64) 3 _ _ _ _ (rd_L8 t475 x6_1) from ge482_0)
               clear hv482_0 ge482_0
               clear hcc482 hce482
               have HR482_0 := Aside0.mk hi482_0
               have HC482_0 := Aside0.mk hl482_0
               clear hi482_0 hl482_0
               replace p482 := eq_true p482
               replace q482 := eq_true q482
               try go_wp2
               have n0_ := Aside0.mk (Kd.S_drew HO_3.out)
               have n1_ := Aside0.mk (Kd.R_drew HO_5.out)
               have n2_ := Aside0.mk (Kd.R_drew HL482_0.out)
               have n3_ := Aside0.mk (blk_drew BK473.out)
               have n4_ := Aside0.mk (Kd.C_drew HR482_0.out)
               have n5_ := Aside0.mk (below_drew1 HB.out)
               clear HO_3
               clear HO_5
               clear HL482_0
               clear BK473
               clear HR482_0
               clear HB
               have HO_3 := n0_
               have HO_5 := n1_
               have HL482_0 := n2_
               have BK473 := n3_
               have HR482_0 := n4_
               have HB := n5_
               clear n0_ n1_ n2_ n3_ n4_ n5_
               have p488 : 0 ≤ (x6_1 : Int) := of_decide_eq_true (by first | (with_reducible assumption) | assumption)
               have q488 : x6_1 < (t475.length : Int) := of_decide_eq_true (by first | (with_reducible assumption) | assumption)
               obtain ⟨ad488, A488_0, c488_0, e488, hx488_0, hl488_0, hi488_0⟩ := at_L8 (Kd.S_reads' HO_3.out).2.2 x6_1 p488 q488
               obtain rfl : ad482 = ad488 := (by injection e488)
               obtain ⟨ce488, hce488, hMe488, hcc488⟩ := Kd.S_get HO_3.out [] x6_1 p488 (by first | exact q488 | exact of_decide_eq_true (by first | (with_reducible assumption) | assumption) | (have e_ := (Kd.S_reads' HO_3.out).1; omega))
               obtain ⟨ve488_0, rfl, ge488_0⟩ := hMe488
               have hv488_0 := hcc488 0 _ rfl
               rw [Nat.add_zero, show ((Kd.slice 3 (Kd.int .i64))).sz = 1 from rfl, Nat.mul_one] at hv488_0
               replace hv488_0 := Option.some.inj (hv488_0.symm.trans hx488_0)
               rw [hv488_0] at ge488_0
               have HL488_0 := Aside0.mk (show Kd.R (Kd.int .i64) 3 _ _ _ _ (rd_L8 t475 x6_1) from ge488_0)
               clear hv488_0 ge488_0
               clear hcc488 hce488
               have HR488_0 := Aside0.mk hi488_0
               have HC488_0 := Aside0.mk hl488_0
               clear hi488_0 hl488_0
               replace p488 := eq_true p488
               replace q488 := eq_true q488
               have p489 : 0 ≤ (x9_2 : Int) := of_decide_eq_true (by first | (with_reducible assumption) | assumption)
               have q489 : x9_2 < ((rd_L8 t475 x6_1).length : Int) := of_decide_eq_true (by first | (with_reducible assumption) | assumption)
               obtain ⟨ad489, e489, hx489_0⟩ := Kd.at_int (by repeat (first | (with_reducible exact HR488_0.out) | (with_reducible refine Kd.C_alloc ?_ _) | (with_reducible refine Kd.C_drewN ?_ _) | (with_reducible refine Kd.C_drew ?_) | exact HR488_0.out)) x9_2 p489 q489
               cases e489
               replace p489 := eq_true p489
               replace q489 := eq_true q489
               have p490 : 0 ≤ ((rd (rd_L8 t475 x6_1) x9_2) : Int) := of_decide_eq_true (by first | (with_reducible assumption) | assumption)
               have q490 : (rd (rd_L8 t475 x6_1) x9_2) < (l0_0.length : Int) := of_decide_eq_true (by first | (with_reducible assumption) | assumption)
               obtain ⟨ad490, e490, hx490_0, hx490_1, hx490_2, hx490_3⟩ := at_T89 HR0_0.out (rd (rd_L8 t475 x6_1) x9_2) p490 q490
               have hw490_3 := hx490_3
               have hw490_2 := hx490_2
               have hw490_1 := hx490_1
               have hw490_0 := hx490_0
               cases e490
               replace hx490_0 := (HB.out.cell (World.block_lt_of_cell? w _ hx490_0)).trans hx490_0
               replace hx490_1 := (HB.out.cell (World.block_lt_of_cell? w _ hx490_1)).trans hx490_1
               replace hx490_2 := (HB.out.cell (World.block_lt_of_cell? w _ hx490_2)).trans hx490_2
               replace hx490_3 := (HB.out.cell (World.block_lt_of_cell? w _ hx490_3)).trans hx490_3
               replace p490 := eq_true p490
               replace q490 := eq_true q490
               refine start_ (n := 13) (S := fun w' => w'.cell? ⟨gb473, 0, none⟩ = some (.slice (some ad490) l0_0.length c0_0) ∧ w'.cell? (ad482.add (x6_1).toNat) = some (.slice (some ad489) (rd_L8 t475 x6_1).length c488_0) ∧ w'.cell? (ad489.add (x9_2).toNat) = some (.int .i64 (rd (rd_L8 t475 x6_1) x9_2)) ∧ w'.cell? (ad490.add (((rd (rd_L8 t475 x6_1) x9_2)).toNat * 4)) = some (.int .i64 ((rd_T89 l0_0 (rd (rd_L8 t475 x6_1) x9_2)).f0)) ∧ w'.cell? ⟨(ad490.add (((rd (rd_L8 t475 x6_1) x9_2)).toNat * 4)).block, (ad490.add (((rd (rd_L8 t475 x6_1) x9_2)).toNat * 4)).off + 1, none⟩ = some (.int .i64 ((rd_T89 l0_0 (rd (rd_L8 t475 x6_1) x9_2)).f1)) ∧ w'.cell? ⟨(ad490.add (((rd (rd_L8 t475 x6_1) x9_2)).toNat * 4)).block, (ad490.add (((rd (rd_L8 t475 x6_1) x9_2)).toNat * 4)).off + 2, none⟩ = some (.string ((rd_T89 l0_0 (rd (rd_L8 t475 x6_1) x9_2)).f2)) ∧ w'.cell? ⟨(ad490.add (((rd (rd_L8 t475 x6_1) x9_2)).toNat * 4)).block, (ad490.add (((rd (rd_L8 t475 x6_1) x9_2)).toNat * 4)).off + 3, none⟩ = some (.int .i64 ((rd_T89 l0_0 (rd (rd_L8 t475 x6_1) x9_2)).f3))) (ds := []) #[false, false, false, false, false, false, false, false, false, false, false, false, false] (by kernel_rfl) rfl rfl ⟨(blk_cell BK473.out 0).trans rfl, hx488_0, hx489_0, ((HB.out.cell (World.block_lt_of_cell? w _ hw490_0)).trans hw490_0), ((HB.out.cell (World.block_lt_of_cell? w _ hw490_1)).trans hw490_1), ((HB.out.cell (World.block_lt_of_cell? w _ hw490_2)).trans hw490_2), ((HB.out.cell (World.block_lt_of_cell? w _ hw490_3)).trans hw490_3)⟩ (fun hHeld => ?_); refine with_tabW spec_ValidValue.tab15 spec_ValidValue.bits15 (fun HT_ HW_ => ?_)
               generalize wr.drew = w21 at HO_3 HO_5 HL482_0 BK473 HR482_0 HB HL488_0 HR488_0 hx488_0 hx489_0 hx490_0 hx490_1 hx490_2 hx490_3 hHeld ⊢
               refine pure_ (i := 0) (N := some 39) (v := ?_) (a' := ?_) #[true, false, false, false, false, false, false, false, false, false, false, false, false] rfl rfl (any_of HT_.out (by kernel_rfl)) (fun _ _ _ h => h) (Or.inl ⟨by rfl, ?_⟩) ?_ ?_
               rotate_left
               ·intro w'
                go_simp
                with_reducible rfl
               rotate_left
               ·simp only [Act.put, List.setIfInBounds_toArray, List.set_cons_zero, List.set_cons_succ, i64_w, i32_w]
                rfl
               refine pure_ (i := 2) (N := some 41) (v := ?_) (a' := ?_) #[true, false, true, false, false, false, false, false, false, false, false, false, false] rfl rfl (any_of HT_.out (by kernel_rfl)) (fun _ _ _ h => h) (Or.inl ⟨by rfl, ?_⟩) ?_ ?_
               rotate_left
               ·intro w'
                go_simp
                with_reducible rfl
               rotate_left
               ·simp only [Act.put, List.setIfInBounds_toArray, List.set_cons_zero, List.set_cons_succ, i64_w, i32_w]
                rfl
               refine pure_ (i := 3) (N := some 42) (v := ?_) (a' := ?_) #[true, false, true, true, false, false, false, false, false, false, false, false, false] rfl rfl (any_of HT_.out (by kernel_rfl)) (fun _ _ _ h => h) (Or.inl ⟨by rfl, ?_⟩) ?_ ?_
               rotate_left
               ·intro w'
                go_simp
                with_reducible rfl
               rotate_left
               ·simp only [Act.put, List.setIfInBounds_toArray, List.set_cons_zero, List.set_cons_succ, i64_w, i32_w]
                rfl
               refine pure_ (i := 4) (N := some 43) (v := ?_) (a' := ?_) #[true, false, true, true, true, false, false, false, false, false, false, false, false] rfl rfl (any_of HT_.out (by kernel_rfl)) (fun _ _ _ h => h) (Or.inl ⟨by rfl, ?_⟩) ?_ ?_
               rotate_left
               ·intro w'
                go_simp
                with_reducible rfl
               rotate_left
               ·simp only [Act.put, List.setIfInBounds_toArray, List.set_cons_zero, List.set_cons_succ, i64_w, i32_w]
                rfl
               refine pure_ (i := 6) (N := some 45) (v := ?_) (a' := ?_) #[true, false, true, true, true, false, true, false, false, false, false, false, false] rfl rfl (any_of HT_.out (by kernel_rfl)) (fun _ _ _ h => h) (Or.inl ⟨by rfl, ?_⟩) ?_ ?_
               rotate_left
               ·intro w'
                go_simp
                with_reducible rfl
               rotate_left
               ·simp only [Act.put, List.setIfInBounds_toArray, List.set_cons_zero, List.set_cons_succ, i64_w, i32_w]
                rfl
               refine take_ (i := 1) (N := some 40) (v := ?_) (a' := ?_) #[true, true, true, true, true, false, true, false, false, false, false, false, false] rfl rfl (take_ofW HT_.out HW_.out (by kernel_rfl)) (fun _ _ _ h => h) (Or.inl ⟨by rfl, ?_⟩) hHeld ?_ ?_
               rotate_left
               ·rintro w' ⟨s0, s1, s2, s3, s4, s5, s6⟩
                go_simp
                with_reducible rfl
               rotate_left
               ·simp only [Act.put, List.setIfInBounds_toArray, List.set_cons_zero, List.set_cons_succ, i64_w, i32_w]
                rfl
               refine take_ (i := 5) (N := some 44) (v := ?_) (a' := ?_) #[true, true, true, true, true, true, true, false, false, false, false, false, false] rfl rfl (take_ofW HT_.out HW_.out (by kernel_rfl)) (fun _ _ _ h => h) (Or.inl ⟨by rfl, ?_⟩) hHeld ?_ ?_
               rotate_left
               ·rintro w' ⟨s0, s1, s2, s3, s4, s5, s6⟩
                go_simp
                with_reducible rfl
               rotate_left
               ·simp only [Act.put, List.setIfInBounds_toArray, List.set_cons_zero, List.set_cons_succ, i64_w, i32_w]
                rfl
               refine pure_ (i := 7) (N := some 46) (v := ?_) (a' := ?_) #[true, true, true, true, true, true, true, true, false, false, false, false, false] rfl rfl (any_of HT_.out (by kernel_rfl)) (fun _ _ _ h => h) (Or.inl ⟨by rfl, ?_⟩) ?_ ?_
               rotate_left
               ·intro w'
                go_simp
                with_reducible rfl
               rotate_left
               ·simp only [Act.put, List.setIfInBounds_toArray, List.set_cons_zero, List.set_cons_succ, i64_w, i32_w]
                rfl
               refine take_ (i := 8) (N := some 47) (v := ?_) (a' := ?_) #[true, true, true, true, true, true, true, true, true, false, false, false, false] rfl rfl (take_ofW HT_.out HW_.out (by kernel_rfl)) (fun _ _ _ h => h) (Or.inl ⟨by rfl, ?_⟩) hHeld ?_ ?_
               rotate_left
               ·rintro w' ⟨s0, s1, s2, s3, s4, s5, s6⟩
                go_simp
                with_reducible rfl
               rotate_left
               ·simp only [Act.put, List.setIfInBounds_toArray, List.set_cons_zero, List.set_cons_succ, i64_w, i32_w]
                rfl
               refine pure_ (i := 9) (N := some 48) (v := ?_) (a' := ?_) #[true, true, true, true, true, true, true, true, true, true, false, false, false] rfl rfl (any_of HT_.out (by kernel_rfl)) (fun _ _ _ h => h) (Or.inl ⟨by rfl, ?_⟩) ?_ ?_
               rotate_left
               ·intro w'
                go_simp
                with_reducible rfl
               rotate_left
               ·simp only [Act.put, List.setIfInBounds_toArray, List.set_cons_zero, List.set_cons_succ, i64_w, i32_w]
                rfl
               refine take_ (i := 10) (N := some 49) (v := ?_) (a' := ?_) #[true, true, true, true, true, true, true, true, true, true, true, false, false] rfl rfl (take_ofW HT_.out HW_.out (by kernel_rfl)) (fun _ _ _ h => h) (Or.inl ⟨by rfl, ?_⟩) hHeld ?_ ?_
               rotate_left
               ·rintro w' ⟨s0, s1, s2, s3, s4, s5, s6⟩
                go_simp
                with_reducible rfl
               rotate_left
               ·simp only [Act.put, List.setIfInBounds_toArray, List.set_cons_zero, List.set_cons_succ, i64_w, i32_w]
                rfl
               refine one_ (i := 11) (N := some 10) #[true, true, true, true, true, true, true, true, true, true, true, true, false] rfl rfl (one_of HT_.out (by kernel_rfl)) (by decide) (fun K hK => ?_)
               refine box_step ?hg (N := 10) ?hd (cs := #[.int .i64 0, .int .i64 0, .string (⟨#[]⟩ : ByteArray), .int .i64 0]) (t := 89) ?hr ?_; (case hd => rfl); (case hg => rfl); (case hr => first | (go_simp; done) | (go_simp; rfl))
               intro gb491 hg w22 hbox hb
               have HS1_ := (hb.cell (World.block_lt_of_cell? _ _ (hHeld.2.1))).trans (hHeld.2.1)
               have HS2_ := (hb.cell (World.block_lt_of_cell? _ _ (hHeld.2.2.1))).trans (hHeld.2.2.1)
               have n0_ := Aside0.mk (Kd.S_below (by (with_reducible repeat (first | apply Kd.S_alloc | apply Kd.S_drewN | apply Kd.S_drew)); exact HO_3.out) hb)
               have n1_ := Aside0.mk (Kd.R_below (by (with_reducible repeat (first | apply Kd.R_alloc | apply Kd.R_drewN | apply Kd.R_drew)); exact HO_5.out) hb)
               have n2_ := Aside0.mk (Kd.R_below (by (with_reducible repeat (first | apply Kd.R_alloc | apply Kd.R_drewN | apply Kd.R_drew)); exact HL482_0.out) hb)
               have n3_ := Aside0.mk (Kd.R_below (by (with_reducible repeat (first | apply Kd.R_alloc | apply Kd.R_drewN | apply Kd.R_drew)); exact HL488_0.out) hb)
               have n4_ := Aside0.mk (blk_below (g := gb473) (o := .cells #[.slice (some ad490) l0_0.length c0_0] 60 (0, 0)) (by (with_reducible repeat (first | refine blk_drewN ?_ _ | refine blk_drew ?_ | refine blk_alloc ?_ _)); exact BK473.out) hb)
               have n5_ := Aside0.mk (Kd.C_below (by repeat (first | (with_reducible exact HR482_0.out) | (with_reducible refine Kd.C_alloc ?_ _) | (with_reducible refine Kd.C_drewN ?_ _) | (with_reducible refine Kd.C_drew ?_) | exact HR482_0.out)) hb)
               have n6_ := Aside0.mk (Kd.C_below (by repeat (first | (with_reducible exact HR488_0.out) | (with_reducible refine Kd.C_alloc ?_ _) | (with_reducible refine Kd.C_drewN ?_ _) | (with_reducible refine Kd.C_drew ?_) | exact HR488_0.out)) hb)
               have n7_ := Aside0.mk (below_step (by repeat (first | (with_reducible first | exact HB.out | apply below_alloc | apply pw_below_drewN | apply below_drew1 | refine below_set ?_ GE473.out) | exact HB.out)) hb)
               have n8_ := Aside0.mk (hbox)
               have n9_ := Aside0.mk ((by rw [hg]; exact (below_size (by repeat (first | (with_reducible first | exact HB.out | apply below_alloc | apply pw_below_drewN | apply below_drew1 | refine below_set ?_ GE473.out) | exact HB.out))) : w.heap.size ≤ gb491))
               have n10_ := Aside0.mk ((by rw [hg]; exact (below_size (by repeat (first | (with_reducible first | exact HB.out | apply below_alloc | apply pw_below_drewN | apply below_drew1 | refine below_set ?_ GE473.out) | exact HB.out))) : w.heap.size ≤ gb491))
               have n11_ := Aside0.mk ((by rw [hg]; exact Nat.ne_of_lt (blk_lt (g := gb473) (o := .cells #[.slice (some ad490) l0_0.length c0_0] 60 (0, 0)) (by (with_reducible repeat (first | refine blk_drewN ?_ _ | refine blk_drew ?_ | refine blk_alloc ?_ _)); exact BK473.out)) : gb473 ≠ gb491))
               have n12_ := Aside0.mk ((by rw [hg]; exact Nat.ne_of_gt (blk_lt (g := gb473) (o := .cells #[.slice (some ad490) l0_0.length c0_0] 60 (0, 0)) (by (with_reducible repeat (first | refine blk_drewN ?_ _ | refine blk_drew ?_ | refine blk_alloc ?_ _)); exact BK473.out)) : gb491 ≠ gb473))
               clear HO_3
               clear HO_5
               clear HL482_0
               clear HL488_0
               clear BK473
               clear HR482_0
               clear HR488_0
               clear HB
               have HO_3 := n0_
               have HO_5 := n1_
               have HL482_0 := n2_
               have HL488_0 := n3_
               have BK473 := n4_
               have HR482_0 := n5_
               have HR488_0 := n6_
               have HB := n7_
               have BK491 := n8_
               have GW491 := n9_
               have GE491 := n10_
               have NB473_491 := n11_
               have NB491_473 := n12_
               clear n0_ n1_ n2_ n3_ n4_ n5_ n6_ n7_ n8_ n9_ n10_ n11_ n12_
               clear hb hbox hg
               refine hK.out _ _ ⟨(blk_cell BK473.out 0).trans rfl, HS1_, HS2_, ((HB.out.cell (World.block_lt_of_cell? w _ hw490_0)).trans hw490_0), ((HB.out.cell (World.block_lt_of_cell? w _ hw490_1)).trans hw490_1), ((HB.out.cell (World.block_lt_of_cell? w _ hw490_2)).trans hw490_2), ((HB.out.cell (World.block_lt_of_cell? w _ hw490_3)).trans hw490_3)⟩ (fun hHeld => ?_)
               clear hK K
               refine norm_ (a' := ?_) ?_ ?_
               rotate_left
               ·show Act.put _ (some 10) _ = _
                simp only [Act.put, List.setIfInBounds_toArray, List.set_cons_zero, List.set_cons_succ, i64_w, i32_w]
                rfl
               refine one_ (i := 12) (N := none) #[true, true, true, true, true, true, true, true, true, true, true, true, true] rfl rfl (one_of HT_.out (by kernel_rfl)) (by decide) (fun K hK => ?_)
               have hs23 : w22.cell? ⟨gb491, 0, none⟩ = some (.int .i64 0) := (blk_cell BK491.out 0).trans rfl
               have hfs23 := blk_frozen BK491.out 0
               have hns23_0 := NB473_491.out
               have hms23_0 := NB491_473.out
               have hs24 : w22.cell? ⟨gb491, 1, none⟩ = some (.int .i64 0) := (blk_cell BK491.out 1).trans rfl
               have hfs24 := blk_frozen BK491.out 1
               have hns24_0 := NB473_491.out
               have hms24_0 := NB491_473.out
               have hs25 : w22.cell? ⟨gb491, 2, none⟩ = some (.string (⟨#[]⟩ : ByteArray)) := (blk_cell BK491.out 2).trans rfl
               have hfs25 := blk_frozen BK491.out 2
               have hns25_0 := NB473_491.out
               have hms25_0 := NB491_473.out
               have hs26 : w22.cell? ⟨gb491, 3, none⟩ = some (.int .i64 0) := (blk_cell BK491.out 3).trans rfl
               have hfs26 := blk_frozen BK491.out 3
               have hns26_0 := NB473_491.out
               have hms26_0 := NB491_473.out
               refine skip_ (w1 := ?_) (by rfl) rfl ?_ ?_
               rotate_left
               ·go_simp
                rfl
               refine hK.out _ _ ⟨((cell_far (p := ⟨gb491, _, none⟩) NB473_491.out _).trans (((cell_far (p := ⟨gb491, _, none⟩) NB473_491.out _).trans (((cell_far (p := ⟨gb491, _, none⟩) NB473_491.out _).trans (((cell_far (p := ⟨gb491, _, none⟩) NB473_491.out _).trans (hHeld.1)))))))), ((cell_far (p := ⟨gb491, _, none⟩) (by first | exact Kd.own_blk (Kd.S_ne HO_3.out BK491.out (by decide)) | (rw [add_block]; exact Kd.own_blk (Kd.S_ne HO_3.out BK491.out (by decide))) | (show (Addr.add _ _).block ≠ _; rw [add_block]; exact Kd.own_blk (Kd.S_ne HO_3.out BK491.out (by decide))) | (dsimp only; exact Kd.own_blk (Kd.S_ne HO_3.out BK491.out (by decide)))) _).trans (((cell_far (p := ⟨gb491, _, none⟩) (by first | exact Kd.own_blk (Kd.S_ne HO_3.out BK491.out (by decide)) | (rw [add_block]; exact Kd.own_blk (Kd.S_ne HO_3.out BK491.out (by decide))) | (show (Addr.add _ _).block ≠ _; rw [add_block]; exact Kd.own_blk (Kd.S_ne HO_3.out BK491.out (by decide))) | (dsimp only; exact Kd.own_blk (Kd.S_ne HO_3.out BK491.out (by decide)))) _).trans (((cell_far (p := ⟨gb491, _, none⟩) (by first | exact Kd.own_blk (Kd.S_ne HO_3.out BK491.out (by decide)) | (rw [add_block]; exact Kd.own_blk (Kd.S_ne HO_3.out BK491.out (by decide))) | (show (Addr.add _ _).block ≠ _; rw [add_block]; exact Kd.own_blk (Kd.S_ne HO_3.out BK491.out (by decide))) | (dsimp only; exact Kd.own_blk (Kd.S_ne HO_3.out BK491.out (by decide)))) _).trans (((cell_far (p := ⟨gb491, _, none⟩) (by first | exact Kd.own_blk (Kd.S_ne HO_3.out BK491.out (by decide)) | (rw [add_block]; exact Kd.own_blk (Kd.S_ne HO_3.out BK491.out (by decide))) | (show (Addr.add _ _).block ≠ _; rw [add_block]; exact Kd.own_blk (Kd.S_ne HO_3.out BK491.out (by decide))) | (dsimp only; exact Kd.own_blk (Kd.S_ne HO_3.out BK491.out (by decide)))) _).trans (hHeld.2.1)))))))), ((cell_far (p := ⟨gb491, _, none⟩) (by first | exact Kd.own_blk (Kd.R_ne HL488_0.out BK491.out (by decide)) | (rw [add_block]; exact Kd.own_blk (Kd.R_ne HL488_0.out BK491.out (by decide))) | (show (Addr.add _ _).block ≠ _; rw [add_block]; exact Kd.own_blk (Kd.R_ne HL488_0.out BK491.out (by decide))) | (dsimp only; exact Kd.own_blk (Kd.R_ne HL488_0.out BK491.out (by decide)))) _).trans (((cell_far (p := ⟨gb491, _, none⟩) (by first | exact Kd.own_blk (Kd.R_ne HL488_0.out BK491.out (by decide)) | (rw [add_block]; exact Kd.own_blk (Kd.R_ne HL488_0.out BK491.out (by decide))) | (show (Addr.add _ _).block ≠ _; rw [add_block]; exact Kd.own_blk (Kd.R_ne HL488_0.out BK491.out (by decide))) | (dsimp only; exact Kd.own_blk (Kd.R_ne HL488_0.out BK491.out (by decide)))) _).trans (((cell_far (p := ⟨gb491, _, none⟩) (by first | exact Kd.own_blk (Kd.R_ne HL488_0.out BK491.out (by decide)) | (rw [add_block]; exact Kd.own_blk (Kd.R_ne HL488_0.out BK491.out (by decide))) | (show (Addr.add _ _).block ≠ _; rw [add_block]; exact Kd.own_blk (Kd.R_ne HL488_0.out BK491.out (by decide))) | (dsimp only; exact Kd.own_blk (Kd.R_ne HL488_0.out BK491.out (by decide)))) _).trans (((cell_far (p := ⟨gb491, _, none⟩) (by first | exact Kd.own_blk (Kd.R_ne HL488_0.out BK491.out (by decide)) | (rw [add_block]; exact Kd.own_blk (Kd.R_ne HL488_0.out BK491.out (by decide))) | (show (Addr.add _ _).block ≠ _; rw [add_block]; exact Kd.own_blk (Kd.R_ne HL488_0.out BK491.out (by decide))) | (dsimp only; exact Kd.own_blk (Kd.R_ne HL488_0.out BK491.out (by decide)))) _).trans (hHeld.2.2.1)))))))), ((cell_far (p := ⟨gb491, _, none⟩) (by first | exact Nat.ne_of_lt (Nat.lt_of_lt_of_le (by have := World.block_lt_of_cell? _ _ hw490_0; first | rwa [add_block] at this | exact this) GW491.out) | (rw [add_block]; exact Nat.ne_of_lt (Nat.lt_of_lt_of_le (by have := World.block_lt_of_cell? _ _ hw490_0; first | rwa [add_block] at this | exact this) GW491.out)) | (show (Addr.add _ _).block ≠ _; rw [add_block]; exact Nat.ne_of_lt (Nat.lt_of_lt_of_le (by have := World.block_lt_of_cell? _ _ hw490_0; first | rwa [add_block] at this | exact this) GW491.out)) | (dsimp only; exact Nat.ne_of_lt (Nat.lt_of_lt_of_le (by have := World.block_lt_of_cell? _ _ hw490_0; first | rwa [add_block] at this | exact this) GW491.out))) _).trans (((cell_far (p := ⟨gb491, _, none⟩) (by first | exact Nat.ne_of_lt (Nat.lt_of_lt_of_le (by have := World.block_lt_of_cell? _ _ hw490_0; first | rwa [add_block] at this | exact this) GW491.out) | (rw [add_block]; exact Nat.ne_of_lt (Nat.lt_of_lt_of_le (by have := World.block_lt_of_cell? _ _ hw490_0; first | rwa [add_block] at this | exact this) GW491.out)) | (show (Addr.add _ _).block ≠ _; rw [add_block]; exact Nat.ne_of_lt (Nat.lt_of_lt_of_le (by have := World.block_lt_of_cell? _ _ hw490_0; first | rwa [add_block] at this | exact this) GW491.out)) | (dsimp only; exact Nat.ne_of_lt (Nat.lt_of_lt_of_le (by have := World.block_lt_of_cell? _ _ hw490_0; first | rwa [add_block] at this | exact this) GW491.out))) _).trans (((cell_far (p := ⟨gb491, _, none⟩) (by first | exact Nat.ne_of_lt (Nat.lt_of_lt_of_le (by have := World.block_lt_of_cell? _ _ hw490_0; first | rwa [add_block] at this | exact this) GW491.out) | (rw [add_block]; exact Nat.ne_of_lt (Nat.lt_of_lt_of_le (by have := World.block_lt_of_cell? _ _ hw490_0; first | rwa [add_block] at this | exact this) GW491.out)) | (show (Addr.add _ _).block ≠ _; rw [add_block]; exact Nat.ne_of_lt (Nat.lt_of_lt_of_le (by have := World.block_lt_of_cell? _ _ hw490_0; first | rwa [add_block] at this | exact this) GW491.out)) | (dsimp only; exact Nat.ne_of_lt (Nat.lt_of_lt_of_le (by have := World.block_lt_of_cell? _ _ hw490_0; first | rwa [add_block] at this | exact this) GW491.out))) _).trans (((cell_far (p := ⟨gb491, _, none⟩) (by first | exact Nat.ne_of_lt (Nat.lt_of_lt_of_le (by have := World.block_lt_of_cell? _ _ hw490_0; first | rwa [add_block] at this | exact this) GW491.out) | (rw [add_block]; exact Nat.ne_of_lt (Nat.lt_of_lt_of_le (by have := World.block_lt_of_cell? _ _ hw490_0; first | rwa [add_block] at this | exact this) GW491.out)) | (show (Addr.add _ _).block ≠ _; rw [add_block]; exact Nat.ne_of_lt (Nat.lt_of_lt_of_le (by have := World.block_lt_of_cell? _ _ hw490_0; first | rwa [add_block] at this | exact this) GW491.out)) | (dsimp only; exact Nat.ne_of_lt (Nat.lt_of_lt_of_le (by have := World.block_lt_of_cell? _ _ hw490_0; first | rwa [add_block] at this | exact this) GW491.out))) _).trans (hHeld.2.2.2.1)))))))), ((cell_far (p := ⟨gb491, _, none⟩) (by first | exact Nat.ne_of_lt (Nat.lt_of_lt_of_le (by have := World.block_lt_of_cell? _ _ hw490_1; first | rwa [add_block] at this | exact this) GW491.out) | (rw [add_block]; exact Nat.ne_of_lt (Nat.lt_of_lt_of_le (by have := World.block_lt_of_cell? _ _ hw490_1; first | rwa [add_block] at this | exact this) GW491.out)) | (show (Addr.add _ _).block ≠ _; rw [add_block]; exact Nat.ne_of_lt (Nat.lt_of_lt_of_le (by have := World.block_lt_of_cell? _ _ hw490_1; first | rwa [add_block] at this | exact this) GW491.out)) | (dsimp only; exact Nat.ne_of_lt (Nat.lt_of_lt_of_le (by have := World.block_lt_of_cell? _ _ hw490_1; first | rwa [add_block] at this | exact this) GW491.out))) _).trans (((cell_far (p := ⟨gb491, _, none⟩) (by first | exact Nat.ne_of_lt (Nat.lt_of_lt_of_le (by have := World.block_lt_of_cell? _ _ hw490_1; first | rwa [add_block] at this | exact this) GW491.out) | (rw [add_block]; exact Nat.ne_of_lt (Nat.lt_of_lt_of_le (by have := World.block_lt_of_cell? _ _ hw490_1; first | rwa [add_block] at this | exact this) GW491.out)) | (show (Addr.add _ _).block ≠ _; rw [add_block]; exact Nat.ne_of_lt (Nat.lt_of_lt_of_le (by have := World.block_lt_of_cell? _ _ hw490_1; first | rwa [add_block] at this | exact this) GW491.out)) | (dsimp only; exact Nat.ne_of_lt (Nat.lt_of_lt_of_le (by have := World.block_lt_of_cell? _ _ hw490_1; first | rwa [add_block] at this | exact this) GW491.out))) _).trans (((cell_far (p := ⟨gb491, _, none⟩) (by first | exact Nat.ne_of_lt (Nat.lt_of_lt_of_le (by have := World.block_lt_of_cell? _ _ hw490_1; first | rwa [add_block] at this | exact this) GW491.out) | (rw [add_block]; exact Nat.ne_of_lt (Nat.lt_of_lt_of_le (by have := World.block_lt_of_cell? _ _ hw490_1; first | rwa [add_block] at this | exact this) GW491.out)) | (show (Addr.add _ _).block ≠ _; rw [add_block]; exact Nat.ne_of_lt (Nat.lt_of_lt_of_le (by have := World.block_lt_of_cell? _ _ hw490_1; first | rwa [add_block] at this | exact this) GW491.out)) | (dsimp only; exact Nat.ne_of_lt (Nat.lt_of_lt_of_le (by have := World.block_lt_of_cell? _ _ hw490_1; first | rwa [add_block] at this | exact this) GW491.out))) _).trans (((cell_far (p := ⟨gb491, _, none⟩) (by first | exact Nat.ne_of_lt (Nat.lt_of_lt_of_le (by have := World.block_lt_of_cell? _ _ hw490_1; first | rwa [add_block] at this | exact this) GW491.out) | (rw [add_block]; exact Nat.ne_of_lt (Nat.lt_of_lt_of_le (by have := World.block_lt_of_cell? _ _ hw490_1; first | rwa [add_block] at this | exact this) GW491.out)) | (show (Addr.add _ _).block ≠ _; rw [add_block]; exact Nat.ne_of_lt (Nat.lt_of_lt_of_le (by have := World.block_lt_of_cell? _ _ hw490_1; first | rwa [add_block] at this | exact this) GW491.out)) | (dsimp only; exact Nat.ne_of_lt (Nat.lt_of_lt_of_le (by have := World.block_lt_of_cell? _ _ hw490_1; first | rwa [add_block] at this | exact this) GW491.out))) _).trans (hHeld.2.2.2.2.1)))))))), ((cell_far (p := ⟨gb491, _, none⟩) (by first | exact Nat.ne_of_lt (Nat.lt_of_lt_of_le (by have := World.block_lt_of_cell? _ _ hw490_2; first | rwa [add_block] at this | exact this) GW491.out) | (rw [add_block]; exact Nat.ne_of_lt (Nat.lt_of_lt_of_le (by have := World.block_lt_of_cell? _ _ hw490_2; first | rwa [add_block] at this | exact this) GW491.out)) | (show (Addr.add _ _).block ≠ _; rw [add_block]; exact Nat.ne_of_lt (Nat.lt_of_lt_of_le (by have := World.block_lt_of_cell? _ _ hw490_2; first | rwa [add_block] at this | exact this) GW491.out)) | (dsimp only; exact Nat.ne_of_lt (Nat.lt_of_lt_of_le (by have := World.block_lt_of_cell? _ _ hw490_2; first | rwa [add_block] at this | exact this) GW491.out))) _).trans (((cell_far (p := ⟨gb491, _, none⟩) (by first | exact Nat.ne_of_lt (Nat.lt_of_lt_of_le (by have := World.block_lt_of_cell? _ _ hw490_2; first | rwa [add_block] at this | exact this) GW491.out) | (rw [add_block]; exact Nat.ne_of_lt (Nat.lt_of_lt_of_le (by have := World.block_lt_of_cell? _ _ hw490_2; first | rwa [add_block] at this | exact this) GW491.out)) | (show (Addr.add _ _).block ≠ _; rw [add_block]; exact Nat.ne_of_lt (Nat.lt_of_lt_of_le (by have := World.block_lt_of_cell? _ _ hw490_2; first | rwa [add_block] at this | exact this) GW491.out)) | (dsimp only; exact Nat.ne_of_lt (Nat.lt_of_lt_of_le (by have := World.block_lt_of_cell? _ _ hw490_2; first | rwa [add_block] at this | exact this) GW491.out))) _).trans (((cell_far (p := ⟨gb491, _, none⟩) (by first | exact Nat.ne_of_lt (Nat.lt_of_lt_of_le (by have := World.block_lt_of_cell? _ _ hw490_2; first | rwa [add_block] at this | exact this) GW491.out) | (rw [add_block]; exact Nat.ne_of_lt (Nat.lt_of_lt_of_le (by have := World.block_lt_of_cell? _ _ hw490_2; first | rwa [add_block] at this | exact this) GW491.out)) | (show (Addr.add _ _).block ≠ _; rw [add_block]; exact Nat.ne_of_lt (Nat.lt_of_lt_of_le (by have := World.block_lt_of_cell? _ _ hw490_2; first | rwa [add_block] at this | exact this) GW491.out)) | (dsimp only; exact Nat.ne_of_lt (Nat.lt_of_lt_of_le (by have := World.block_lt_of_cell? _ _ hw490_2; first | rwa [add_block] at this | exact this) GW491.out))) _).trans (((cell_far (p := ⟨gb491, _, none⟩) (by first | exact Nat.ne_of_lt (Nat.lt_of_lt_of_le (by have := World.block_lt_of_cell? _ _ hw490_2; first | rwa [add_block] at this | exact this) GW491.out) | (rw [add_block]; exact Nat.ne_of_lt (Nat.lt_of_lt_of_le (by have := World.block_lt_of_cell? _ _ hw490_2; first | rwa [add_block] at this | exact this) GW491.out)) | (show (Addr.add _ _).block ≠ _; rw [add_block]; exact Nat.ne_of_lt (Nat.lt_of_lt_of_le (by have := World.block_lt_of_cell? _ _ hw490_2; first | rwa [add_block] at this | exact this) GW491.out)) | (dsimp only; exact Nat.ne_of_lt (Nat.lt_of_lt_of_le (by have := World.block_lt_of_cell? _ _ hw490_2; first | rwa [add_block] at this | exact this) GW491.out))) _).trans (hHeld.2.2.2.2.2.1)))))))), ((cell_far (p := ⟨gb491, _, none⟩) (by first | exact Nat.ne_of_lt (Nat.lt_of_lt_of_le (by have := World.block_lt_of_cell? _ _ hw490_3; first | rwa [add_block] at this | exact this) GW491.out) | (rw [add_block]; exact Nat.ne_of_lt (Nat.lt_of_lt_of_le (by have := World.block_lt_of_cell? _ _ hw490_3; first | rwa [add_block] at this | exact this) GW491.out)) | (show (Addr.add _ _).block ≠ _; rw [add_block]; exact Nat.ne_of_lt (Nat.lt_of_lt_of_le (by have := World.block_lt_of_cell? _ _ hw490_3; first | rwa [add_block] at this | exact this) GW491.out)) | (dsimp only; exact Nat.ne_of_lt (Nat.lt_of_lt_of_le (by have := World.block_lt_of_cell? _ _ hw490_3; first | rwa [add_block] at this | exact this) GW491.out))) _).trans (((cell_far (p := ⟨gb491, _, none⟩) (by first | exact Nat.ne_of_lt (Nat.lt_of_lt_of_le (by have := World.block_lt_of_cell? _ _ hw490_3; first | rwa [add_block] at this | exact this) GW491.out) | (rw [add_block]; exact Nat.ne_of_lt (Nat.lt_of_lt_of_le (by have := World.block_lt_of_cell? _ _ hw490_3; first | rwa [add_block] at this | exact this) GW491.out)) | (show (Addr.add _ _).block ≠ _; rw [add_block]; exact Nat.ne_of_lt (Nat.lt_of_lt_of_le (by have := World.block_lt_of_cell? _ _ hw490_3; first | rwa [add_block] at this | exact this) GW491.out)) | (dsimp only; exact Nat.ne_of_lt (Nat.lt_of_lt_of_le (by have := World.block_lt_of_cell? _ _ hw490_3; first | rwa [add_block] at this | exact this) GW491.out))) _).trans (((cell_far (p := ⟨gb491, _, none⟩) (by first | exact Nat.ne_of_lt (Nat.lt_of_lt_of_le (by have := World.block_lt_of_cell? _ _ hw490_3; first | rwa [add_block] at this | exact this) GW491.out) | (rw [add_block]; exact Nat.ne_of_lt (Nat.lt_of_lt_of_le (by have := World.block_lt_of_cell? _ _ hw490_3; first | rwa [add_block] at this | exact this) GW491.out)) | (show (Addr.add _ _).block ≠ _; rw [add_block]; exact Nat.ne_of_lt (Nat.lt_of_lt_of_le (by have := World.block_lt_of_cell? _ _ hw490_3; first | rwa [add_block] at this | exact this) GW491.out)) | (dsimp only; exact Nat.ne_of_lt (Nat.lt_of_lt_of_le (by have := World.block_lt_of_cell? _ _ hw490_3; first | rwa [add_block] at this | exact this) GW491.out))) _).trans (((cell_far (p := ⟨gb491, _, none⟩) (by first | exact Nat.ne_of_lt (Nat.lt_of_lt_of_le (by have := World.block_lt_of_cell? _ _ hw490_3; first | rwa [add_block] at this | exact this) GW491.out) | (rw [add_block]; exact Nat.ne_of_lt (Nat.lt_of_lt_of_le (by have := World.block_lt_of_cell? _ _ hw490_3; first | rwa [add_block] at this | exact this) GW491.out)) | (show (Addr.add _ _).block ≠ _; rw [add_block]; exact Nat.ne_of_lt (Nat.lt_of_lt_of_le (by have := World.block_lt_of_cell? _ _ hw490_3; first | rwa [add_block] at this | exact this) GW491.out)) | (dsimp only; exact Nat.ne_of_lt (Nat.lt_of_lt_of_le (by have := World.block_lt_of_cell? _ _ hw490_3; first | rwa [add_block] at this | exact this) GW491.out))) _).trans (hHeld.2.2.2.2.2.2))))))))⟩ (fun hHeld => ?_)
               clear hK K
               refine done_ (done_of HT_.out (by kernel_rfl)) ?_
               have n0_ : Aside0 (Kd.S (Kd.slice 3 (Kd.int .i64)) 70 ((((w22.setCell ⟨gb491, 0, none⟩ (.int .i64 ((rd_T89 l0_0 (rd (rd_L8 t475 x6_1) x9_2)).f0))).setCell ⟨gb491, 1, none⟩ (.int .i64 ((rd_T89 l0_0 (rd (rd_L8 t475 x6_1) x9_2)).f1))).setCell ⟨gb491, 2, none⟩ (.string ((rd_T89 l0_0 (rd (rd_L8 t475 x6_1) x9_2)).f2))).setCell ⟨gb491, 3, none⟩ (.int .i64 ((rd_T89 l0_0 (rd (rd_L8 t475 x6_1) x9_2)).f3))) w.heap.size (fun k_ => some k_ ≠ (u5 : Value).ownBlock) (.slice (some ad482) t475.length co12) t475) := ⟨by (with_reducible repeat (first | apply Kd.S_alloc | apply Kd.S_drewN | apply Kd.S_drew)); exact Kd.S_mono (Kd.S_far (p := ⟨gb491, 3, none⟩) (Kd.S_far (p := ⟨gb491, 2, none⟩) (Kd.S_far (p := ⟨gb491, 1, none⟩) (Kd.S_far (p := ⟨gb491, 0, none⟩) (Kd.S_types HO_3.out BK491.out (by decide)) (fun _ hk => hk.2) (.int .i64 ((rd_T89 l0_0 (rd (rd_L8 t475 x6_1) x9_2)).f0))) (fun _ hk => hk.2) (.int .i64 ((rd_T89 l0_0 (rd (rd_L8 t475 x6_1) x9_2)).f1))) (fun _ hk => hk.2) (.string ((rd_T89 l0_0 (rd (rd_L8 t475 x6_1) x9_2)).f2))) (fun _ hk => hk.2) (.int .i64 ((rd_T89 l0_0 (rd (rd_L8 t475 x6_1) x9_2)).f3))) (fun _ hk => hk.1)⟩
               have n1_ : Aside0 (Kd.R (Kd.int .i64) 3 ((((w22.setCell ⟨gb491, 0, none⟩ (.int .i64 ((rd_T89 l0_0 (rd (rd_L8 t475 x6_1) x9_2)).f0))).setCell ⟨gb491, 1, none⟩ (.int .i64 ((rd_T89 l0_0 (rd (rd_L8 t475 x6_1) x9_2)).f1))).setCell ⟨gb491, 2, none⟩ (.string ((rd_T89 l0_0 (rd (rd_L8 t475 x6_1) x9_2)).f2))).setCell ⟨gb491, 3, none⟩ (.int .i64 ((rd_T89 l0_0 (rd (rd_L8 t475 x6_1) x9_2)).f3))) w.heap.size (fun _ => True) u5 x5_1) := ⟨by (with_reducible repeat (first | apply Kd.R_alloc | apply Kd.R_drewN | apply Kd.R_drew)); exact Kd.R_mono (Kd.R_far (p := ⟨gb491, 3, none⟩) (Kd.R_far (p := ⟨gb491, 2, none⟩) (Kd.R_far (p := ⟨gb491, 1, none⟩) (Kd.R_far (p := ⟨gb491, 0, none⟩) (Kd.R_types HO_5.out BK491.out (by decide)) (fun _ hk => hk.2) (.int .i64 ((rd_T89 l0_0 (rd (rd_L8 t475 x6_1) x9_2)).f0))) (fun _ hk => hk.2) (.int .i64 ((rd_T89 l0_0 (rd (rd_L8 t475 x6_1) x9_2)).f1))) (fun _ hk => hk.2) (.string ((rd_T89 l0_0 (rd (rd_L8 t475 x6_1) x9_2)).f2))) (fun _ hk => hk.2) (.int .i64 ((rd_T89 l0_0 (rd (rd_L8 t475 x6_1) x9_2)).f3))) (fun _ hk => trivial)⟩
               have n2_ : Aside0 (Kd.R (Kd.int .i64) 3 ((((w22.setCell ⟨gb491, 0, none⟩ (.int .i64 ((rd_T89 l0_0 (rd (rd_L8 t475 x6_1) x9_2)).f0))).setCell ⟨gb491, 1, none⟩ (.int .i64 ((rd_T89 l0_0 (rd (rd_L8 t475 x6_1) x9_2)).f1))).setCell ⟨gb491, 2, none⟩ (.string ((rd_T89 l0_0 (rd (rd_L8 t475 x6_1) x9_2)).f2))).setCell ⟨gb491, 3, none⟩ (.int .i64 ((rd_T89 l0_0 (rd (rd_L8 t475 x6_1) x9_2)).f3))) w.heap.size (fun k_ => some k_ ≠ (.slice (some ad482) t475.length co12 : Value).ownBlock ∧ some k_ ≠ (u5 : Value).ownBlock) (.slice A482_0 (rd_L8 t475 x6_1).length c482_0) (rd_L8 t475 x6_1)) := ⟨by (with_reducible repeat (first | apply Kd.R_alloc | apply Kd.R_drewN | apply Kd.R_drew)); exact Kd.R_mono (Kd.R_far (p := ⟨gb491, 3, none⟩) (Kd.R_far (p := ⟨gb491, 2, none⟩) (Kd.R_far (p := ⟨gb491, 1, none⟩) (Kd.R_far (p := ⟨gb491, 0, none⟩) (Kd.R_types HL482_0.out BK491.out (by decide)) (fun _ hk => hk.2) (.int .i64 ((rd_T89 l0_0 (rd (rd_L8 t475 x6_1) x9_2)).f0))) (fun _ hk => hk.2) (.int .i64 ((rd_T89 l0_0 (rd (rd_L8 t475 x6_1) x9_2)).f1))) (fun _ hk => hk.2) (.string ((rd_T89 l0_0 (rd (rd_L8 t475 x6_1) x9_2)).f2))) (fun _ hk => hk.2) (.int .i64 ((rd_T89 l0_0 (rd (rd_L8 t475 x6_1) x9_2)).f3))) (fun _ hk => ⟨hk.1.2, hk.1.1⟩)⟩
               have n3_ : Aside0 (Kd.R (Kd.int .i64) 3 ((((w22.setCell ⟨gb491, 0, none⟩ (.int .i64 ((rd_T89 l0_0 (rd (rd_L8 t475 x6_1) x9_2)).f0))).setCell ⟨gb491, 1, none⟩ (.int .i64 ((rd_T89 l0_0 (rd (rd_L8 t475 x6_1) x9_2)).f1))).setCell ⟨gb491, 2, none⟩ (.string ((rd_T89 l0_0 (rd (rd_L8 t475 x6_1) x9_2)).f2))).setCell ⟨gb491, 3, none⟩ (.int .i64 ((rd_T89 l0_0 (rd (rd_L8 t475 x6_1) x9_2)).f3))) w.heap.size (fun k_ => some k_ ≠ (.slice (some ad482) t475.length co12 : Value).ownBlock ∧ some k_ ≠ (u5 : Value).ownBlock) (.slice (some ad489) (rd_L8 t475 x6_1).length c488_0) (rd_L8 t475 x6_1)) := ⟨by (with_reducible repeat (first | apply Kd.R_alloc | apply Kd.R_drewN | apply Kd.R_drew)); exact Kd.R_mono (Kd.R_far (p := ⟨gb491, 3, none⟩) (Kd.R_far (p := ⟨gb491, 2, none⟩) (Kd.R_far (p := ⟨gb491, 1, none⟩) (Kd.R_far (p := ⟨gb491, 0, none⟩) (Kd.R_types HL488_0.out BK491.out (by decide)) (fun _ hk => hk.2) (.int .i64 ((rd_T89 l0_0 (rd (rd_L8 t475 x6_1) x9_2)).f0))) (fun _ hk => hk.2) (.int .i64 ((rd_T89 l0_0 (rd (rd_L8 t475 x6_1) x9_2)).f1))) (fun _ hk => hk.2) (.string ((rd_T89 l0_0 (rd (rd_L8 t475 x6_1) x9_2)).f2))) (fun _ hk => hk.2) (.int .i64 ((rd_T89 l0_0 (rd (rd_L8 t475 x6_1) x9_2)).f3))) (fun _ hk => ⟨hk.1.2, hk.1.1⟩)⟩
               have n4_ : Aside0 (((((w22.setCell ⟨gb491, 0, none⟩ (.int .i64 ((rd_T89 l0_0 (rd (rd_L8 t475 x6_1) x9_2)).f0))).setCell ⟨gb491, 1, none⟩ (.int .i64 ((rd_T89 l0_0 (rd (rd_L8 t475 x6_1) x9_2)).f1))).setCell ⟨gb491, 2, none⟩ (.string ((rd_T89 l0_0 (rd (rd_L8 t475 x6_1) x9_2)).f2))).setCell ⟨gb491, 3, none⟩ (.int .i64 ((rd_T89 l0_0 (rd (rd_L8 t475 x6_1) x9_2)).f3))).heap[gb473]? = some (.cells #[.slice (some ad490) l0_0.length c0_0] 60 (0, 0))) := ⟨by (with_reducible repeat (first | refine blk_drewN ?_ _ | refine blk_drew ?_ | refine blk_alloc ?_ _)); refine blk_far ?_ NB473_491.out _; (with_reducible repeat (first | refine blk_drewN ?_ _ | refine blk_drew ?_ | refine blk_alloc ?_ _)); refine blk_far ?_ NB473_491.out _; (with_reducible repeat (first | refine blk_drewN ?_ _ | refine blk_drew ?_ | refine blk_alloc ?_ _)); refine blk_far ?_ NB473_491.out _; (with_reducible repeat (first | refine blk_drewN ?_ _ | refine blk_drew ?_ | refine blk_alloc ?_ _)); refine blk_far ?_ NB473_491.out _; (with_reducible repeat (first | refine blk_drewN ?_ _ | refine blk_drew ?_ | refine blk_alloc ?_ _)); exact BK473.out⟩
               have n5_ : Aside0 (((((w22.setCell ⟨gb491, 0, none⟩ (.int .i64 ((rd_T89 l0_0 (rd (rd_L8 t475 x6_1) x9_2)).f0))).setCell ⟨gb491, 1, none⟩ (.int .i64 ((rd_T89 l0_0 (rd (rd_L8 t475 x6_1) x9_2)).f1))).setCell ⟨gb491, 2, none⟩ (.string ((rd_T89 l0_0 (rd (rd_L8 t475 x6_1) x9_2)).f2))).setCell ⟨gb491, 3, none⟩ (.int .i64 ((rd_T89 l0_0 (rd (rd_L8 t475 x6_1) x9_2)).f3))).heap[gb491]? = some (.cells #[.int .i64 ((rd_T89 l0_0 (rd (rd_L8 t475 x6_1) x9_2)).f0), .int .i64 ((rd_T89 l0_0 (rd (rd_L8 t475 x6_1) x9_2)).f1), .string ((rd_T89 l0_0 (rd (rd_L8 t475 x6_1) x9_2)).f2), .int .i64 ((rd_T89 l0_0 (rd (rd_L8 t475 x6_1) x9_2)).f3)] 89 (0, 0))) := ⟨by (with_reducible repeat (first | refine blk_drewN ?_ _ | refine blk_drew ?_ | refine blk_alloc ?_ _)); refine blk_put (cs := #[.int .i64 ((rd_T89 l0_0 (rd (rd_L8 t475 x6_1) x9_2)).f0), .int .i64 ((rd_T89 l0_0 (rd (rd_L8 t475 x6_1) x9_2)).f1), .string ((rd_T89 l0_0 (rd (rd_L8 t475 x6_1) x9_2)).f2), .int .i64 0]) ?_ 3 _ rfl; (with_reducible repeat (first | refine blk_drewN ?_ _ | refine blk_drew ?_ | refine blk_alloc ?_ _)); refine blk_put (cs := #[.int .i64 ((rd_T89 l0_0 (rd (rd_L8 t475 x6_1) x9_2)).f0), .int .i64 ((rd_T89 l0_0 (rd (rd_L8 t475 x6_1) x9_2)).f1), .string (⟨#[]⟩ : ByteArray), .int .i64 0]) ?_ 2 _ rfl; (with_reducible repeat (first | refine blk_drewN ?_ _ | refine blk_drew ?_ | refine blk_alloc ?_ _)); refine blk_put (cs := #[.int .i64 ((rd_T89 l0_0 (rd (rd_L8 t475 x6_1) x9_2)).f0), .int .i64 0, .string (⟨#[]⟩ : ByteArray), .int .i64 0]) ?_ 1 _ rfl; (with_reducible repeat (first | refine blk_drewN ?_ _ | refine blk_drew ?_ | refine blk_alloc ?_ _)); refine blk_put (cs := #[.int .i64 0, .int .i64 0, .string (⟨#[]⟩ : ByteArray), .int .i64 0]) ?_ 0 _ rfl; (with_reducible repeat (first | refine blk_drewN ?_ _ | refine blk_drew ?_ | refine blk_alloc ?_ _)); exact BK491.out⟩
               have n6_ : Aside0 (Below w.heap.size w ((((w22.setCell ⟨gb491, 0, none⟩ (.int .i64 ((rd_T89 l0_0 (rd (rd_L8 t475 x6_1) x9_2)).f0))).setCell ⟨gb491, 1, none⟩ (.int .i64 ((rd_T89 l0_0 (rd (rd_L8 t475 x6_1) x9_2)).f1))).setCell ⟨gb491, 2, none⟩ (.string ((rd_T89 l0_0 (rd (rd_L8 t475 x6_1) x9_2)).f2))).setCell ⟨gb491, 3, none⟩ (.int .i64 ((rd_T89 l0_0 (rd (rd_L8 t475 x6_1) x9_2)).f3)))) := ⟨by repeat (first | (with_reducible first | exact HB.out | apply below_alloc | apply pw_below_drewN | apply below_drew1 | refine below_set ?_ GE473.out | refine below_set ?_ GE491.out) | exact HB.out)⟩
               (try clear HO_3)
               (try clear HO_5)
               (try clear HL482_0)
               (try clear HL488_0)
               (try clear BK473)
               (try clear BK491)
               (try clear HB)
               generalize ((((w22.setCell ⟨gb491, 0, none⟩ (.int .i64 ((rd_T89 l0_0 (rd (rd_L8 t475 x6_1) x9_2)).f0))).setCell ⟨gb491, 1, none⟩ (.int .i64 ((rd_T89 l0_0 (rd (rd_L8 t475 x6_1) x9_2)).f1))).setCell ⟨gb491, 2, none⟩ (.string ((rd_T89 l0_0 (rd (rd_L8 t475 x6_1) x9_2)).f2))).setCell ⟨gb491, 3, none⟩ (.int .i64 ((rd_T89 l0_0 (rd (rd_L8 t475 x6_1) x9_2)).f3))) = w27 at n0_ n1_ n2_ n3_ n4_ n5_ n6_ ⊢
               have HO_3 := n0_
               have HO_5 := n1_
               have HL482_0 := n2_
               have HL488_0 := n3_
               have BK473 := n4_
               have BK491 := n5_
               have HB := n6_
               clear n0_ n1_ n2_ n3_ n4_ n5_ n6_
               have p492 : 0 ≤ (x6_1 : Int) := of_decide_eq_true (by first | (with_reducible assumption) | assumption)
               have q492 : x6_1 < (t475.length : Int) := of_decide_eq_true (by first | (with_reducible assumption) | assumption)
               obtain ⟨ad492, A492_0, c492_0, e492, hx492_0, hl492_0, hi492_0⟩ := at_L8 (Kd.S_reads' HO_3.out).2.2 x6_1 p492 q492
               obtain rfl : ad482 = ad492 := (by injection e492)
               obtain ⟨ce492, hce492, hMe492, hcc492⟩ := Kd.S_get HO_3.out [] x6_1 p492 (by first | exact q492 | exact of_decide_eq_true (by first | (with_reducible assumption) | assumption) | (have e_ := (Kd.S_reads' HO_3.out).1; omega))
               obtain ⟨ve492_0, rfl, ge492_0⟩ := hMe492
               have hv492_0 := hcc492 0 _ rfl
               rw [Nat.add_zero, show ((Kd.slice 3 (Kd.int .i64))).sz = 1 from rfl, Nat.mul_one] at hv492_0
               replace hv492_0 := Option.some.inj (hv492_0.symm.trans hx492_0)
               rw [hv492_0] at ge492_0
               have HL492_0 := Aside0.mk (show Kd.R (Kd.int .i64) 3 _ _ _ _ (rd_L8 t475 x6_1) from ge492_0)
               clear hv492_0 ge492_0
               clear hcc492 hce492
               have HR492_0 := Aside0.mk hi492_0
               have HC492_0 := Aside0.mk hl492_0
               clear hi492_0 hl492_0
               replace p492 := eq_true p492
               replace q492 := eq_true q492
               have p493 : 0 ≤ (x9_2 : Int) := of_decide_eq_true (by first | (with_reducible assumption) | assumption)
               have q493 : x9_2 < ((rd_L8 t475 x6_1).length : Int) := of_decide_eq_true (by first | (with_reducible assumption) | assumption)
               obtain ⟨ad493, e493, hx493_0⟩ := Kd.at_int (by repeat (first | (with_reducible exact HR492_0.out) | (with_reducible refine Kd.C_alloc ?_ _) | (with_reducible refine Kd.C_drewN ?_ _) | (with_reducible refine Kd.C_drew ?_) | exact HR492_0.out)) x9_2 p493 q493
               cases e493
               replace p493 := eq_true p493
               replace q493 := eq_true q493
               obtain ⟨Ao28, co28, eo28⟩ := Kd.R_slice HO_5.out
               subst eo28
               have p494 : 0 ≤ ((rd (rd_L8 t475 x6_1) x9_2) : Int) := of_decide_eq_true (by first | (with_reducible assumption) | assumption)
               have q494 : (rd (rd_L8 t475 x6_1) x9_2) < (x5_1.length : Int) := of_decide_eq_true (by first | (with_reducible assumption) | assumption)
               obtain ⟨ad494, e494, hx494_0⟩ := Kd.at_int (Kd.R_reads' HO_5.out).2.2 (rd (rd_L8 t475 x6_1) x9_2) p494 q494
               cases e494
               replace p494 := eq_true p494
               replace q494 := eq_true q494
               go_upto_if 62 with (fail)
               go_cut [7] (fun v7 wc => ∃ (kq : Nat) (x7_19 : Int), v7 = .int .i64 x7_19 ∧ Aside0 (spec_ValidValue.j2 kq t475 x5_1 x6_1 x7_19 x8_2 x9_2 l0_0 ((rd_T89 l0_0 (rd (rd_L8 t475 x6_1) x9_2)).f0) ((rd_T89 l0_0 (rd (rd_L8 t475 x6_1) x9_2)).f1) ((rd_T89 l0_0 (rd (rd_L8 t475 x6_1) x9_2)).f2) ((rd_T89 l0_0 (rd (rd_L8 t475 x6_1) x9_2)).f3) = some r) ∧ Aside0 (kq ≤ k2) ∧ Aside0 (Kd.S (Kd.slice 3 (Kd.int .i64)) 70 wc w.heap.size (fun k_ => some k_ ≠ ((.slice (some ad494) x5_1.length co28) : Value).ownBlock) (.slice (some ad482) t475.length co12) t475) ∧ Aside0 (Kd.R (Kd.int .i64) 3 wc w.heap.size (fun _ => True) (.slice (some ad494) x5_1.length co28) x5_1) ∧ Aside0 (wc.heap[gb473]? = some (.cells #[(.slice (some ad490) l0_0.length c0_0)] 60 (0, 0))) ∧ Aside0 (wc.heap[gb491]? = some (.cells #[.int .i64 ((rd_T89 l0_0 (rd (rd_L8 t475 x6_1) x9_2)).f0), .int .i64 ((rd_T89 l0_0 (rd (rd_L8 t475 x6_1) x9_2)).f1), .string ((rd_T89 l0_0 (rd (rd_L8 t475 x6_1) x9_2)).f2), .int .i64 ((rd_T89 l0_0 (rd (rd_L8 t475 x6_1) x9_2)).f3)] 89 (0, 0))) ∧ Aside0 (Kd.C (Kd.int .i64) wc (some ad493) (rd_L8 t475 x6_1).length (rd_L8 t475 x6_1)) ∧ Aside0 (Below w.heap.size w wc))
               case first =>
                have H := HC20.out
                clear HC20
                by_cases c29 : (wrap64 ((rd x5_1 (rd (rd_L8 t475 x6_1) x9_2)) + 1)) > x7_2
                ·rw [if_pos c29] at H
                 have c29b0 : decide (x7_2 < (wrap64 ((rd x5_1 (rd (rd_L8 t475 x6_1) x9_2)) + 1))) = true := decide_eq_true c29
                 clear c29
                 (first | rw [c29b0] | (simp only [i64_w, i32_w]; rw [c29b0]) | skip)
                 have H' := Aside0.mk H
                 clear H
                 have p495 : 0 ≤ (x6_1 : Int) := of_decide_eq_true (by first | (with_reducible assumption) | assumption)
                 have q495 : x6_1 < (t475.length : Int) := of_decide_eq_true (by first | (with_reducible assumption) | assumption)
                 obtain ⟨ad495, A495_0, c495_0, e495, hx495_0, hl495_0, hi495_0⟩ := at_L8 (Kd.S_reads' HO_3.out).2.2 x6_1 p495 q495
                 obtain rfl : ad482 = ad495 := (by injection e495)
                 obtain ⟨ce495, hce495, hMe495, hcc495⟩ := Kd.S_get HO_3.out [] x6_1 p495 (by first | exact q495 | exact of_decide_eq_true (by first | (with_reducible assumption) | assumption) | (have e_ := (Kd.S_reads' HO_3.out).1; omega))
                 obtain ⟨ve495_0, rfl, ge495_0⟩ := hMe495
                 have hv495_0 := hcc495 0 _ rfl
                 rw [Nat.add_zero, show ((Kd.slice 3 (Kd.int .i64))).sz = 1 from rfl, Nat.mul_one] at hv495_0
                 replace hv495_0 := Option.some.inj (hv495_0.symm.trans hx495_0)
                 rw [hv495_0] at ge495_0
                 have HL495_0 := Aside0.mk (show Kd.R (Kd.int .i64) 3 _ _ _ _ (rd_L8 t475 x6_1) from ge495_0)
                 clear hv495_0 ge495_0
                 clear hcc495 hce495
                 have HR495_0 := Aside0.mk hi495_0
                 have HC495_0 := Aside0.mk hl495_0
                 clear hi495_0 hl495_0
                 replace p495 := eq_true p495
                 replace q495 := eq_true q495
                 have p496 : 0 ≤ (x9_2 : Int) := of_decide_eq_true (by first | (with_reducible assumption) | assumption)
                 have q496 : x9_2 < ((rd_L8 t475 x6_1).length : Int) := of_decide_eq_true (by first | (with_reducible assumption) | assumption)
                 obtain ⟨ad496, e496, hx496_0⟩ := Kd.at_int (by repeat (first | (with_reducible exact HR495_0.out) | (with_reducible refine Kd.C_alloc ?_ _) | (with_reducible refine Kd.C_drewN ?_ _) | (with_reducible refine Kd.C_drew ?_) | exact HR495_0.out)) x9_2 p496 q496
                 cases e496
                 replace p496 := eq_true p496
                 replace q496 := eq_true q496
                 have p497 : 0 ≤ ((rd (rd_L8 t475 x6_1) x9_2) : Int) := of_decide_eq_true (by first | (with_reducible assumption) | assumption)
                 have q497 : (rd (rd_L8 t475 x6_1) x9_2) < (x5_1.length : Int) := of_decide_eq_true (by first | (with_reducible assumption) | assumption)
                 obtain ⟨ad497, e497, hx497_0⟩ := Kd.at_int (Kd.R_reads' HO_5.out).2.2 (rd (rd_L8 t475 x6_1) x9_2) p497 q497
                 obtain rfl : ad494 = ad497 := (by injection e497)
                 replace p497 := eq_true p497
                 replace q497 := eq_true q497
                 go_wp2
                 go_meet
                 case rel => exact ⟨_, (wrap64 ((rd x5_1 (rd (rd_L8 t475 x6_1) x9_2)) + 1)), (by first | rfl | (simp; done) | (simp [*]; done)), H', ⟨by have := HK1.out; have := HK2.out; first | omega | exact Nat.le_refl _⟩, ⟨by (with_reducible repeat (first | apply Kd.S_alloc | apply Kd.S_drewN | apply Kd.S_drew)); exact HO_3.out⟩, ⟨by (with_reducible repeat (first | apply Kd.R_alloc | apply Kd.R_drewN | apply Kd.R_drew)); exact HO_5.out⟩, ⟨by (with_reducible repeat (first | refine blk_drewN ?_ _ | refine blk_drew ?_ | refine blk_alloc ?_ _)); exact BK473.out⟩, ⟨by (with_reducible repeat (first | refine blk_drewN ?_ _ | refine blk_drew ?_ | refine blk_alloc ?_ _)); exact BK491.out⟩, ⟨by repeat (first | (with_reducible exact HR492_0.out) | (with_reducible refine Kd.C_alloc ?_ _) | (with_reducible refine Kd.C_drewN ?_ _) | (with_reducible refine Kd.C_drew ?_) | exact HR492_0.out)⟩, ⟨by repeat (first | (with_reducible first | exact HB.out | apply below_alloc | apply pw_below_drewN | apply below_drew1 | refine below_set ?_ GE473.out | refine below_set ?_ GE491.out) | exact HB.out)⟩⟩
                ·rw [if_neg c29] at H
                 have c29b0 : decide (x7_2 < (wrap64 ((rd x5_1 (rd (rd_L8 t475 x6_1) x9_2)) + 1))) = false := decide_eq_false c29
                 clear c29
                 (first | rw [c29b0] | (simp only [i64_w, i32_w]; rw [c29b0]) | skip)
                 have H' := Aside0.mk H
                 clear H
                 go_wp2
                 go_meet
                 case rel => exact ⟨_, (x7_2), (by first | rfl | (simp; done) | (simp [*]; done)), H', ⟨by have := HK1.out; have := HK2.out; first | omega | exact Nat.le_refl _⟩, ⟨by (with_reducible repeat (first | apply Kd.S_alloc | apply Kd.S_drewN | apply Kd.S_drew)); exact HO_3.out⟩, ⟨by (with_reducible repeat (first | apply Kd.R_alloc | apply Kd.R_drewN | apply Kd.R_drew)); exact HO_5.out⟩, ⟨by (with_reducible repeat (first | refine blk_drewN ?_ _ | refine blk_drew ?_ | refine blk_alloc ?_ _)); exact BK473.out⟩, ⟨by (with_reducible repeat (first | refine blk_drewN ?_ _ | refine blk_drew ?_ | refine blk_alloc ?_ _)); exact BK491.out⟩, ⟨by repeat (first | (with_reducible exact HR492_0.out) | (with_reducible refine Kd.C_alloc ?_ _) | (with_reducible refine Kd.C_drewN ?_ _) | (with_reducible refine Kd.C_drew ?_) | exact HR492_0.out)⟩, ⟨by repeat (first | (with_reducible first | exact HB.out | apply below_alloc | apply pw_below_drewN | apply below_drew1 | refine below_set ?_ GE473.out | refine below_set ?_ GE491.out) | exact HB.out)⟩⟩
               case rest =>
                clear HC20
                try clear c1
                try clear c2
                try clear p2
                try clear c3
                try clear c4
                try clear p4
                try clear q4
                try clear hx4
                try clear c5
                try clear p6
                try clear c11
                try clear c11b0
                try clear c13
                try clear c13b0
                try clear c14
                try clear c14b0
                try clear c15
                try clear c15b0
                try clear c16
                try clear c16b0
                try clear c17
                try clear c17b0
                try clear c18
                try clear c18b0
                try clear c19
                try clear c19b0
                try clear c29
                try clear c29b0
                try clear hcz7_0
                try clear hfz7_0
                try clear hx482_0
                try clear hx488_0
                try clear hx489_0
                try clear hx490_0
                try clear hx490_1
                try clear hx490_2
                try clear hx490_3
                try clear hx492_0
                try clear hx493_0
                try clear hx494_0
                try clear hx495_0
                try clear hx496_0
                try clear hx497_0
                try clear p2
                try clear p482
                try clear p488
                try clear p489
                try clear p490
                try clear p492
                try clear p493
                try clear p494
                try clear p495
                try clear p496
                try clear p497
                try clear q482
                try clear q488
                try clear q489
                try clear q490
                try clear q492
                try clear q493
                try clear q494
                try clear q495
                try clear q496
                try clear q497
                obtain ⟨kq, x7_19, rfl, HA, HJ19, HO_3, HO_5, BK473, BK491, HR492_0, HB⟩ := hcut
                cases kq with
                | zero => exact absurd HA.out (by simp [spec_ValidValue.j2])
                | succ kj19 =>
                 have H := HA.out
                 clear HA
                 simp only [spec_ValidValue.j2] at H
                 have HC30 := Aside0.mk H
                 clear H
                 go_upto_region 18 with (fail)
                 go_cut [85] (fun v85 wc => ∃ (kq : Nat) (x85_29 : Bool), v85 = .bool x85_29 ∧ Aside0 (spec_ValidValue.j3 kq t475 x5_1 x6_1 x7_19 x8_2 x9_2 x85_29 l0_0 ((rd_T89 l0_0 (rd (rd_L8 t475 x6_1) x9_2)).f0) ((rd_T89 l0_0 (rd (rd_L8 t475 x6_1) x9_2)).f1) ((rd_T89 l0_0 (rd (rd_L8 t475 x6_1) x9_2)).f2) ((rd_T89 l0_0 (rd (rd_L8 t475 x6_1) x9_2)).f3) = some r) ∧ Aside0 (kq ≤ kj19) ∧ Aside0 (Kd.S (Kd.slice 3 (Kd.int .i64)) 70 wc w.heap.size (fun k_ => some k_ ≠ ((.slice (some ad494) x5_1.length co28) : Value).ownBlock) (.slice (some ad482) t475.length co12) t475) ∧ Aside0 (Kd.R (Kd.int .i64) 3 wc w.heap.size (fun _ => True) (.slice (some ad494) x5_1.length co28) x5_1) ∧ Aside0 (wc.heap[gb473]? = some (.cells #[(.slice (some ad490) l0_0.length c0_0)] 60 (0, 0))) ∧ Aside0 (wc.heap[gb491]? = some (.cells #[.int .i64 ((rd_T89 l0_0 (rd (rd_L8 t475 x6_1) x9_2)).f0), .int .i64 ((rd_T89 l0_0 (rd (rd_L8 t475 x6_1) x9_2)).f1), .string ((rd_T89 l0_0 (rd (rd_L8 t475 x6_1) x9_2)).f2), .int .i64 ((rd_T89 l0_0 (rd (rd_L8 t475 x6_1) x9_2)).f3)] 89 (0, 0))) ∧ Aside0 (Kd.C (Kd.int .i64) wc (some ad493) (rd_L8 t475 x6_1).length (rd_L8 t475 x6_1)) ∧ Aside0 (Below w.heap.size w wc))
                 case first =>
                  have H := HC30.out
                  clear HC30
                  by_cases c31 : 0 ≤ x6_1
                  ·rw [if_pos c31] at H
                   have c31b0 : decide (0 ≤ x6_1) = true := decide_eq_true c31
                   clear c31
                   (first | rw [c31b0] | (simp only [i64_w, i32_w]; rw [c31b0]) | skip)
                   by_cases c32 : x6_1 < (l0_0.length : Int)
                   ·rw [if_pos c32] at H
                    have c32b0 : decide (x6_1 < (l0_0.length : Int)) = true := decide_eq_true c32
                    clear c32
                    by_cases c33 : ((rd_T89 l0_0 x6_1).f0) = 5
                    ·rw [if_pos c33] at H
                     have c33b0 : (((rd_T89 l0_0 x6_1).f0) == 5) = true := beq_iff_eq.mpr c33
                     have c33b1 : (((rd_T89 l0_0 x6_1).f0) != 5) = false := bne_eq_false_iff_eq.mpr c33
                     clear c33
                     have H' := Aside0.mk H
                     clear H
                     have hnb34 := NB473_491.out
                     have hnc34 := NB491_473.out
                     have hcz35_0 : wc.cell? ⟨gb473, 0, none⟩ = some (.slice (some ad490) l0_0.length c0_0) := (blk_cell BK473.out 0).trans rfl
                     have hfz35_0 := blk_frozen BK473.out 0
                     have p498 : 0 ≤ (x6_1 : Int) := of_decide_eq_true (by first | (with_reducible assumption) | assumption)
                     have q498 : x6_1 < (l0_0.length : Int) := of_decide_eq_true (by first | (with_reducible assumption) | assumption)
                     obtain ⟨ad498, e498, hx498_0, hx498_1, hx498_2, hx498_3⟩ := at_T89 HR0_0.out x6_1 p498 q498
                     obtain rfl : ad490 = ad498 := (by injection e498)
                     replace hx498_0 := (HB.out.cell (World.block_lt_of_cell? w _ hx498_0)).trans hx498_0
                     replace hx498_1 := (HB.out.cell (World.block_lt_of_cell? w _ hx498_1)).trans hx498_1
                     replace hx498_2 := (HB.out.cell (World.block_lt_of_cell? w _ hx498_2)).trans hx498_2
                     replace hx498_3 := (HB.out.cell (World.block_lt_of_cell? w _ hx498_3)).trans hx498_3
                     replace p498 := eq_true p498
                     replace q498 := eq_true q498
                     go_wp2
                     go_meet
                     case rel => exact ⟨_, (((Int.tmod x9_2 2) == 0)), (by first | rfl | (simp; done) | (simp [*]; done)), H', ⟨by have := HK1.out; have := HK2.out; have := HJ19.out; first | omega | exact Nat.le_refl _⟩, ⟨by (with_reducible repeat (first | apply Kd.S_alloc | apply Kd.S_drewN | apply Kd.S_drew)); exact HO_3.out⟩, ⟨by (with_reducible repeat (first | apply Kd.R_alloc | apply Kd.R_drewN | apply Kd.R_drew)); exact HO_5.out⟩, ⟨by (with_reducible repeat (first | refine blk_drewN ?_ _ | refine blk_drew ?_ | refine blk_alloc ?_ _)); exact BK473.out⟩, ⟨by (with_reducible repeat (first | refine blk_drewN ?_ _ | refine blk_drew ?_ | refine blk_alloc ?_ _)); exact BK491.out⟩, ⟨by repeat (first | (with_reducible exact HR492_0.out) | (with_reducible refine Kd.C_alloc ?_ _) | (with_reducible refine Kd.C_drewN ?_ _) | (with_reducible refine Kd.C_drew ?_) | exact HR492_0.out)⟩, ⟨by repeat (first | (with_reducible first | exact HB.out | apply below_alloc | apply pw_below_drewN | apply below_drew1 | refine below_set ?_ GE473.out | refine below_set ?_ GE491.out) | exact HB.out)⟩⟩
                    ·rw [if_neg c33] at H
                     have c33b0 : (((rd_T89 l0_0 x6_1).f0) == 5) = false := beq_eq_false_iff_ne.mpr c33
                     have c33b1 : (((rd_T89 l0_0 x6_1).f0) != 5) = true := bne_iff_ne.mpr c33
                     have H' := Aside0.mk H
                     clear H
                     have hnb36 := NB473_491.out
                     have hnc36 := NB491_473.out
                     have hcz37_0 : wc.cell? ⟨gb473, 0, none⟩ = some (.slice (some ad490) l0_0.length c0_0) := (blk_cell BK473.out 0).trans rfl
                     have hfz37_0 := blk_frozen BK473.out 0
                     have p498 : 0 ≤ (x6_1 : Int) := of_decide_eq_true (by first | (with_reducible assumption) | assumption)
                     have q498 : x6_1 < (l0_0.length : Int) := of_decide_eq_true (by first | (with_reducible assumption) | assumption)
                     obtain ⟨ad498, e498, hx498_0, hx498_1, hx498_2, hx498_3⟩ := at_T89 HR0_0.out x6_1 p498 q498
                     obtain rfl : ad490 = ad498 := (by injection e498)
                     replace hx498_0 := (HB.out.cell (World.block_lt_of_cell? w _ hx498_0)).trans hx498_0
                     replace hx498_1 := (HB.out.cell (World.block_lt_of_cell? w _ hx498_1)).trans hx498_1
                     replace hx498_2 := (HB.out.cell (World.block_lt_of_cell? w _ hx498_2)).trans hx498_2
                     replace hx498_3 := (HB.out.cell (World.block_lt_of_cell? w _ hx498_3)).trans hx498_3
                     replace p498 := eq_true p498
                     replace q498 := eq_true q498
                     go_wp2
                     go_meet
                     case rel => exact ⟨_, (false), (by first | rfl | (simp; done) | (simp [*]; done)), H', ⟨by have := HK1.out; have := HK2.out; have := HJ19.out; first | omega | exact Nat.le_refl _⟩, ⟨by (with_reducible repeat (first | apply Kd.S_alloc | apply Kd.S_drewN | apply Kd.S_drew)); exact HO_3.out⟩, ⟨by (with_reducible repeat (first | apply Kd.R_alloc | apply Kd.R_drewN | apply Kd.R_drew)); exact HO_5.out⟩, ⟨by (with_reducible repeat (first | refine blk_drewN ?_ _ | refine blk_drew ?_ | refine blk_alloc ?_ _)); exact BK473.out⟩, ⟨by (with_reducible repeat (first | refine blk_drewN ?_ _ | refine blk_drew ?_ | refine blk_alloc ?_ _)); exact BK491.out⟩, ⟨by repeat (first | (with_reducible exact HR492_0.out) | (with_reducible refine Kd.C_alloc ?_ _) | (with_reducible refine Kd.C_drewN ?_ _) | (with_reducible refine Kd.C_drew ?_) | exact HR492_0.out)⟩, ⟨by repeat (first | (with_reducible first | exact HB.out | apply below_alloc | apply pw_below_drewN | apply below_drew1 | refine below_set ?_ GE473.out | refine below_set ?_ GE491.out) | exact HB.out)⟩⟩
                   ·rw [if_neg c32] at H
                    exact absurd H (by simp)
                  ·rw [if_neg c31] at H
                   exact absurd H (by simp)
                 case rest =>
                  clear HC30
                  try clear c1
                  try clear c2
                  try clear p2
                  try clear c3
                  try clear c4
                  try clear p4
                  try clear q4
                  try clear hx4
                  try clear c5
                  try clear p6
                  try clear c11
                  try clear c11b0
                  try clear c13
                  try clear c13b0
                  try clear c14
                  try clear c14b0
                  try clear c15
                  try clear c15b0
                  try clear c16
                  try clear c16b0
                  try clear c17
                  try clear c17b0
                  try clear c18
                  try clear c18b0
                  try clear c19
                  try clear c19b0
                  try clear c29
                  try clear c29b0
                  try clear c31
                  try clear c31b0
                  try clear c32
                  try clear c32b0
                  try clear c33
                  try clear c33b0
                  try clear c33b1
                  try clear c34
                  try clear c36
                  try clear hcz35_0
                  try clear hcz37_0
                  try clear hcz7_0
                  try clear hfz35_0
                  try clear hfz37_0
                  try clear hfz7_0
                  try clear hx482_0
                  try clear hx488_0
                  try clear hx489_0
                  try clear hx490_0
                  try clear hx490_1
                  try clear hx490_2
                  try clear hx490_3
                  try clear hx492_0
                  try clear hx493_0
                  try clear hx494_0
                  try clear hx495_0
                  try clear hx496_0
                  try clear hx497_0
                  try clear hx498_0
                  try clear hx498_1
                  try clear hx498_2
                  try clear hx498_3
                  try clear p2
                  try clear p4
                  try clear p482
                  try clear p488
                  try clear p489
                  try clear p490
                  try clear p492
                  try clear p493
                  try clear p494
                  try clear p495
                  try clear p496
                  try clear p497
                  try clear p498
                  try clear p6
                  try clear q4
                  try clear q482
                  try clear q488
                  try clear q489
                  try clear q490
                  try clear q492
                  try clear q493
                  try clear q494
                  try clear q495
                  try clear q496
                  try clear q497
                  try clear q498
                  obtain ⟨kq, x85_29, rfl, HA, HJ29, HO_3, HO_5, BK473, BK491, HR492_0, HB⟩ := hcut
                  cases kq with
                  | zero => exact absurd HA.out (by simp [spec_ValidValue.j3])
                  | succ kj29 =>
                   have H := HA.out
                   clear HA
                   simp only [spec_ValidValue.j3] at H
                   by_cases c38 : x85_29 = true
                   ·subst c38
                    have H1 : (if ((rd_T89 l0_0 (rd (rd_L8 t475 x6_1) x9_2)).f0) = 3 then (if x9_2 > 0 then (if ((Op.bytesLess x8_2.toList ((rd_T89 l0_0 (rd (rd_L8 t475 x6_1) x9_2)).f2).toList) = true) then (spec_ValidValue.l1 kj29 t475 x5_1 x6_1 x7_19 ((rd_T89 l0_0 (rd (rd_L8 t475 x6_1) x9_2)).f2) (wrap64 (x9_2 + 1)) l0_0) else (some false)) else (spec_ValidValue.l1 kj29 t475 x5_1 x6_1 x7_19 ((rd_T89 l0_0 (rd (rd_L8 t475 x6_1) x9_2)).f2) (wrap64 (x9_2 + 1)) l0_0)) else (some false)) = some r := by rw [if_pos rfl] at H; exact H
                    clear H
                    have H := H1
                    clear H1
                    by_cases c39 : ((rd_T89 l0_0 (rd (rd_L8 t475 x6_1) x9_2)).f0) = 3
                    ·rw [if_pos c39] at H
                     have c39b0 : (((rd_T89 l0_0 (rd (rd_L8 t475 x6_1) x9_2)).f0) == 3) = true := beq_iff_eq.mpr c39
                     have c39b1 : (((rd_T89 l0_0 (rd (rd_L8 t475 x6_1) x9_2)).f0) != 3) = false := bne_eq_false_iff_eq.mpr c39
                     clear c39
                     by_cases c40 : x9_2 > 0
                     ·rw [if_pos c40] at H
                      have c40b0 : decide (0 < x9_2) = true := decide_eq_true c40
                      clear c40
                      by_cases c41 : ((Op.bytesLess x8_2.toList ((rd_T89 l0_0 (rd (rd_L8 t475 x6_1) x9_2)).f2).toList) = true)
                      ·rw [if_pos c41] at H
                       have c41b0 : (Op.bytesLess x8_2.toList ((rd_T89 l0_0 (rd (rd_L8 t475 x6_1) x9_2)).f2).toList) = true := c41
                       clear c41
                       have H' := Aside0.mk H
                       clear H
                       have hnb42 := NB491_473.out
                       have hnc42 := NB473_491.out
                       have hcz43_0 : wc.cell? ⟨gb491, 0, none⟩ = some (.int .i64 ((rd_T89 l0_0 (rd (rd_L8 t475 x6_1) x9_2)).f0)) := (blk_cell BK491.out 0).trans rfl
                       have hcz43_1 : wc.cell? ⟨gb491, 1, none⟩ = some (.int .i64 ((rd_T89 l0_0 (rd (rd_L8 t475 x6_1) x9_2)).f1)) := (blk_cell BK491.out 1).trans rfl
                       have hcz43_2 : wc.cell? ⟨gb491, 2, none⟩ = some (.string ((rd_T89 l0_0 (rd (rd_L8 t475 x6_1) x9_2)).f2)) := (blk_cell BK491.out 2).trans rfl
                       have hcz43_3 : wc.cell? ⟨gb491, 3, none⟩ = some (.int .i64 ((rd_T89 l0_0 (rd (rd_L8 t475 x6_1) x9_2)).f3)) := (blk_cell BK491.out 3).trans rfl
                       have hfz43_0 := blk_frozen BK491.out 0
                       have hfz43_1 := blk_frozen BK491.out 1
                       have hfz43_2 := blk_frozen BK491.out 2
                       have hfz43_3 := blk_frozen BK491.out 3
                       go_wp2
                       go_roundg kj29
                       case measure => have := HK1.out; have := HK2.out; have := HJ19.out; have := HJ29.out; omega
                       case rel => exact ⟨(x7_19), (((rd_T89 l0_0 (rd (rd_L8 t475 x6_1) x9_2)).f2)), (wrap64 (x9_2 + 1)), (by first | rfl | (simp; done) | (simp [*]; done)), (by first | rfl | (simp; done) | (simp [*]; done)), (by first | rfl | (simp; done) | (simp [*]; done)), H', ⟨by have := HK1.out; have := HK2.out; have := HJ19.out; have := HJ29.out; omega⟩, ⟨by (with_reducible repeat (first | apply Kd.S_alloc | apply Kd.S_drewN | apply Kd.S_drew)); exact HO_3.out⟩, ⟨by (with_reducible repeat (first | apply Kd.R_alloc | apply Kd.R_drewN | apply Kd.R_drew)); exact HO_5.out⟩, ⟨by (with_reducible repeat (first | refine blk_drewN ?_ _ | refine blk_drew ?_ | refine blk_alloc ?_ _)); exact BK473.out⟩, ⟨by repeat (first | (with_reducible first | exact HB.out | apply below_alloc | apply pw_below_drewN | apply below_drew1 | refine below_set ?_ GE473.out | refine below_set ?_ GE491.out) | exact HB.out)⟩⟩
                      ·rw [if_neg c41] at H
                       have c41b0 : (Op.bytesLess x8_2.toList ((rd_T89 l0_0 (rd (rd_L8 t475 x6_1) x9_2)).f2).toList) = false := by simpa using c41
                       clear c41
                       obtain rfl := Option.some.inj H
                       have hnb44 := NB491_473.out
                       have hnc44 := NB473_491.out
                       have hcz45_0 : wc.cell? ⟨gb491, 0, none⟩ = some (.int .i64 ((rd_T89 l0_0 (rd (rd_L8 t475 x6_1) x9_2)).f0)) := (blk_cell BK491.out 0).trans rfl
                       have hcz45_1 : wc.cell? ⟨gb491, 1, none⟩ = some (.int .i64 ((rd_T89 l0_0 (rd (rd_L8 t475 x6_1) x9_2)).f1)) := (blk_cell BK491.out 1).trans rfl
                       have hcz45_2 : wc.cell? ⟨gb491, 2, none⟩ = some (.string ((rd_T89 l0_0 (rd (rd_L8 t475 x6_1) x9_2)).f2)) := (blk_cell BK491.out 2).trans rfl
                       have hcz45_3 : wc.cell? ⟨gb491, 3, none⟩ = some (.int .i64 ((rd_T89 l0_0 (rd (rd_L8 t475 x6_1) x9_2)).f3)) := (blk_cell BK491.out 3).trans rfl
                       have hfz45_0 := blk_frozen BK491.out 0
                       have hfz45_1 := blk_frozen BK491.out 1
                       have hfz45_2 := blk_frozen BK491.out 2
                       have hfz45_3 := blk_frozen BK491.out 3
                       go_wp2
                       go_ret
                       exact ⟨by first | rfl | (simp [errW_none, errW_some] <;> rfl) | (simp [*, errW_none, errW_some] <;> rfl), by repeat (first | (with_reducible first | exact HB.out | apply below_alloc | apply pw_below_drewN | apply below_drew1 | refine below_set ?_ GE473.out | refine below_set ?_ GE491.out) | exact HB.out)⟩
                     ·rw [if_neg c40] at H
                      have c40b0 : decide (0 < x9_2) = false := decide_eq_false c40
                      clear c40
                      have H' := Aside0.mk H
                      clear H
                      have hnb46 := NB491_473.out
                      have hnc46 := NB473_491.out
                      have hcz47_0 : wc.cell? ⟨gb491, 0, none⟩ = some (.int .i64 ((rd_T89 l0_0 (rd (rd_L8 t475 x6_1) x9_2)).f0)) := (blk_cell BK491.out 0).trans rfl
                      have hcz47_1 : wc.cell? ⟨gb491, 1, none⟩ = some (.int .i64 ((rd_T89 l0_0 (rd (rd_L8 t475 x6_1) x9_2)).f1)) := (blk_cell BK491.out 1).trans rfl
                      have hcz47_2 : wc.cell? ⟨gb491, 2, none⟩ = some (.string ((rd_T89 l0_0 (rd (rd_L8 t475 x6_1) x9_2)).f2)) := (blk_cell BK491.out 2).trans rfl
                      have hcz47_3 : wc.cell? ⟨gb491, 3, none⟩ = some (.int .i64 ((rd_T89 l0_0 (rd (rd_L8 t475 x6_1) x9_2)).f3)) := (blk_cell BK491.out 3).trans rfl
                      have hfz47_0 := blk_frozen BK491.out 0
                      have hfz47_1 := blk_frozen BK491.out 1
                      have hfz47_2 := blk_frozen BK491.out 2
                      have hfz47_3 := blk_frozen BK491.out 3
                      go_wp2
                      go_roundg kj29
                      case measure => have := HK1.out; have := HK2.out; have := HJ19.out; have := HJ29.out; omega
                      case rel => exact ⟨(x7_19), (((rd_T89 l0_0 (rd (rd_L8 t475 x6_1) x9_2)).f2)), (wrap64 (x9_2 + 1)), (by first | rfl | (simp; done) | (simp [*]; done)), (by first | rfl | (simp; done) | (simp [*]; done)), (by first | rfl | (simp; done) | (simp [*]; done)), H', ⟨by have := HK1.out; have := HK2.out; have := HJ19.out; have := HJ29.out; omega⟩, ⟨by (with_reducible repeat (first | apply Kd.S_alloc | apply Kd.S_drewN | apply Kd.S_drew)); exact HO_3.out⟩, ⟨by (with_reducible repeat (first | apply Kd.R_alloc | apply Kd.R_drewN | apply Kd.R_drew)); exact HO_5.out⟩, ⟨by (with_reducible repeat (first | refine blk_drewN ?_ _ | refine blk_drew ?_ | refine blk_alloc ?_ _)); exact BK473.out⟩, ⟨by repeat (first | (with_reducible first | exact HB.out | apply below_alloc | apply pw_below_drewN | apply below_drew1 | refine below_set ?_ GE473.out | refine below_set ?_ GE491.out) | exact HB.out)⟩⟩
                    ·rw [if_neg c39] at H
                     have c39b0 : (((rd_T89 l0_0 (rd (rd_L8 t475 x6_1) x9_2)).f0) == 3) = false := beq_eq_false_iff_ne.mpr c39
                     have c39b1 : (((rd_T89 l0_0 (rd (rd_L8 t475 x6_1) x9_2)).f0) != 3) = true := bne_iff_ne.mpr c39
                     obtain rfl := Option.some.inj H
                     have hnb48 := NB491_473.out
                     have hnc48 := NB473_491.out
                     have hcz49_0 : wc.cell? ⟨gb491, 0, none⟩ = some (.int .i64 ((rd_T89 l0_0 (rd (rd_L8 t475 x6_1) x9_2)).f0)) := (blk_cell BK491.out 0).trans rfl
                     have hcz49_1 : wc.cell? ⟨gb491, 1, none⟩ = some (.int .i64 ((rd_T89 l0_0 (rd (rd_L8 t475 x6_1) x9_2)).f1)) := (blk_cell BK491.out 1).trans rfl
                     have hcz49_2 : wc.cell? ⟨gb491, 2, none⟩ = some (.string ((rd_T89 l0_0 (rd (rd_L8 t475 x6_1) x9_2)).f2)) := (blk_cell BK491.out 2).trans rfl
                     have hcz49_3 : wc.cell? ⟨gb491, 3, none⟩ = some (.int .i64 ((rd_T89 l0_0 (rd (rd_L8 t475 x6_1) x9_2)).f3)) := (blk_cell BK491.out 3).trans rfl
                     have hfz49_0 := blk_frozen BK491.out 0
                     have hfz49_1 := blk_frozen BK491.out 1
                     have hfz49_2 := blk_frozen BK491.out 2
                     have hfz49_3 := blk_frozen BK491.out 3
                     go_wp2
                     go_ret
                     exact ⟨by first | rfl | (simp [errW_none, errW_some] <;> rfl) | (simp [*, errW_none, errW_some] <;> rfl), by repeat (first | (with_reducible first | exact HB.out | apply below_alloc | apply pw_below_drewN | apply below_drew1 | refine below_set ?_ GE473.out | refine below_set ?_ GE491.out) | exact HB.out)⟩
                   ·replace c38 := Bool.eq_false_iff.mpr c38
                    subst c38
                    have H1 : (spec_ValidValue.l1 kj29 t475 x5_1 x6_1 x7_19 x8_2 (wrap64 (x9_2 + 1)) l0_0) = some r := by rw [if_neg (show ¬ (false = true) by decide)] at H; exact H
                    clear H
                    have H := H1
                    clear H1
                    have H' := Aside0.mk H
                    clear H
                    go_wp2
                    go_roundg kj29
                    case measure => have := HK1.out; have := HK2.out; have := HJ19.out; have := HJ29.out; omega
                    case rel => exact ⟨(x7_19), (x8_2), (wrap64 (x9_2 + 1)), (by first | rfl | (simp; done) | (simp [*]; done)), (by first | rfl | (simp; done) | (simp [*]; done)), (by first | rfl | (simp; done) | (simp [*]; done)), H', ⟨by have := HK1.out; have := HK2.out; have := HJ19.out; have := HJ29.out; omega⟩, ⟨by (with_reducible repeat (first | apply Kd.S_alloc | apply Kd.S_drewN | apply Kd.S_drew)); exact HO_3.out⟩, ⟨by (with_reducible repeat (first | apply Kd.R_alloc | apply Kd.R_drewN | apply Kd.R_drew)); exact HO_5.out⟩, ⟨by (with_reducible repeat (first | refine blk_drewN ?_ _ | refine blk_drew ?_ | refine blk_alloc ?_ _)); exact BK473.out⟩, ⟨by repeat (first | (with_reducible first | exact HB.out | apply below_alloc | apply pw_below_drewN | apply below_drew1 | refine below_set ?_ GE473.out | refine below_set ?_ GE491.out) | exact HB.out)⟩⟩
              ·rw [if_neg c19] at H
               exact absurd H (by simp)
             ·rw [if_neg c18] at H
              exact absurd H (by simp)
            ·rw [if_neg c17] at H
             exact absurd H (by simp)
           ·rw [if_neg c16] at H
            exact absurd H (by simp)
          ·rw [if_neg c15] at H
           have c15b0 : decide (x9_2 < ((rd_L8 t475 x6_1).length : Int)) = false := decide_eq_false c15
           clear c15
           by_cases c50 : x5_1.length < 17592186044416
           ·rw [if_pos c50] at H
            have LMc50 := Aside0.mk c50
            clear c50
            obtain ⟨y483, hy483⟩ : ∃ y_ : List Int, y_ = (x5_1 ++ [x7_2]) := ⟨_, rfl⟩
            replace H : (if x7_2 > 12 then (some false) else (if x6_1 < (l0_0.length : Int) then ((spec_l2AtomOk.f k2 ((rd_T89 l0_0 x6_1).f0) ((rd_T89 l0_0 x6_1).f1) ((rd_T89 l0_0 x6_1).f2) ((rd_T89 l0_0 x6_1).f3)).bind fun t487 => (if t487 = true then (spec_ValidValue.l0 k2 t475 y483 (wrap64 (x6_1 + 1)) l0_0) else (some false))) else (none))) = some r := by first | (rw [hy483]; with_reducible exact H) | (have H2_ := (Option.bind_some _ _).symm.trans H; rw [hy483]; with_reducible exact H2_) | (have H2_ := (Option.bind_some _ _).symm.trans H; with_reducible exact H2_) | with_reducible exact H | (rw [hy483]; exact H) | exact H
            have Ny483 := Aside0.mk hy483
            clear hy483
            by_cases c51 : x7_2 > 12
            ·rw [if_pos c51] at H
             have c51b0 : decide (12 < x7_2) = true := decide_eq_true c51
             clear c51
             obtain rfl := Option.some.inj H
             have p482 : 0 ≤ (x6_1 : Int) := of_decide_eq_true (by first | (with_reducible assumption) | assumption)
             have q482 : x6_1 < (t475.length : Int) := of_decide_eq_true (by first | (with_reducible assumption) | assumption)
             obtain ⟨ad482, A482_0, c482_0, e482, hx482_0, hl482_0, hi482_0⟩ := at_L8 (Kd.S_reads' HO_3.out).2.2 x6_1 p482 q482
             cases e482
             obtain ⟨ce482, hce482, hMe482, hcc482⟩ := Kd.S_get HO_3.out [] x6_1 p482 (by first | exact q482 | exact of_decide_eq_true (by first | (with_reducible assumption) | assumption) | (have e_ := (Kd.S_reads' HO_3.out).1; omega))
             obtain ⟨ve482_0, rfl, ge482_0⟩ := hMe482
             have hv482_0 := hcc482 0 _ rfl
             rw [Nat.add_zero, show ((Kd.slice 3 (Kd.int .i64))).sz = 1 from rfl, Nat.mul_one] at hv482_0
             replace hv482_0 := Option.some.inj (hv482_0.symm.trans hx482_0)
             rw [hv482_0] at ge482_0
             have HL482_0 := Aside0.mk (show Kd.R (Kd.int .i64) 3 _ _ _ _ (rd_L8 t475 x6_1) from ge482_0)
             clear hv482_0 ge482_0
             clear hcc482 hce482
             have HR482_0 := Aside0.mk hi482_0
             have HC482_0 := Aside0.mk hl482_0
             clear hi482_0 hl482_0
             replace p482 := eq_true p482
             replace q482 := eq_true q482
             go_wp2_with (first | ((with_reducible refine gate_builtin (b := .append) (xs := #[.tmp 101, .tmp 103]) rfl ?_); at_builtin; refine Kd.R_append (Kd.int .i64) (w0 := w) w.heap.size rfl (.tmp 101) (.tmp 103) 70 3 (.int .i64 0) 8 rfl Try.underlying70 info3 rfl (by decide) (by omega) u5 x5_1 x7_2 [.int .i64 x7_2] (fun _ => True) (fun _ => False) rfl rfl ?aP (fun _ hk => hk.elim) ?aF ?aO ?aB ?aS ?aL ?_; (case aP => exact rfl); (case aB => exact (by repeat (first | (with_reducible first | exact HB.out | apply below_alloc | apply pw_below_drewN | apply below_drew1 | refine below_set ?_ GE473.out) | exact HB.out))); (case aF => exact (fun _ _ => trivial)); (case aO => exact (by (with_reducible repeat (first | apply Kd.R_alloc | apply Kd.R_drewN | apply Kd.R_drew)); exact HO_5.out)); (case aS => exact (below_size (by repeat (first | (with_reducible first | exact HB.out | apply below_alloc | apply pw_below_drewN | apply below_drew1 | refine below_set ?_ GE473.out) | exact HB.out)))); (case aL => have := LMc50.out; omega); intro v484 w52 ho hb hg hat; rw [← Ny483.out] at ho; have n0_ := Aside0.mk (Kd.S_after (ok := (fun _ => True)) (by (with_reducible repeat (first | apply Kd.S_alloc | apply Kd.S_drewN | apply Kd.S_drew)); exact Kd.S_mono HO_3.out (fun _ hk => ⟨trivial, (by first | exact hk | exact fun e_ => hk (e_.trans (own_len _ _ _ _ _)))⟩)) hg hat); have n1_ := Aside0.mk (blk_grown (g := gb473) (o := .cells #[.slice A0_0 l0_0.length c0_0] 60 (0, 0)) (by (with_reducible repeat (first | refine blk_drewN ?_ _ | refine blk_drew ?_ | refine blk_alloc ?_ _)); exact BK473.out) hg (Kd.R_ne HO_5.out BK473.out (by decide))); have n2_ := Aside0.mk (Kd.R_after (ok := (fun k_ => some k_ ≠ (.slice (some ad482) t475.length co12 : Value).ownBlock)) (by (with_reducible repeat (first | apply Kd.R_alloc | apply Kd.R_drewN | apply Kd.R_drew)); exact Kd.R_mono HL482_0.out (fun _ hk => ⟨hk.2, hk.1⟩)) hg hat); have n3_ := Aside0.mk (hb); have n4_ := Aside0.mk (ho); clear HO_3; clear BK473; clear HL482_0; clear HB; clear HO_5; have HO_3 := n0_; have BK473 := n1_; have HL482_0 := n2_; have HB := n3_; have HO485 := n4_; clear n0_ n1_ n2_ n3_ n4_; clear ho hb hg hat))
             go_ret
             exact ⟨by first | rfl | (simp [errW_none, errW_some] <;> rfl) | (simp [*, errW_none, errW_some] <;> rfl), by repeat (first | (with_reducible first | exact HB.out | apply below_alloc | apply pw_below_drewN | apply below_drew1 | refine below_set ?_ GE473.out) | exact HB.out)⟩
            ·rw [if_neg c51] at H
             have c51b0 : decide (12 < x7_2) = false := decide_eq_false c51
             clear c51
             by_cases c53 : x6_1 < (l0_0.length : Int)
             ·rw [if_pos c53] at H
              have c53b0 : decide (x6_1 < (l0_0.length : Int)) = true := decide_eq_true c53
              clear c53
              replace H := Option.bind_eq_some_iff.mp H
              obtain ⟨t487, A540, H⟩ := H
              replace H : (if t487 = true then (spec_ValidValue.l0 k2 t475 y483 (wrap64 (x6_1 + 1)) l0_0) else (some false)) = some r := H
              have A54 := Aside0.mk A540
              clear A540
              by_cases c55 : t487 = true
              ·subst c55
               have H1 : (spec_ValidValue.l0 k2 t475 y483 (wrap64 (x6_1 + 1)) l0_0) = some r := by rw [if_pos rfl] at H; exact H
               clear H
               have H := H1
               clear H1
               have H' := Aside0.mk H
               clear H
               have p482 : 0 ≤ (x6_1 : Int) := of_decide_eq_true (by first | (with_reducible assumption) | assumption)
               have q482 : x6_1 < (t475.length : Int) := of_decide_eq_true (by first | (with_reducible assumption) | assumption)
               obtain ⟨ad482, A482_0, c482_0, e482, hx482_0, hl482_0, hi482_0⟩ := at_L8 (Kd.S_reads' HO_3.out).2.2 x6_1 p482 q482
               cases e482
               obtain ⟨ce482, hce482, hMe482, hcc482⟩ := Kd.S_get HO_3.out [] x6_1 p482 (by first | exact q482 | exact of_decide_eq_true (by first | (with_reducible assumption) | assumption) | (have e_ := (Kd.S_reads' HO_3.out).1; omega))
               obtain ⟨ve482_0, rfl, ge482_0⟩ := hMe482
               have hv482_0 := hcc482 0 _ rfl
               rw [Nat.add_zero, show ((Kd.slice 3 (Kd.int .i64))).sz = 1 from rfl, Nat.mul_one] at hv482_0
               replace hv482_0 := Option.some.inj (hv482_0.symm.trans hx482_0)
               rw [hv482_0] at ge482_0
               have HL482_0 := Aside0.mk (show Kd.R (Kd.int .i64) 3 _ _ _ _ (rd_L8 t475 x6_1) from ge482_0)
               clear hv482_0 ge482_0
               clear hcc482 hce482
               have HR482_0 := Aside0.mk hi482_0
               have HC482_0 := Aside0.mk hl482_0
               clear hi482_0 hl482_0
               replace p482 := eq_true p482
               replace q482 := eq_true q482
               go_wp2_with (first | ((with_reducible refine gate_builtin (b := .append) (xs := #[.tmp 101, .tmp 103]) rfl ?_); at_builtin; refine Kd.R_append (Kd.int .i64) (w0 := w) w.heap.size rfl (.tmp 101) (.tmp 103) 70 3 (.int .i64 0) 8 rfl Try.underlying70 info3 rfl (by decide) (by omega) u5 x5_1 x7_2 [.int .i64 x7_2] (fun _ => True) (fun _ => False) rfl rfl ?aP (fun _ hk => hk.elim) ?aF ?aO ?aB ?aS ?aL ?_; (case aP => exact rfl); (case aB => exact (by repeat (first | (with_reducible first | exact HB.out | apply below_alloc | apply pw_below_drewN | apply below_drew1 | refine below_set ?_ GE473.out) | exact HB.out))); (case aF => exact (fun _ _ => trivial)); (case aO => exact (by (with_reducible repeat (first | apply Kd.R_alloc | apply Kd.R_drewN | apply Kd.R_drew)); exact HO_5.out)); (case aS => exact (below_size (by repeat (first | (with_reducible first | exact HB.out | apply below_alloc | apply pw_below_drewN | apply below_drew1 | refine below_set ?_ GE473.out) | exact HB.out)))); (case aL => have := LMc50.out; omega); intro v484 w56 ho hb hg hat; rw [← Ny483.out] at ho; have n0_ := Aside0.mk (Kd.S_after (ok := (fun _ => True)) (by (with_reducible repeat (first | apply Kd.S_alloc | apply Kd.S_drewN | apply Kd.S_drew)); exact Kd.S_mono HO_3.out (fun _ hk => ⟨trivial, (by first | exact hk | exact fun e_ => hk (e_.trans (own_len _ _ _ _ _)))⟩)) hg hat); have n1_ := Aside0.mk (blk_grown (g := gb473) (o := .cells #[.slice A0_0 l0_0.length c0_0] 60 (0, 0)) (by (with_reducible repeat (first | refine blk_drewN ?_ _ | refine blk_drew ?_ | refine blk_alloc ?_ _)); exact BK473.out) hg (Kd.R_ne HO_5.out BK473.out (by decide))); have n2_ := Aside0.mk (Kd.R_after (ok := (fun k_ => some k_ ≠ (.slice (some ad482) t475.length co12 : Value).ownBlock)) (by (with_reducible repeat (first | apply Kd.R_alloc | apply Kd.R_drewN | apply Kd.R_drew)); exact Kd.R_mono HL482_0.out (fun _ hk => ⟨hk.2, hk.1⟩)) hg hat); have n3_ := Aside0.mk (hb); have n4_ := Aside0.mk (ho); clear HO_3; clear BK473; clear HL482_0; clear HB; clear HO_5; have HO_3 := n0_; have BK473 := n1_; have HL482_0 := n2_; have HB := n3_; have HO485 := n4_; clear n0_ n1_ n2_ n3_ n4_; clear ho hb hg hat; have hcz57_0 : w56.cell? ⟨gb473, 0, none⟩ = some (.slice A0_0 l0_0.length c0_0) := (blk_cell BK473.out 0).trans rfl; have hfz57_0 := blk_frozen BK473.out 0; have p486 : 0 ≤ (x6_1 : Int) := of_decide_eq_true (by first | (with_reducible assumption) | assumption); have q486 : x6_1 < (l0_0.length : Int) := of_decide_eq_true (by first | (with_reducible assumption) | assumption); obtain ⟨ad486, e486, hx486_0, hx486_1, hx486_2, hx486_3⟩ := at_T89 HR0_0.out x6_1 p486 q486; cases e486; replace hx486_0 := (HB.out.cell (World.block_lt_of_cell? w _ hx486_0)).trans hx486_0; replace hx486_1 := (HB.out.cell (World.block_lt_of_cell? w _ hx486_1)).trans hx486_1; replace hx486_2 := (HB.out.cell (World.block_lt_of_cell? w _ hx486_2)).trans hx486_2; replace hx486_3 := (HB.out.cell (World.block_lt_of_cell? w _ hx486_3)).trans hx486_3; replace p486 := eq_true p486; replace q486 := eq_true q486) | (go_at_call 48; (with_reducible refine (spec_l2AtomOk.calls k2 ((rd_T89 l0_0 x6_1).f0) ((rd_T89 l0_0 x6_1).f1) ((rd_T89 l0_0 x6_1).f2) ((rd_T89 l0_0 x6_1).f3) true _ A54.out).mono ?_); rintro e w58 ⟨rfl, hb⟩; have n0_ := Aside0.mk (Kd.S_below (by (with_reducible repeat (first | apply Kd.S_alloc | apply Kd.S_drewN | apply Kd.S_drew)); exact HO_3.out) hb); have n1_ := Aside0.mk (Kd.R_below (by (with_reducible repeat (first | apply Kd.R_alloc | apply Kd.R_drewN | apply Kd.R_drew)); exact HL482_0.out) hb); have n2_ := Aside0.mk (Kd.R_below (by (with_reducible repeat (first | apply Kd.R_alloc | apply Kd.R_drewN | apply Kd.R_drew)); exact HO485.out) hb); have n3_ := Aside0.mk (blk_below (g := gb473) (o := .cells #[.slice (some ad486) l0_0.length c0_0] 60 (0, 0)) (by (with_reducible repeat (first | refine blk_drewN ?_ _ | refine blk_drew ?_ | refine blk_alloc ?_ _)); exact BK473.out) hb); have n4_ := Aside0.mk (below_step (by repeat (first | (with_reducible first | exact HB.out | apply below_alloc | apply pw_below_drewN | apply below_drew1 | refine below_set ?_ GE473.out) | exact HB.out)) hb); clear HO_3; clear HL482_0; clear HO485; clear BK473; clear HB; have HO_3 := n0_; have HL482_0 := n1_; have HO485 := n2_; have BK473 := n3_; have HB := n4_; clear n0_ n1_ n2_ n3_ n4_; (try clear hb); (try clear hb2); (try clear hk); (try clear hi)))
               go_roundg k2
               case measure => have := HK1.out; have := HK2.out; omega
               case rel => exact ⟨(y483), (wrap64 (x6_1 + 1)), (by first | rfl | (simp; done) | (simp [*]; done)), H', ⟨by have := HK1.out; have := HK2.out; omega⟩, ⟨by (with_reducible repeat (first | apply Kd.S_alloc | apply Kd.S_drewN | apply Kd.S_drew)); exact Kd.S_mono HO_3.out (fun _ hk => hk.2)⟩, ⟨by (with_reducible repeat (first | apply Kd.R_alloc | apply Kd.R_drewN | apply Kd.R_drew)); exact HO485.out⟩, ⟨by (with_reducible repeat (first | refine blk_drewN ?_ _ | refine blk_drew ?_ | refine blk_alloc ?_ _)); exact BK473.out⟩, ⟨by repeat (first | (with_reducible first | exact HB.out | apply below_alloc | apply pw_below_drewN | apply below_drew1 | refine below_set ?_ GE473.out) | exact HB.out)⟩⟩
              ·replace c55 := Bool.eq_false_iff.mpr c55
               subst c55
               have H1 : (some false) = some r := by rw [if_neg (show ¬ (false = true) by decide)] at H; exact H
               clear H
               have H := H1
               clear H1
               obtain rfl := Option.some.inj H
               have p482 : 0 ≤ (x6_1 : Int) := of_decide_eq_true (by first | (with_reducible assumption) | assumption)
               have q482 : x6_1 < (t475.length : Int) := of_decide_eq_true (by first | (with_reducible assumption) | assumption)
               obtain ⟨ad482, A482_0, c482_0, e482, hx482_0, hl482_0, hi482_0⟩ := at_L8 (Kd.S_reads' HO_3.out).2.2 x6_1 p482 q482
               cases e482
               obtain ⟨ce482, hce482, hMe482, hcc482⟩ := Kd.S_get HO_3.out [] x6_1 p482 (by first | exact q482 | exact of_decide_eq_true (by first | (with_reducible assumption) | assumption) | (have e_ := (Kd.S_reads' HO_3.out).1; omega))
               obtain ⟨ve482_0, rfl, ge482_0⟩ := hMe482
               have hv482_0 := hcc482 0 _ rfl
               rw [Nat.add_zero, show ((Kd.slice 3 (Kd.int .i64))).sz = 1 from rfl, Nat.mul_one] at hv482_0
               replace hv482_0 := Option.some.inj (hv482_0.symm.trans hx482_0)
               rw [hv482_0] at ge482_0
               have HL482_0 := Aside0.mk (show Kd.R (Kd.int .i64) 3 _ _ _ _ (rd_L8 t475 x6_1) from ge482_0)
               clear hv482_0 ge482_0
               clear hcc482 hce482
               have HR482_0 := Aside0.mk hi482_0
               have HC482_0 := Aside0.mk hl482_0
               clear hi482_0 hl482_0
               replace p482 := eq_true p482
               replace q482 := eq_true q482
               go_wp2_with (first | ((with_reducible refine gate_builtin (b := .append) (xs := #[.tmp 101, .tmp 103]) rfl ?_); at_builtin; refine Kd.R_append (Kd.int .i64) (w0 := w) w.heap.size rfl (.tmp 101) (.tmp 103) 70 3 (.int .i64 0) 8 rfl Try.underlying70 info3 rfl (by decide) (by omega) u5 x5_1 x7_2 [.int .i64 x7_2] (fun _ => True) (fun _ => False) rfl rfl ?aP (fun _ hk => hk.elim) ?aF ?aO ?aB ?aS ?aL ?_; (case aP => exact rfl); (case aB => exact (by repeat (first | (with_reducible first | exact HB.out | apply below_alloc | apply pw_below_drewN | apply below_drew1 | refine below_set ?_ GE473.out) | exact HB.out))); (case aF => exact (fun _ _ => trivial)); (case aO => exact (by (with_reducible repeat (first | apply Kd.R_alloc | apply Kd.R_drewN | apply Kd.R_drew)); exact HO_5.out)); (case aS => exact (below_size (by repeat (first | (with_reducible first | exact HB.out | apply below_alloc | apply pw_below_drewN | apply below_drew1 | refine below_set ?_ GE473.out) | exact HB.out)))); (case aL => have := LMc50.out; omega); intro v484 w59 ho hb hg hat; rw [← Ny483.out] at ho; have n0_ := Aside0.mk (Kd.S_after (ok := (fun _ => True)) (by (with_reducible repeat (first | apply Kd.S_alloc | apply Kd.S_drewN | apply Kd.S_drew)); exact Kd.S_mono HO_3.out (fun _ hk => ⟨trivial, (by first | exact hk | exact fun e_ => hk (e_.trans (own_len _ _ _ _ _)))⟩)) hg hat); have n1_ := Aside0.mk (blk_grown (g := gb473) (o := .cells #[.slice A0_0 l0_0.length c0_0] 60 (0, 0)) (by (with_reducible repeat (first | refine blk_drewN ?_ _ | refine blk_drew ?_ | refine blk_alloc ?_ _)); exact BK473.out) hg (Kd.R_ne HO_5.out BK473.out (by decide))); have n2_ := Aside0.mk (Kd.R_after (ok := (fun k_ => some k_ ≠ (.slice (some ad482) t475.length co12 : Value).ownBlock)) (by (with_reducible repeat (first | apply Kd.R_alloc | apply Kd.R_drewN | apply Kd.R_drew)); exact Kd.R_mono HL482_0.out (fun _ hk => ⟨hk.2, hk.1⟩)) hg hat); have n3_ := Aside0.mk (hb); have n4_ := Aside0.mk (ho); clear HO_3; clear BK473; clear HL482_0; clear HB; clear HO_5; have HO_3 := n0_; have BK473 := n1_; have HL482_0 := n2_; have HB := n3_; have HO485 := n4_; clear n0_ n1_ n2_ n3_ n4_; clear ho hb hg hat; have hcz60_0 : w59.cell? ⟨gb473, 0, none⟩ = some (.slice A0_0 l0_0.length c0_0) := (blk_cell BK473.out 0).trans rfl; have hfz60_0 := blk_frozen BK473.out 0; have p486 : 0 ≤ (x6_1 : Int) := of_decide_eq_true (by first | (with_reducible assumption) | assumption); have q486 : x6_1 < (l0_0.length : Int) := of_decide_eq_true (by first | (with_reducible assumption) | assumption); obtain ⟨ad486, e486, hx486_0, hx486_1, hx486_2, hx486_3⟩ := at_T89 HR0_0.out x6_1 p486 q486; cases e486; replace hx486_0 := (HB.out.cell (World.block_lt_of_cell? w _ hx486_0)).trans hx486_0; replace hx486_1 := (HB.out.cell (World.block_lt_of_cell? w _ hx486_1)).trans hx486_1; replace hx486_2 := (HB.out.cell (World.block_lt_of_cell? w _ hx486_2)).trans hx486_2; replace hx486_3 := (HB.out.cell (World.block_lt_of_cell? w _ hx486_3)).trans hx486_3; replace p486 := eq_true p486; replace q486 := eq_true q486) | (go_at_call 48; (with_reducible refine (spec_l2AtomOk.calls k2 ((rd_T89 l0_0 x6_1).f0) ((rd_T89 l0_0 x6_1).f1) ((rd_T89 l0_0 x6_1).f2) ((rd_T89 l0_0 x6_1).f3) false _ A54.out).mono ?_); rintro e w61 ⟨rfl, hb⟩; have n0_ := Aside0.mk (Kd.S_below (by (with_reducible repeat (first | apply Kd.S_alloc | apply Kd.S_drewN | apply Kd.S_drew)); exact HO_3.out) hb); have n1_ := Aside0.mk (Kd.R_below (by (with_reducible repeat (first | apply Kd.R_alloc | apply Kd.R_drewN | apply Kd.R_drew)); exact HL482_0.out) hb); have n2_ := Aside0.mk (Kd.R_below (by (with_reducible repeat (first | apply Kd.R_alloc | apply Kd.R_drewN | apply Kd.R_drew)); exact HO485.out) hb); have n3_ := Aside0.mk (blk_below (g := gb473) (o := .cells #[.slice (some ad486) l0_0.length c0_0] 60 (0, 0)) (by (with_reducible repeat (first | refine blk_drewN ?_ _ | refine blk_drew ?_ | refine blk_alloc ?_ _)); exact BK473.out) hb); have n4_ := Aside0.mk (below_step (by repeat (first | (with_reducible first | exact HB.out | apply below_alloc | apply pw_below_drewN | apply below_drew1 | refine below_set ?_ GE473.out) | exact HB.out)) hb); clear HO_3; clear HL482_0; clear HO485; clear BK473; clear HB; have HO_3 := n0_; have HL482_0 := n1_; have HO485 := n2_; have BK473 := n3_; have HB := n4_; clear n0_ n1_ n2_ n3_ n4_; (try clear hb); (try clear hb2); (try clear hk); (try clear hi)))
               go_ret
               exact ⟨by first | rfl | (simp [errW_none, errW_some] <;> rfl) | (simp [*, errW_none, errW_some] <;> rfl), by repeat (first | (with_reducible first | exact HB.out | apply below_alloc | apply pw_below_drewN | apply below_drew1 | refine below_set ?_ GE473.out) | exact HB.out)⟩
             ·rw [if_neg c53] at H
              exact absurd H (by simp)
           ·rw [if_neg c50] at H
            exact absurd H (by simp)
         ·rw [if_neg c14] at H
          exact absurd H (by simp)
        ·rw [if_neg c13] at H
         exact absurd H (by simp)
     ·rw [if_neg c11] at H
      have c11b0 : decide (x6_1 < (t475.length : Int)) = false := decide_eq_false c11
      clear c11
      obtain rfl := Option.some.inj H
      obtain ⟨Ao62, co62, eo62⟩ := Kd.S_slice HO_3.out
      subst eo62
      go_wp2
      go_ret
      exact ⟨by first | rfl | (simp [errW_none, errW_some] <;> rfl) | (simp [*, errW_none, errW_some] <;> rfl), by repeat (first | (with_reducible first | exact HB.out | apply below_alloc | apply pw_below_drewN | apply below_drew1 | refine below_set ?_ GE473.out) | exact HB.out)⟩
  ·replace c5 := Bool.eq_false_iff.mpr c5
   subst c5
   have H1 : (some false) = some r := by rw [if_neg (show ¬ (false = true) by decide)] at H; exact H
   clear H
   have H := H1
   clear H1
   obtain rfl := Option.some.inj H
   go_enter Try.func32, Try.ntmps32
   go_wp2_with (first | ((with_reducible refine gate_dst (N := 1) rfl ?_); refine box_event ?hg (N := 1) ?hd (cs := #[.slice A0_0 l0_0.length c0_0]) (t := 60) ?hr ?_; (case hd => rfl); (case hg => rfl); (case hr => first | (go_simp; done) | (go_simp; rfl)); intro gb473 hg w63 hbox hb; have n0_ := Aside0.mk (below_step (by repeat (first | (with_reducible first | exact HB.out | apply below_alloc | apply pw_below_drewN | apply below_drew1) | exact HB.out)) hb); have n1_ := Aside0.mk (hbox); have n2_ := Aside0.mk ((by rw [hg]; exact (below_size (by repeat (first | (with_reducible first | exact HB.out | apply below_alloc | apply pw_below_drewN | apply below_drew1) | exact HB.out))) : w.heap.size ≤ gb473)); have n3_ := Aside0.mk ((by rw [hg]; exact (below_size (by repeat (first | (with_reducible first | exact HB.out | apply below_alloc | apply pw_below_drewN | apply below_drew1) | exact HB.out))) : w.heap.size ≤ gb473)); clear HB; have HB := n0_; have BK473 := n1_; have GW473 := n2_; have GE473 := n3_; clear n0_ n1_ n2_ n3_; clear hb hbox hg; have hcz64_0 : w63.cell? ⟨gb473, 0, none⟩ = some (.slice A0_0 l0_0.length c0_0) := (blk_cell BK473.out 0).trans rfl; have hfz64_0 := blk_frozen BK473.out 0) | ((with_reducible refine gate_callee (f := 36) rfl ?_); refine goesL_ (some 14) rfl rfl Try.func36 (by kernel_rfl) rfl #[.int .i64 (l0_0.length : Int), .int .i64 1, .int .i64 300] rfl (by (try simp only [List.map_toArray, List.map_cons, List.map_nil]); first | done | rfl | (simp only [List.length_drop, List.length_take]; rfl)) ?_; (with_reducible refine (spec_l1In.calls (l0_0.length : Int) 1 300 true _ A2.out).mono ?_); rintro e w' ⟨rfl, ⟨nd, rfl⟩⟩; refine ⟨_, rfl, ?_⟩) | ((with_reducible refine gate_callee (f := 47) rfl ?_); refine goesL_ (some 18) rfl rfl Try.func47 (by kernel_rfl) rfl #[.agg #[.slice A0_0 l0_0.length c0_0]] rfl (by (try simp only [List.map_toArray, List.map_cons, List.map_nil]); first | done | rfl | (simp only [List.length_drop, List.length_take]; rfl)) ?_; (with_reducible refine (spec_l2Kids.calls k _ _ l0_0 t475 false _ ?side1 ?side2 A4.out).mono ?_); (case side1 => repeat (first | exact (Kd.C_below HR0_0.out (by repeat (first | (with_reducible first | exact HB.out | apply below_alloc | apply pw_below_drewN | apply below_drew1 | refine below_set ?_ GE473.out) | exact HB.out))) | (with_reducible refine Kd.C_alloc ?_ _) | (with_reducible refine Kd.C_drewN ?_ _) | (with_reducible refine Kd.C_drew ?_))); (case side2 => exact HC0_0.out); rintro e w65 ⟨v476, rfl, ho0, hb⟩; refine ⟨_, rfl, ?_⟩; have n0_ := Aside0.mk (Kd.S_lower ho0 (below_size (by repeat (first | (with_reducible first | exact HB.out | apply below_alloc | apply pw_below_drewN | apply below_drew1 | refine below_set ?_ GE473.out) | exact HB.out)))); have n1_ := Aside0.mk (blk_below (g := gb473) (o := .cells #[.slice A0_0 l0_0.length c0_0] 60 (0, 0)) (by (with_reducible repeat (first | refine blk_drewN ?_ _ | refine blk_drew ?_ | refine blk_alloc ?_ _)); exact BK473.out) hb); have n2_ := Aside0.mk (below_step (by repeat (first | (with_reducible first | exact HB.out | apply below_alloc | apply pw_below_drewN | apply below_drew1 | refine below_set ?_ GE473.out) | exact HB.out)) hb); clear BK473; clear HB; have HO477 := n0_; have BK473 := n1_; have HB := n2_; clear n0_ n1_ n2_; (try clear hb); (try clear hb2); (try clear hk); (try clear hi); (try clear ho0)))
   go_ret
   exact ⟨by first | rfl | (simp [errW_none, errW_some] <;> rfl) | (simp [*, errW_none, errW_some] <;> rfl), by repeat (first | (with_reducible first | exact HB.out | apply below_alloc | apply pw_below_drewN | apply below_drew1 | refine below_set ?_ GE473.out) | exact HB.out)⟩
 ·replace c3 := Bool.eq_false_iff.mpr c3
  subst c3
  have H1 : (some false) = some r := by rw [if_neg (show ¬ (false = true) by decide)] at H; exact H
  clear H
  have H := H1
  clear H1
  obtain rfl := Option.some.inj H
  go_enter Try.func32, Try.ntmps32
  go_wp2_with (first | ((with_reducible refine gate_dst (N := 1) rfl ?_); refine box_event ?hg (N := 1) ?hd (cs := #[.slice A0_0 l0_0.length c0_0]) (t := 60) ?hr ?_; (case hd => rfl); (case hg => rfl); (case hr => first | (go_simp; done) | (go_simp; rfl)); intro gb473 hg w66 hbox hb; have n0_ := Aside0.mk (below_step (by repeat (first | (with_reducible first | exact HB.out | apply below_alloc | apply pw_below_drewN | apply below_drew1) | exact HB.out)) hb); have n1_ := Aside0.mk (hbox); have n2_ := Aside0.mk ((by rw [hg]; exact (below_size (by repeat (first | (with_reducible first | exact HB.out | apply below_alloc | apply pw_below_drewN | apply below_drew1) | exact HB.out))) : w.heap.size ≤ gb473)); have n3_ := Aside0.mk ((by rw [hg]; exact (below_size (by repeat (first | (with_reducible first | exact HB.out | apply below_alloc | apply pw_below_drewN | apply below_drew1) | exact HB.out))) : w.heap.size ≤ gb473)); clear HB; have HB := n0_; have BK473 := n1_; have GW473 := n2_; have GE473 := n3_; clear n0_ n1_ n2_ n3_; clear hb hbox hg; have hcz67_0 : w66.cell? ⟨gb473, 0, none⟩ = some (.slice A0_0 l0_0.length c0_0) := (blk_cell BK473.out 0).trans rfl; have hfz67_0 := blk_frozen BK473.out 0) | ((with_reducible refine gate_callee (f := 36) rfl ?_); refine goesL_ (some 14) rfl rfl Try.func36 (by kernel_rfl) rfl #[.int .i64 (l0_0.length : Int), .int .i64 1, .int .i64 300] rfl (by (try simp only [List.map_toArray, List.map_cons, List.map_nil]); first | done | rfl | (simp only [List.length_drop, List.length_take]; rfl)) ?_; (with_reducible refine (spec_l1In.calls (l0_0.length : Int) 1 300 false _ A2.out).mono ?_); rintro e w' ⟨rfl, ⟨nd, rfl⟩⟩; refine ⟨_, rfl, ?_⟩))
  go_ret
  exact ⟨by first | rfl | (simp [errW_none, errW_some] <;> rfl) | (simp [*, errW_none, errW_some] <;> rfl), by repeat (first | (with_reducible first | exact HB.out | apply below_alloc | apply pw_below_drewN | apply below_drew1 | refine below_set ?_ GE473.out) | exact HB.out)⟩

end Go.Proofs.Ytgaibeckblmbbaa.P
