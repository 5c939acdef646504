-- Printed for this claim by a small program of this session (kprint.py), which drives the kit's print program.
import Derived.Test.YtnndpbkcldkbgaaP0
import Derived.Test.YtnndpbkcldkbgaaSqueeze
import Derived.Test.YtnndpbkcldkbgaaPSpecL7First
import Derived.Test.YtnndpbkcldkbgaaPSpecL7Table
namespace Go.Proofs.Ytnndpbkcldkbgaa.P
open Go.RowKit Go.Proofs.YtnndpbkcldkbgaaW.PrintWords Go.Proofs.YtnndpbkcldkbgaaW.PrintLast Go.Proofs.YtnndpbkcldkbgaaW.PrintMore
attribute [local go_sem] max2_int min2_int max_two min_two max_three min_three max_four min_four
set_option linter.unusedVariables false
set_option linter.unusedSimpArgs false

/-! ### spec_Common: function 38 -/
mutual
def spec_Common.j0 : Nat → List ByteArray → List ByteArray → List (S69) → Bool → Option ((List (S69)))
 | 0, _, _, _, _ => none
 | k + 1, x0, x1, x5, x18 => if x18 = true then (some x5) else ((spec_l7Table.f k x0 x1).bind fun t1071 => (spec_Common.l0 k x0 x1 x5 t1071 0 0))
def spec_Common.l0 : Nat → List ByteArray → List ByteArray → List (S69) → List (List Int) → Int → Int → Option ((List (S69)))
 | 0, _, _, _, _, _, _ => none
 | k + 1, x0, x1, x5, x6, x7, x8 => if 0 ≤ x7 then (if x7 < (x6.length : Int) then (if 0 ≤ x8 then (if x8 < ((rd_L4 x6 x7).length : Int) then (if (rd (rd_L4 x6 x7) x8) > 0 then ((spec_l7First.f k x0 x1 x6 x7 x8).bind fun bt1076 => (if x5.length < 8796093022208 then (spec_Common.l0 k x0 x1 (x5 ++ [(⟨bt1076.1, bt1076.2⟩ : S69)]) x6 (wrap64 (bt1076.1 + 1)) (wrap64 (bt1076.2 + 1))) else (none))) else (some x5)) else (none)) else (none)) else (none)) else (none)
end
def spec_Common.f (k : Nat) (l0 : List ByteArray) (l1 : List ByteArray) : Option ((List (S69))) := (some (([] : List (S69)) : List (S69))).bind fun y1068 => (if (l0.length : Int) > 1500 then (spec_Common.j0 k l0 l1 y1068 true) else (spec_Common.j0 k l0 l1 y1068 (decide ((l1.length : Int) > 1500))))
theorem spec_Common.mono_l : ∀ k, (∀ y0 y1 y2 y3, LeO (spec_Common.j0 k y0 y1 y2 y3) (spec_Common.j0 (k + 1) y0 y1 y2 y3)) ∧ (∀ y0 y1 y2 y3 y4 y5, LeO (spec_Common.l0 k y0 y1 y2 y3 y4 y5) (spec_Common.l0 (k + 1) y0 y1 y2 y3 y4 y5))
 | 0 => ⟨fun _ _ _ _ r h => by simp [spec_Common.j0] at h, fun _ _ _ _ _ _ r h => by simp [spec_Common.l0] at h⟩
 | k + 1 => by
  obtain ⟨ih0, ih1⟩ := spec_Common.mono_l k
  refine ⟨?_, ?_⟩
  ·intro y0 y1 y2 y3
   unfold spec_Common.j0
   repeat' first
   | (with_reducible exact ih0 _ _ _ _)
   | (with_reducible exact ih1 _ _ _ _ _ _)
   | (with_reducible exact spec_l7First.mono _ _ _ _ _ _)
   | (with_reducible exact spec_l7Table.mono _ _ _)
   | (with_reducible exact LeO.refl _)
   | (with_reducible exact LeO.none _)
   | (with_reducible refine LeO.ite ?_ ?_)
   | (with_reducible refine LeO.bind ?_ (fun _ => ?_))
   | exact ih0 _ _ _ _
   | exact ih1 _ _ _ _ _ _
   | exact spec_l7First.mono _ _ _ _ _ _
   | exact spec_l7Table.mono _ _ _
   | exact LeO.none _
   | refine LeO.ite ?_ ?_
   | refine LeO.bind ?_ (fun _ => ?_)
  ·intro y0 y1 y2 y3 y4 y5
   unfold spec_Common.l0
   repeat' first
   | (with_reducible exact ih0 _ _ _ _)
   | (with_reducible exact ih1 _ _ _ _ _ _)
   | (with_reducible exact spec_l7First.mono _ _ _ _ _ _)
   | (with_reducible exact spec_l7Table.mono _ _ _)
   | (with_reducible exact LeO.refl _)
   | (with_reducible exact LeO.none _)
   | (with_reducible refine LeO.ite ?_ ?_)
   | (with_reducible refine LeO.bind ?_ (fun _ => ?_))
   | exact ih0 _ _ _ _
   | exact ih1 _ _ _ _ _ _
   | exact spec_l7First.mono _ _ _ _ _ _
   | exact spec_l7Table.mono _ _ _
   | exact LeO.none _
   | refine LeO.ite ?_ ?_
   | refine LeO.bind ?_ (fun _ => ?_)
theorem spec_Common.mono : ∀ a0 a1 k, LeO (spec_Common.f k a0 a1) (spec_Common.f (k + 1) a0 a1) := by
 intro a0 a1 k
 obtain ⟨ih0, ih1⟩ := spec_Common.mono_l k
 unfold spec_Common.f
 repeat' first
   | (with_reducible exact ih0 _ _ _ _)
   | (with_reducible exact ih1 _ _ _ _ _ _)
   | (with_reducible exact spec_l7First.mono _ _ _ _ _ _)
   | (with_reducible exact spec_l7Table.mono _ _ _)
   | (with_reducible exact LeO.refl _)
   | (with_reducible exact LeO.none _)
   | (with_reducible refine LeO.ite ?_ ?_)
   | (with_reducible refine LeO.bind ?_ (fun _ => ?_))
   | exact ih0 _ _ _ _
   | exact ih1 _ _ _ _ _ _
   | exact spec_l7First.mono _ _ _ _ _ _
   | exact spec_l7Table.mono _ _ _
   | exact LeO.none _
   | refine LeO.ite ?_ ?_
   | refine LeO.bind ?_ (fun _ => ?_)
set_option maxHeartbeats 8000000 in
set_option maxRecDepth 100000 in
theorem spec_Common.calls (k : Nat) (A0 : Option Addr) (c0 : Nat) (l0 : List ByteArray) (A1 : Option Addr) (c1 : Nat) (l1 : List ByteArray) (r : List (S69)) (w : World) (hr0 : Kd.C Kd.string w A0 l0.length l0) (hc0 : l0.length ≤ c0) (hr1 : Kd.C Kd.string w A1 l1.length l1) (hc1 : l1.length ≤ c1) (h : spec_Common.f k l0 l1 = some r) :
  Calls Try.prog 38 #[.slice A0 l0.length c0, .slice A1 l1.length c1] w fun e w' => ∃ v0_ : Value, e = .returned (v0_) ∧ Kd.R k69 69 w' w.heap.size (fun _ => True) v0_ r ∧ Below w.heap.size w w' := by
 have hu69 := Try.underlying69
 have HR0 := Aside0.mk hr0
 have HC0 := Aside0.mk hc0
 clear hr0 hc0
 have HR1 := Aside0.mk hr1
 have HC1 := Aside0.mk hc1
 clear hr1 hc1
 have HB := Aside0.mk (Below.refl w.heap.size w)
 have H : ((some (([] : List (S69)) : List (S69))).bind fun y1068 => (if (l0.length : Int) > 1500 then (spec_Common.j0 k l0 l1 y1068 true) else (spec_Common.j0 k l0 l1 y1068 (decide ((l1.length : Int) > 1500))))) = some r := h
 clear h
 obtain ⟨y1068, hy1068⟩ : ∃ y_ : List (S69), y_ = (([] : List (S69))) := ⟨_, rfl⟩
 replace H : (if (l0.length : Int) > 1500 then (spec_Common.j0 k l0 l1 y1068 true) else (spec_Common.j0 k l0 l1 y1068 (decide ((l1.length : Int) > 1500)))) = some r := by first | (rw [hy1068]; with_reducible exact H) | (have H2_ := (Option.bind_some _ _).symm.trans H; rw [hy1068]; with_reducible exact H2_) | (have H2_ := (Option.bind_some _ _).symm.trans H; with_reducible exact H2_) | with_reducible exact H | (rw [hy1068]; exact H) | exact H
 have Ny1068 := Aside0.mk hy1068
 clear hy1068
 have HC3 := Aside0.mk H
 clear H
 go_enter Try.func38, Try.ntmps38
 go_upto_region 2 with (first | ((with_reducible refine gd 10 rfl ?_); (try (refine gate_guard (by rfl) ?_; dsimp only)); refine Kd.R_lit k69 _ 69 ?hg (N := 10) ?hd (xs := ([] : List (S69))) (inner := []) (ok := fun _ => True) (okp := fun _ => True) ?hr ?hp (fun _ hk => hk) trivial (Below.refl _ _) (Nat.le_refl _) (by simp) ?_; (case hd => rfl); (case hg => rfl); (case hr => first | (go_simp; done) | (go_simp; rfl)); (case hp => exact (Reps.none _ _)); intro v1069 w4 ho5 hb hg_ hnew_; clear hg_ hnew_; (first | rw [← Ny1068.out] at ho5 | (simp only [Int.reduceToNat] at ho5; rw [← Ny1068.out] at ho5)); refine Ya2 (Kd.R_lower ho5 (below_size (be HB.out))) (below_step (be HB.out) hb) ?_; clear HB; intro HO1070 HB; clear hb ho5))
 (try simp only [Act.put, List.setIfInBounds_toArray, List.set_cons_zero, List.set_cons_succ])
 go_cut [18] (fun v18 wc => ∃ (kq : Nat) (x18_2 : Bool), v18 = .bool x18_2 ∧ Aside0 (spec_Common.j0 kq l0 l1 y1068 x18_2 = some r) ∧ Aside0 (kq ≤ k) ∧ Aside0 (Kd.R k69 69 wc w.heap.size (fun _ => True) v1069 y1068) ∧ Aside0 (Below w.heap.size w wc))
 case first =>
  have H := HC3.out
  clear HC3
  by_cases c6 : (l0.length : Int) > 1500
  ·rw [if_pos c6] at H
   have c6b0 : decide (1500 < (l0.length : Int)) = true := decide_eq_true c6
   have c6b1 : decide (1500 < l0.length) = true := decide_eq_true (by omega)
   clear c6
   (first | rw [c6b0] | (simp only [i64_w, i32_w]; rw [c6b0]) | skip)
   have H' := Aside0.mk H
   clear H
   go_wp2
   go_meet
   case rel => exact ⟨_, (true), Ye1, H', ⟨by first | omega | exact Nat.le_refl _⟩, ⟨kr HO1070.out⟩, ⟨be HB.out⟩⟩
  ·rw [if_neg c6] at H
   have c6b0 : decide (1500 < (l0.length : Int)) = false := decide_eq_false c6
   have c6b1 : decide (1500 < l0.length) = false := decide_eq_false (by omega)
   clear c6
   (first | rw [c6b0] | (simp only [i64_w, i32_w]; rw [c6b0]) | skip)
   have H' := Aside0.mk H
   clear H
   go_wp2
   go_meet
   case rel => exact ⟨_, (decide ((l1.length : Int) > 1500)), Ye1, H', ⟨by first | omega | exact Nat.le_refl _⟩, ⟨kr HO1070.out⟩, ⟨be HB.out⟩⟩
 case rest =>
  clear HC3
  try clear c1
  try clear p2
  try clear c3
  try clear c6
  try clear c6b0
  try clear c6b1
  obtain ⟨kq, x18_2, rfl, HA, HJ2, HO_5, HB⟩ := hcut
  cases kq with
  | zero => exact absurd HA.out (by simp [spec_Common.j0])
  | succ kj2 =>
   have H := HA.out
   clear HA
   simp only [spec_Common.j0] at H
   by_cases c7 : x18_2 = true
   ·subst c7
    have H1 : (some y1068) = some r := by rw [if_pos rfl] at H; exact H
    clear H
    have H := H1
    clear H1
    obtain rfl := Option.some.inj H
    go_wp2
    go_ret
    exact ⟨_, Ye2, kr HO_5.out, be HB.out⟩
   ·replace c7 := Bool.eq_false_iff.mpr c7
    subst c7
    have H1 : ((spec_l7Table.f kj2 l0 l1).bind fun t1071 => (spec_Common.l0 kj2 l0 l1 y1068 t1071 0 0)) = some r := by rw [if_neg (show ¬ (false = true) by decide)] at H; exact H
    clear H
    have H := H1
    clear H1
    replace H := Option.bind_eq_some_iff.mp H
    obtain ⟨t1071, A80, H⟩ := H
    replace H : (spec_Common.l0 kj2 l0 l1 y1068 t1071 0 0) = some r := H
    have A8 := Aside0.mk A80
    clear A80
    have H' := Aside0.mk H
    clear H
    go_wp2_with (first | ((with_reducible refine gc 85 rfl ?_); refine gl (some 22) _ (#[.slice A0 l0.length c0, .slice A1 l1.length c1]) Try.func85 ?_; (with_reducible refine (spec_l7Table.calls kj2 _ _ l0 _ _ l1 t1071 _ ?side1 ?side2 ?side3 ?side4 A8.out).mono ?_); (case side1 => exact cb (Kd.C_below HR0.out HB.out)); (case side2 => exact HC0.out); (case side3 => exact cb (Kd.C_below HR1.out HB.out)); (case side4 => exact HC1.out); rintro e w9 ⟨v1072, rfl, ho0, hb⟩; refine ⟨_, rfl, ?_⟩; refine Ya3 (Kd.R_below (kr HO_5.out) hb) (Kd.S_lower ho0 (below_size (be HB.out))) (below_step (be HB.out) hb) ?_; clear HO_5 HB; intro HO_5 HO1073 HB; (try clear hb); (try clear hb2); (try clear hk); (try clear hi); (try clear ho0)))
    go_loopg [5, 7, 8] kj2 (fun kq v5 v7 v8 w' => ∃ (x5_2 : List (S69)) (x7_2 : Int) (x8_2 : Int), v7 = .int .i64 x7_2 ∧ v8 = .int .i64 x8_2 ∧ Aside0 (spec_Common.l0 kq l0 l1 x5_2 t1071 x7_2 x8_2 = some r) ∧ Aside0 (kq ≤ kj2) ∧ Aside0 (Kd.R k69 69 w' w.heap.size (fun _ => True) v5 x5_2) ∧ Aside0 (Kd.S (Kd.slice 3 (Kd.int .i64)) 77 w' w.heap.size (fun _ => True) v1072 t1071) ∧ Aside0 (Below w.heap.size w w'))
    case atStart => exact ⟨(y1068), (0), (0), Ye1, Ye1, H', ⟨Nat.le_refl _⟩, ⟨kr HO_5.out⟩, ⟨by (with_reducible repeat (first | apply Kd.S_alloc | apply Kd.S_drewN | apply Kd.S_drew)); exact HO1073.out⟩, ⟨be HB.out⟩⟩
    case round =>
     clear H'
     try clear c1
     try clear p2
     try clear c3
     try clear c6
     try clear c6b0
     try clear c6b1
     try clear c7
     try clear c8
     try clear p2
     obtain ⟨x5_2, x7_2, x8_2, rfl, rfl, HA, HK2, HO_5, HO_6, HB⟩ := hrel
     cases gk with
     | zero => exact absurd HA.out (by simp [spec_Common.l0])
     | succ k2 =>
      have H := HA.out
      clear HA
      simp only [spec_Common.l0] at H
      by_cases c10 : 0 ≤ x7_2
      ·rw [if_pos c10] at H
       have c10b0 : decide (0 ≤ x7_2) = true := decide_eq_true c10
       clear c10
       by_cases c11 : x7_2 < (t1071.length : Int)
       ·rw [if_pos c11] at H
        have c11b0 : decide (x7_2 < (t1071.length : Int)) = true := decide_eq_true c11
        clear c11
        by_cases c12 : 0 ≤ x8_2
        ·rw [if_pos c12] at H
         have c12b0 : decide (0 ≤ x8_2) = true := decide_eq_true c12
         clear c12
         by_cases c13 : x8_2 < ((rd_L4 t1071 x7_2).length : Int)
         ·rw [if_pos c13] at H
          have c13b0 : decide (x8_2 < ((rd_L4 t1071 x7_2).length : Int)) = true := decide_eq_true c13
          clear c13
          by_cases c14 : (rd (rd_L4 t1071 x7_2) x8_2) > 0
          ·rw [if_pos c14] at H
           have c14b0 : decide (0 < (rd (rd_L4 t1071 x7_2) x8_2)) = true := decide_eq_true c14
           clear c14
           replace H := Option.bind_eq_some_iff.mp H
           obtain ⟨⟨t1076, t1077⟩, A150, H⟩ := H
           replace H : (if x5_2.length < 8796093022208 then (spec_Common.l0 k2 l0 l1 (x5_2 ++ [(⟨t1076, t1077⟩ : S69)]) t1071 (wrap64 (t1076 + 1)) (wrap64 (t1077 + 1))) else (none)) = some r := H
           have A15 := Aside0.mk A150
           clear A150
           by_cases c16 : x5_2.length < 8796093022208
           ·rw [if_pos c16] at H
            have LMc16 := Aside0.mk c16
            clear c16
            obtain ⟨y1079, hy1079⟩ : ∃ y_ : List (S69), y_ = (x5_2 ++ [(⟨t1076, t1077⟩ : S69)]) := ⟨_, rfl⟩
            replace H : (spec_Common.l0 k2 l0 l1 y1079 t1071 (wrap64 (t1076 + 1)) (wrap64 (t1077 + 1))) = some r := by first | (rw [hy1079]; with_reducible exact H) | (have H2_ := (Option.bind_some _ _).symm.trans H; rw [hy1079]; with_reducible exact H2_) | (have H2_ := (Option.bind_some _ _).symm.trans H; with_reducible exact H2_) | with_reducible exact H | (rw [hy1079]; exact H) | exact H
            have Ny1079 := Aside0.mk hy1079
            clear hy1079
            have H' := Aside0.mk H
            clear H
            obtain ⟨Ao17, co17, eo17⟩ := Kd.S_slice HO_6.out
            subst eo17
            have p1074 : 0 ≤ (x7_2 : Int) := oda
            have q1074 : x7_2 < (t1071.length : Int) := oda
            obtain ⟨ad1074, A1074_0, c1074_0, e1074, hx1074_0, hl1074_0, hi1074_0⟩ := at_L4 (Kd.S_reads' HO_6.out).2.2 x7_2 p1074 q1074
            cases e1074
            obtain ⟨ce1074, hce1074, hMe1074, hcc1074⟩ := Kd.S_get HO_6.out [] x7_2 p1074 (by first | exact q1074 | exact oda | (have e_ := (Kd.S_reads' HO_6.out).1; omega))
            obtain ⟨ve1074_0, rfl, ge1074_0⟩ := hMe1074
            have hv1074_0 := hcc1074 0 _ rfl
            rw [Nat.add_zero, show ((Kd.slice 3 (Kd.int .i64))).sz = 1 from rfl, Nat.mul_one] at hv1074_0
            replace hv1074_0 := Option.some.inj (hv1074_0.symm.trans hx1074_0)
            rw [hv1074_0] at ge1074_0
            have HL1074_0 := Aside0.mk (show Kd.R (Kd.int .i64) 3 _ _ _ _ (rd_L4 t1071 x7_2) from ge1074_0)
            clear hv1074_0 ge1074_0
            clear hcc1074 hce1074
            have HR1074_0 := Aside0.mk hi1074_0
            have HC1074_0 := Aside0.mk hl1074_0
            clear hi1074_0 hl1074_0
            replace p1074 := eq_true p1074
            replace q1074 := eq_true q1074
            have p1075 : 0 ≤ (x8_2 : Int) := oda
            have q1075 : x8_2 < ((rd_L4 t1071 x7_2).length : Int) := oda
            obtain ⟨ad1075, e1075, hx1075_0⟩ := Kd.at_int (by repeat (first | (with_reducible exact HR1074_0.out) | (with_reducible refine Kd.C_alloc ?_ _) | (with_reducible refine Kd.C_drewN ?_ _) | (with_reducible refine Kd.C_drew ?_) | exact HR1074_0.out)) x8_2 p1075 q1075
            cases e1075
            replace p1075 := eq_true p1075
            replace q1075 := eq_true q1075
            go_wp2_with (first | ((with_reducible refine gc 86 rfl ?_); refine gl (some 36) _ (#[.slice A0 l0.length c0, .slice A1 l1.length c1, .slice (some ad1074) t1071.length co17, .int .i64 x7_2, .int .i64 x8_2]) Try.func86 ?_; (with_reducible refine (spec_l7First.calls k2 _ _ l0 _ _ l1 _ _ t1071 x7_2 x8_2 t1076 t1077 _ ?side1 ?side2 ?side3 ?side4 ?side5 ?side6 A15.out).mono ?_); (case side1 => exact cb (Kd.C_below HR0.out HB.out)); (case side2 => exact HC0.out); (case side3 => exact cb (Kd.C_below HR1.out HB.out)); (case side4 => exact HC1.out); (case side5 => repeat (first | exact (Kd.S_reads' HO_6.out).2.2 | (with_reducible refine Kd.C_alloc ?_ _) | (with_reducible refine Kd.C_drewN ?_ _) | (with_reducible refine Kd.C_drew ?_))); (case side6 => exact (Kd.S_reads' HO_6.out).2.1); rintro e w18 ⟨rfl, hb⟩; refine ⟨_, rfl, ?_⟩; refine Ya5 (Kd.R_below (kr HO_5.out) hb) (Kd.S_below (by (with_reducible repeat (first | apply Kd.S_alloc | apply Kd.S_drewN | apply Kd.S_drew)); exact HO_6.out) hb) (Kd.R_below (kr HL1074_0.out) hb) (Kd.C_below (by repeat (first | (with_reducible exact HR1074_0.out) | (with_reducible refine Kd.C_alloc ?_ _) | (with_reducible refine Kd.C_drewN ?_ _) | (with_reducible refine Kd.C_drew ?_) | exact HR1074_0.out)) hb) (below_step (be HB.out) hb) ?_; clear HO_5 HO_6 HL1074_0 HR1074_0 HB; intro HO_5 HO_6 HL1074_0 HR1074_0 HB; (try clear hb); (try clear hb2); (try clear hk); (try clear hi)) | ((with_reducible refine gd 9 rfl ?_); (try (refine gate_guard (by rfl) ?_; dsimp only)); refine bx 9 69 (#[.int .i64 0, .int .i64 0]) ?_; intro gb1078 hg w19 hbox hb; refine Ya8 (Kd.R_below (Kd.R_elderB (kr HO_5.out) gb1078 (Nat.le_of_eq hg.symm)) hb) (Kd.S_below (by (with_reducible repeat (first | apply Kd.S_alloc | apply Kd.S_drewN | apply Kd.S_drew)); exact HO_6.out) hb) (Kd.R_below (kr HL1074_0.out) hb) (Kd.C_below (by repeat (first | (with_reducible exact HR1074_0.out) | (with_reducible refine Kd.C_alloc ?_ _) | (with_reducible refine Kd.C_drewN ?_ _) | (with_reducible refine Kd.C_drew ?_) | exact HR1074_0.out)) hb) (below_step (be HB.out) hb) (hbox) (bs hg (be HB.out)) (bs hg (be HB.out)) ?_; clear HO_5 HO_6 HL1074_0 HR1074_0 HB; intro HO_5 HO_6 HL1074_0 HR1074_0 HB BK1078 GW1078 GE1078; clear hb hbox hg; have ⟨hcz20_0, hcz20_1, hfz20_0, hfz20_1⟩ := Yc2 BK1078.out) | ((with_reducible refine gate_builtin (b := .append) (xs := #[.tmp 37, .tmp 39]) rfl ?_); (try (refine gate_guard (by rfl) ?_; dsimp only)); at_builtin; refine Kd.R_append k69 (w0 := w) w.heap.size rfl (.tmp 37) (.tmp 39) 60 69 (.agg #[(.int .i64 0), (.int .i64 0)]) 16 rfl Try.underlying60 info69 rfl (by decide) (by omega) u5 x5_2 (⟨t1076, t1077⟩ : S69) [.int .i64 t1076, .int .i64 t1077] (fun k_ => k_ ≠ gb1078) (fun _ => False) rfl (by first | (go_simp; done) | (go_simp; rfl)) ?aP (fun _ hk => hk.elim) ?aF ?aO ?aB ?aS ?aL ?_; (case aP => exact k69_mkM _ _ _ (⟨t1076, t1077⟩ : S69)); (case aB => exact (be1 HB.out GE1078.out)); (case aF => exact (fun k_ hk => Kd.freshB (g := gb1078) (o := .cells #[.int .i64 t1076, .int .i64 t1077] 69 (0, 0)) (by (with_reducible repeat (first | refine blk_drewN ?_ _ | refine blk_drew ?_ | refine blk_alloc ?_ _)); refine blk_put (cs := #[.int .i64 t1076, .int .i64 0]) ?_ 1 _ rfl; (with_reducible repeat (first | refine blk_drewN ?_ _ | refine blk_drew ?_ | refine blk_alloc ?_ _)); refine blk_put (cs := #[.int .i64 0, .int .i64 0]) ?_ 0 _ rfl; (with_reducible repeat (first | refine blk_drewN ?_ _ | refine blk_drew ?_ | refine blk_alloc ?_ _)); exact BK1078.out) k_ hk)); (case aO => exact (by (with_reducible repeat (first | apply Kd.R_alloc | apply Kd.R_drewN | apply Kd.R_drew)); exact Kd.R_mono (Kd.R_far (p := ⟨gb1078, 1, none⟩) (Kd.R_far (p := ⟨gb1078, 0, none⟩) (Kd.R_mono HO_5.out (fun k_ hk => (⟨hk, hk.2⟩ : _ ∧ k_ ≠ gb1078))) (fun _ hk => hk.2) (.int .i64 t1076)) (fun _ hk => hk.2) (.int .i64 t1077)) (fun _ hk => hk.1.2))); (case aS => exact (below_size (be1 HB.out GE1078.out))); (case aL => have := LMc16.out; omega); intro v1080 w21 ho hb hg hat; rw [← Ny1079.out] at ho; refine Ya5 (Kd.S_over' (by (with_reducible repeat (first | apply Kd.S_alloc | apply Kd.S_drewN | apply Kd.S_drew)); exact (Kd.S_mono (Kd.S_far (p := ⟨gb1078, 1, none⟩) (Kd.S_far (p := ⟨gb1078, 0, none⟩) (Kd.S_types HO_6.out BK1078.out (by decide)) (fun _ hk => hk.2) (.int .i64 t1076)) (fun _ hk => hk.2) (.int .i64 t1077)) (fun _ h_ => h_.1))) (Kd.R_typed (by (with_reducible repeat (first | apply Kd.R_alloc | apply Kd.R_drewN | apply Kd.R_drew)); exact (Kd.R_mono (Kd.R_far (p := ⟨gb1078, 1, none⟩) (Kd.R_far (p := ⟨gb1078, 0, none⟩) (Kd.R_mono HO_5.out (fun k_ hk => (⟨hk, hk.2⟩ : _ ∧ k_ ≠ gb1078))) (fun _ hk => hk.2) (.int .i64 t1076)) (fun _ hk => hk.2) (.int .i64 t1077)) (fun _ h_ => h_.1)))) (by decide) hg) (Kd.R_over' (by (with_reducible repeat (first | apply Kd.R_alloc | apply Kd.R_drewN | apply Kd.R_drew)); exact (Kd.R_mono (Kd.R_far (p := ⟨gb1078, 1, none⟩) (Kd.R_far (p := ⟨gb1078, 0, none⟩) (Kd.R_types HL1074_0.out BK1078.out (by decide)) (fun _ hk => hk.2) (.int .i64 t1076)) (fun _ hk => hk.2) (.int .i64 t1077)) (fun _ h_ => h_.1))) (Kd.R_typed (by (with_reducible repeat (first | apply Kd.R_alloc | apply Kd.R_drewN | apply Kd.R_drew)); exact (Kd.R_mono (Kd.R_far (p := ⟨gb1078, 1, none⟩) (Kd.R_far (p := ⟨gb1078, 0, none⟩) (Kd.R_mono HO_5.out (fun k_ hk => (⟨hk, hk.2⟩ : _ ∧ k_ ≠ gb1078))) (fun _ hk => hk.2) (.int .i64 t1076)) (fun _ hk => hk.2) (.int .i64 t1077)) (fun _ h_ => h_.1)))) (by decide) hg) (blk_grown (g := gb1078) (o := .cells #[.int .i64 t1076, .int .i64 t1077] 69 (0, 0)) (by (with_reducible repeat (first | refine blk_drewN ?_ _ | refine blk_drew ?_ | refine blk_alloc ?_ _)); refine blk_put (cs := #[.int .i64 t1076, .int .i64 0]) ?_ 1 _ rfl; (with_reducible repeat (first | refine blk_drewN ?_ _ | refine blk_drew ?_ | refine blk_alloc ?_ _)); refine blk_put (cs := #[.int .i64 0, .int .i64 0]) ?_ 0 _ rfl; (with_reducible repeat (first | refine blk_drewN ?_ _ | refine blk_drew ?_ | refine blk_alloc ?_ _)); exact BK1078.out) hg (Kd.R_away HO_5.out (fun _ hk => hk.2))) (hb) (ho) ?_; clear HO_6 HL1074_0 BK1078 HB HO_5; intro HO_6 HL1074_0 BK1078 HB HO1081; clear ho hb hg hat; have ⟨hcz22_0, hcz22_1, hfz22_0, hfz22_1⟩ := Yc2 BK1078.out))
            go_roundg k2
            case measure => have := HJ2.out; have := HK2.out; omega
            case rel => exact ⟨(y1079), (wrap64 (t1076 + 1)), (wrap64 (t1077 + 1)), Ye1, Ye1, H', ⟨by have := HJ2.out; have := HK2.out; omega⟩, ⟨by (with_reducible repeat (first | apply Kd.R_alloc | apply Kd.R_drewN | apply Kd.R_drew)); exact Kd.R_mono HO1081.out (fun _ hk => trivial)⟩, ⟨by (with_reducible repeat (first | apply Kd.S_alloc | apply Kd.S_drewN | apply Kd.S_drew)); exact HO_6.out⟩, ⟨be1 HB.out GE1078.out⟩⟩
           ·rw [if_neg c16] at H
            exact absurd H (by simp)
          ·rw [if_neg c14] at H
           have c14b0 : decide (0 < (rd (rd_L4 t1071 x7_2) x8_2)) = false := decide_eq_false c14
           clear c14
           obtain rfl := Option.some.inj H
           obtain ⟨Ao23, co23, eo23⟩ := Kd.S_slice HO_6.out
           subst eo23
           have p1074 : 0 ≤ (x7_2 : Int) := oda
           have q1074 : x7_2 < (t1071.length : Int) := oda
           obtain ⟨ad1074, A1074_0, c1074_0, e1074, hx1074_0, hl1074_0, hi1074_0⟩ := at_L4 (Kd.S_reads' HO_6.out).2.2 x7_2 p1074 q1074
           cases e1074
           obtain ⟨ce1074, hce1074, hMe1074, hcc1074⟩ := Kd.S_get HO_6.out [] x7_2 p1074 (by first | exact q1074 | exact oda | (have e_ := (Kd.S_reads' HO_6.out).1; omega))
           obtain ⟨ve1074_0, rfl, ge1074_0⟩ := hMe1074
           have hv1074_0 := hcc1074 0 _ rfl
           rw [Nat.add_zero, show ((Kd.slice 3 (Kd.int .i64))).sz = 1 from rfl, Nat.mul_one] at hv1074_0
           replace hv1074_0 := Option.some.inj (hv1074_0.symm.trans hx1074_0)
           rw [hv1074_0] at ge1074_0
           have HL1074_0 := Aside0.mk (show Kd.R (Kd.int .i64) 3 _ _ _ _ (rd_L4 t1071 x7_2) from ge1074_0)
           clear hv1074_0 ge1074_0
           clear hcc1074 hce1074
           have HR1074_0 := Aside0.mk hi1074_0
           have HC1074_0 := Aside0.mk hl1074_0
           clear hi1074_0 hl1074_0
           replace p1074 := eq_true p1074
           replace q1074 := eq_true q1074
           have p1075 : 0 ≤ (x8_2 : Int) := oda
           have q1075 : x8_2 < ((rd_L4 t1071 x7_2).length : Int) := oda
           obtain ⟨ad1075, e1075, hx1075_0⟩ := Kd.at_int (by repeat (first | (with_reducible exact HR1074_0.out) | (with_reducible refine Kd.C_alloc ?_ _) | (with_reducible refine Kd.C_drewN ?_ _) | (with_reducible refine Kd.C_drew ?_) | exact HR1074_0.out)) x8_2 p1075 q1075
           cases e1075
           replace p1075 := eq_true p1075
           replace q1075 := eq_true q1075
           go_wp2
           go_ret
           exact ⟨_, Ye2, kr HO_5.out, be HB.out⟩
         ·rw [if_neg c13] at H
          exact absurd H (by simp)
        ·rw [if_neg c12] at H
         exact absurd H (by simp)
       ·rw [if_neg c11] at H
        exact absurd H (by simp)
      ·rw [if_neg c10] at H
       exact absurd H (by simp)

end Go.Proofs.Ytnndpbkcldkbgaa.P
