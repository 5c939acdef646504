-- Printed for this claim by a small program of this session (kprint.py), which drives the kit's print program.
import Derived.Test.YtnndpbkcldkbgaaP0
import Derived.Test.YtnndpbkcldkbgaaSqueeze
namespace Go.Proofs.Ytnndpbkcldkbgaa.P
open Go.RowKit Go.Proofs.YtnndpbkcldkbgaaW.PrintWords Go.Proofs.YtnndpbkcldkbgaaW.PrintLast Go.Proofs.YtnndpbkcldkbgaaW.PrintMore
attribute [local go_sem] max2_int min2_int max_two min_two max_three min_three max_four min_four
set_option linter.unusedVariables false
set_option linter.unusedSimpArgs false

/-! ### spec_l7First: function 86 -/
mutual
def spec_l7First.l0 : Nat → List ByteArray → List ByteArray → List (List Int) → Int → Int → Int → Option (Int × Int)
 | 0, _, _, _, _, _, _ => none
 | k + 1, x0, x1, x2, x3, x4, x11 => if x11 < (x0.length : Int) then (spec_l7First.l1 k x0 x1 x2 x3 x4 x11 x4) else (some (0, 0))
def spec_l7First.l1 : Nat → List ByteArray → List ByteArray → List (List Int) → Int → Int → Int → Int → Option (Int × Int)
 | 0, _, _, _, _, _, _, _ => none
 | k + 1, x0, x1, x2, x3, x4, x11, x12 => if x12 < (x1.length : Int) then (if 0 ≤ x11 then (if x11 < (x0.length : Int) then (if 0 ≤ x12 then (if (rdOf ByteArray.empty x0 x11).toList = (rdOf ByteArray.empty x1 x12).toList then (if 0 ≤ (wrap64 (x11 + 1)) then (if (wrap64 (x11 + 1)) < (x2.length : Int) then (if 0 ≤ (wrap64 (x12 + 1)) then (if (wrap64 (x12 + 1)) < ((rd_L4 x2 (wrap64 (x11 + 1))).length : Int) then (if 0 ≤ x3 then (if x3 < (x2.length : Int) then (if 0 ≤ x4 then (if x4 < ((rd_L4 x2 x3).length : Int) then (if (wrap64 ((rd (rd_L4 x2 (wrap64 (x11 + 1))) (wrap64 (x12 + 1))) + 1)) = (rd (rd_L4 x2 x3) x4) then (some (x11, x12)) else (spec_l7First.l1 k x0 x1 x2 x3 x4 x11 (wrap64 (x12 + 1)))) else (none)) else (none)) else (none)) else (none)) else (none)) else (none)) else (none)) else (none)) else (spec_l7First.l1 k x0 x1 x2 x3 x4 x11 (wrap64 (x12 + 1)))) else (none)) else (none)) else (none)) else (spec_l7First.l0 k x0 x1 x2 x3 x4 (wrap64 (x11 + 1)))
end
def spec_l7First.f (k : Nat) (l0 : List ByteArray) (l1 : List ByteArray) (l2 : List (List Int)) (a3 : Int) (a4 : Int) : Option (Int × Int) := spec_l7First.l0 k l0 l1 l2 a3 a4 a3
theorem spec_l7First.mono_l : ∀ k, (∀ y0 y1 y2 y3 y4 y5, LeO (spec_l7First.l0 k y0 y1 y2 y3 y4 y5) (spec_l7First.l0 (k + 1) y0 y1 y2 y3 y4 y5)) ∧ (∀ y0 y1 y2 y3 y4 y5 y6, LeO (spec_l7First.l1 k y0 y1 y2 y3 y4 y5 y6) (spec_l7First.l1 (k + 1) y0 y1 y2 y3 y4 y5 y6))
 | 0 => ⟨fun _ _ _ _ _ _ r h => by simp [spec_l7First.l0] at h, fun _ _ _ _ _ _ _ r h => by simp [spec_l7First.l1] at h⟩
 | k + 1 => by
  obtain ⟨ih0, ih1⟩ := spec_l7First.mono_l k
  refine ⟨?_, ?_⟩
  ·intro y0 y1 y2 y3 y4 y5
   unfold spec_l7First.l0
   repeat' first
   | (with_reducible exact ih0 _ _ _ _ _ _)
   | (with_reducible exact ih1 _ _ _ _ _ _ _)
   | (with_reducible exact LeO.refl _)
   | (with_reducible exact LeO.none _)
   | (with_reducible refine LeO.ite ?_ ?_)
   | (with_reducible refine LeO.bind ?_ (fun _ => ?_))
   | exact ih0 _ _ _ _ _ _
   | exact ih1 _ _ _ _ _ _ _
   | exact LeO.none _
   | refine LeO.ite ?_ ?_
   | refine LeO.bind ?_ (fun _ => ?_)
  ·intro y0 y1 y2 y3 y4 y5 y6
   unfold spec_l7First.l1
   repeat' first
   | (with_reducible exact ih0 _ _ _ _ _ _)
   | (with_reducible exact ih1 _ _ _ _ _ _ _)
   | (with_reducible exact LeO.refl _)
   | (with_reducible exact LeO.none _)
   | (with_reducible refine LeO.ite ?_ ?_)
   | (with_reducible refine LeO.bind ?_ (fun _ => ?_))
   | exact ih0 _ _ _ _ _ _
   | exact ih1 _ _ _ _ _ _ _
   | exact LeO.none _
   | refine LeO.ite ?_ ?_
   | refine LeO.bind ?_ (fun _ => ?_)
theorem spec_l7First.mono : ∀ a0 a1 a2 a3 a4 k, LeO (spec_l7First.f k a0 a1 a2 a3 a4) (spec_l7First.f (k + 1) a0 a1 a2 a3 a4) := by
 intro a0 a1 a2 a3 a4 k
 obtain ⟨ih0, ih1⟩ := spec_l7First.mono_l k
 unfold spec_l7First.f
 repeat' first
   | (with_reducible exact ih0 _ _ _ _ _ _)
   | (with_reducible exact ih1 _ _ _ _ _ _ _)
   | (with_reducible exact LeO.refl _)
   | (with_reducible exact LeO.none _)
   | (with_reducible refine LeO.ite ?_ ?_)
   | (with_reducible refine LeO.bind ?_ (fun _ => ?_))
   | exact ih0 _ _ _ _ _ _
   | exact ih1 _ _ _ _ _ _ _
   | exact LeO.none _
   | refine LeO.ite ?_ ?_
   | refine LeO.bind ?_ (fun _ => ?_)
set_option maxHeartbeats 8000000 in
set_option maxRecDepth 100000 in
theorem spec_l7First.calls (k : Nat) (A0 : Option Addr) (c0 : Nat) (l0 : List ByteArray) (A1 : Option Addr) (c1 : Nat) (l1 : List ByteArray) (A2 : Option Addr) (c2 : Nat) (l2 : List (List Int)) (a3 : Int) (a4 : Int) (r1 : Int) (r2 : Int) (w : World) (hr0 : Kd.C Kd.string w A0 l0.length l0) (hc0 : l0.length ≤ c0) (hr1 : Kd.C Kd.string w A1 l1.length l1) (hc1 : l1.length ≤ c1) (hr2 : Kd.C (Kd.slice 3 (Kd.int .i64)) w A2 l2.length l2) (hc2 : l2.length ≤ c2) (h : spec_l7First.f k l0 l1 l2 a3 a4 = some (r1, r2)) :
  Calls Try.prog 86 #[.slice A0 l0.length c0, .slice A1 l1.length c1, .slice A2 l2.length c2, .int .i64 a3, .int .i64 a4] w fun e w' => e = .returned (.agg #[.int .i64 r1, .int .i64 r2]) ∧ Below w.heap.size w w' := by
 have hu69 := Try.underlying69
 have HR0 := Aside0.mk hr0
 have HC0 := Aside0.mk hc0
 clear hr0 hc0
 have HR1 := Aside0.mk hr1
 have HC1 := Aside0.mk hc1
 clear hr1 hc1
 have HR2 := Aside0.mk hr2
 have HC2 := Aside0.mk hc2
 clear hr2 hc2
 have HB := Aside0.mk (Below.refl w.heap.size w)
 have H : (spec_l7First.l0 k l0 l1 l2 a3 a4 a3) = some (r1, r2) := h
 clear h
 have H' := Aside0.mk H
 clear H
 go_enter Try.func86, Try.ntmps86
 go_wp2_with (first | ((with_reducible refine gd 10 rfl ?_); refine bx 10 69 (#[.int .i64 0, .int .i64 0]) ?_; intro gb1061 hg w6 hbox hb; refine Ya4 (below_step (be HB.out) hb) (hbox) (bs hg (be HB.out)) (bs hg (be HB.out)) ?_; clear HB; intro HB BK1061 GW1061 GE1061; clear hb hbox hg))
 repeat (go_quiet (first | ((with_reducible refine gd 10 rfl ?_); refine bx 10 69 (#[.int .i64 0, .int .i64 0]) ?_; intro gb1061 hg w6 hbox hb; refine Ya4 (below_step (be HB.out) hb) (hbox) (bs hg (be HB.out)) (bs hg (be HB.out)) ?_; clear HB; intro HB BK1061 GW1061 GE1061; clear hb hbox hg)); try go_wp2_with (first | ((with_reducible refine gd 10 rfl ?_); refine bx 10 69 (#[.int .i64 0, .int .i64 0]) ?_; intro gb1061 hg w6 hbox hb; refine Ya4 (below_step (be HB.out) hb) (hbox) (bs hg (be HB.out)) (bs hg (be HB.out)) ?_; clear HB; intro HB BK1061 GW1061 GE1061; clear hb hbox hg)))
 go_loopg [11] k (fun kq v11 w' => ∃ (x11_1 : Int) (x1062000_1 : Int) (x1062001_1 : Int), v11 = .int .i64 x11_1 ∧ Aside0 (spec_l7First.l0 kq l0 l1 l2 a3 a4 x11_1 = some (r1, r2)) ∧ Aside0 (kq ≤ k) ∧ Aside0 (w'.heap[gb1061]? = some (.cells #[.int .i64 x1062000_1, .int .i64 x1062001_1] 69 (0, 0))) ∧ Aside0 (Below w.heap.size w w'))
 case atStart => exact ⟨(a3), (0), (0), Ye1, H', ⟨Nat.le_refl _⟩, ⟨bk BK1061.out⟩, ⟨be1 HB.out GE1061.out⟩⟩
 case round =>
  clear H'
  try clear c1
  try clear c2
  try clear p2
  obtain ⟨x11_1, x1062000_1, x1062001_1, rfl, HA, HK1, BK1061, HB⟩ := hrel
  cases gk with
  | zero => exact absurd HA.out (by simp [spec_l7First.l0])
  | succ k1 =>
   have H := HA.out
   clear HA
   simp only [spec_l7First.l0] at H
   by_cases c7 : x11_1 < (l0.length : Int)
   ·rw [if_pos c7] at H
    have c7b0 : decide (x11_1 < (l0.length : Int)) = true := decide_eq_true c7
    clear c7
    have H' := Aside0.mk H
    clear H
    go_wp2
    repeat (go_quiet (fail); try go_wp2)
    go_loopg [12] k1 (fun kq v12 w' => ∃ (x12_2 : Int) (x1062000_2 : Int) (x1062001_2 : Int), v12 = .int .i64 x12_2 ∧ Aside0 (spec_l7First.l1 kq l0 l1 l2 a3 a4 x11_1 x12_2 = some (r1, r2)) ∧ Aside0 (kq ≤ k1) ∧ Aside0 (w'.heap[gb1061]? = some (.cells #[.int .i64 x1062000_2, .int .i64 x1062001_2] 69 (0, 0))) ∧ Aside0 (Below w.heap.size w w'))
    case atStart => exact ⟨(a4), (x1062000_1), (x1062001_1), Ye1, H', ⟨Nat.le_refl _⟩, ⟨bk BK1061.out⟩, ⟨be1 HB.out GE1061.out⟩⟩
    case round =>
     clear H'
     try clear c1
     try clear c2
     try clear p2
     try clear c7
     try clear c7b0
     try clear p2
     obtain ⟨x12_2, x1062000_2, x1062001_2, rfl, HA, HK2, BK1061, HB⟩ := hrel
     cases gk with
     | zero => exact absurd HA.out (by simp [spec_l7First.l1])
     | succ k2 =>
      have H := HA.out
      clear HA
      simp only [spec_l7First.l1] at H
      by_cases c8 : x12_2 < (l1.length : Int)
      ·rw [if_pos c8] at H
       have c8b0 : decide (x12_2 < (l1.length : Int)) = true := decide_eq_true c8
       clear c8
       by_cases c9 : 0 ≤ x11_1
       ·rw [if_pos c9] at H
        have c9b0 : decide (0 ≤ x11_1) = true := decide_eq_true c9
        clear c9
        by_cases c10 : x11_1 < (l0.length : Int)
        ·rw [if_pos c10] at H
         have c10b0 : decide (x11_1 < (l0.length : Int)) = true := decide_eq_true c10
         clear c10
         by_cases c11 : 0 ≤ x12_2
         ·rw [if_pos c11] at H
          have c11b0 : decide (0 ≤ x12_2) = true := decide_eq_true c11
          clear c11
          by_cases c12 : (rdOf ByteArray.empty l0 x11_1).toList = (rdOf ByteArray.empty l1 x12_2).toList
          ·rw [if_pos c12] at H
           have c12b0 : ((rdOf ByteArray.empty l0 x11_1).toList == (rdOf ByteArray.empty l1 x12_2).toList) = true := beq_iff_eq.mpr c12
           have c12b1 : ((rdOf ByteArray.empty l0 x11_1).toList != (rdOf ByteArray.empty l1 x12_2).toList) = false := bne_eq_false_iff_eq.mpr c12
           clear c12
           obtain ⟨ji13, hji13⟩ : ∃ j_ : Int, (wrap64 (x11_1 + 1)) = j_ := ⟨_, rfl⟩
           replace H : (if 0 ≤ (ji13) then (if (ji13) < (l2.length : Int) then (if 0 ≤ (wrap64 (x12_2 + 1)) then (if (wrap64 (x12_2 + 1)) < ((rd_L4 l2 (ji13)).length : Int) then (if 0 ≤ a3 then (if a3 < (l2.length : Int) then (if 0 ≤ a4 then (if a4 < ((rd_L4 l2 a3).length : Int) then (if (wrap64 ((rd (rd_L4 l2 (ji13)) (wrap64 (x12_2 + 1))) + 1)) = (rd (rd_L4 l2 a3) a4) then (some (x11_1, x12_2)) else (spec_l7First.l1 k2 l0 l1 l2 a3 a4 x11_1 (wrap64 (x12_2 + 1)))) else (none)) else (none)) else (none)) else (none)) else (none)) else (none)) else (none)) else (none)) = some (r1, r2) := by first | (rw [hji13] at H; exact H) | (simp only [hji13] at H ⊢; exact H)
           have hji13w : (IntKind.i64.wrap (x11_1 + 1)) = ji13 := (i64_w _).trans hji13
           by_cases c14 : 0 ≤ (ji13)
           ·rw [if_pos c14] at H
            have c14b0 : decide (0 ≤ (ji13)) = true := decide_eq_true c14
            clear c14
            by_cases c15 : (ji13) < (l2.length : Int)
            ·rw [if_pos c15] at H
             have c15b0 : decide ((ji13) < (l2.length : Int)) = true := decide_eq_true c15
             clear c15
             obtain ⟨ji16, hji16⟩ : ∃ j_ : Int, (wrap64 (x12_2 + 1)) = j_ := ⟨_, rfl⟩
             replace H : (if 0 ≤ (ji16) then (if (ji16) < ((rd_L4 l2 (ji13)).length : Int) then (if 0 ≤ a3 then (if a3 < (l2.length : Int) then (if 0 ≤ a4 then (if a4 < ((rd_L4 l2 a3).length : Int) then (if (wrap64 ((rd (rd_L4 l2 (ji13)) (ji16)) + 1)) = (rd (rd_L4 l2 a3) a4) then (some (x11_1, x12_2)) else (spec_l7First.l1 k2 l0 l1 l2 a3 a4 x11_1 ji16)) else (none)) else (none)) else (none)) else (none)) else (none)) else (none)) = some (r1, r2) := by first | (rw [hji16] at H; exact H) | (simp only [hji16] at H ⊢; exact H)
             have hji16w : (IntKind.i64.wrap (x12_2 + 1)) = ji16 := (i64_w _).trans hji16
             by_cases c17 : 0 ≤ (ji16)
             ·rw [if_pos c17] at H
              have c17b0 : decide (0 ≤ (ji16)) = true := decide_eq_true c17
              clear c17
              by_cases c18 : (ji16) < ((rd_L4 l2 (ji13)).length : Int)
              ·rw [if_pos c18] at H
               have c18b0 : decide ((ji16) < ((rd_L4 l2 (ji13)).length : Int)) = true := decide_eq_true c18
               clear c18
               by_cases c19 : 0 ≤ a3
               ·rw [if_pos c19] at H
                have c19b0 : decide (0 ≤ a3) = true := decide_eq_true c19
                clear c19
                by_cases c20 : a3 < (l2.length : Int)
                ·rw [if_pos c20] at H
                 have c20b0 : decide (a3 < (l2.length : Int)) = true := decide_eq_true c20
                 clear c20
                 by_cases c21 : 0 ≤ a4
                 ·rw [if_pos c21] at H
                  have c21b0 : decide (0 ≤ a4) = true := decide_eq_true c21
                  clear c21
                  by_cases c22 : a4 < ((rd_L4 l2 a3).length : Int)
                  ·rw [if_pos c22] at H
                   have c22b0 : decide (a4 < ((rd_L4 l2 a3).length : Int)) = true := decide_eq_true c22
                   clear c22
                   by_cases c23 : (wrap64 ((rd (rd_L4 l2 (ji13)) (ji16)) + 1)) = (rd (rd_L4 l2 a3) a4)
                   ·rw [if_pos c23] at H
                    have c23b0 : ((wrap64 ((rd (rd_L4 l2 (ji13)) (ji16)) + 1)) == (rd (rd_L4 l2 a3) a4)) = true := beq_iff_eq.mpr c23
                    have c23b1 : ((wrap64 ((rd (rd_L4 l2 (ji13)) (ji16)) + 1)) != (rd (rd_L4 l2 a3) a4)) = false := bne_eq_false_iff_eq.mpr c23
                    clear c23
                    simp only [Option.some.injEq, Prod.mk.injEq] at H
                    obtain ⟨rfl, rfl⟩ := H
                    have p1062 : 0 ≤ (x11_1 : Int) := oda
                    have q1062 : x11_1 < (l0.length : Int) := oda
                    obtain ⟨ad1062, e1062, hx1062_0⟩ := Kd.at_string (Kd.C_below HR0.out HB.out) x11_1 p1062 q1062
                    cases e1062
                    replace p1062 := eq_true p1062
                    replace q1062 := eq_true q1062
                    have p1063 : 0 ≤ (x12_2 : Int) := oda
                    have q1063 : x12_2 < (l1.length : Int) := oda
                    obtain ⟨ad1063, e1063, hx1063_0⟩ := Kd.at_string (Kd.C_below HR1.out HB.out) x12_2 p1063 q1063
                    cases e1063
                    replace p1063 := eq_true p1063
                    replace q1063 := eq_true q1063
                    have p1064 : 0 ≤ ((ji13) : Int) := oda
                    have q1064 : (ji13) < (l2.length : Int) := oda
                    obtain ⟨ad1064, A1064_0, c1064_0, e1064, hx1064_0, hl1064_0, hi1064_0⟩ := at_L4 HR2.out (ji13) p1064 q1064
                    cases e1064
                    replace hx1064_0 := pw_cell_below HB.out hx1064_0
                    have HR1064_0 := Aside0.mk hi1064_0
                    have HC1064_0 := Aside0.mk hl1064_0
                    clear hi1064_0 hl1064_0
                    replace p1064 := eq_true p1064
                    replace q1064 := eq_true q1064
                    have p1065 : 0 ≤ ((ji16) : Int) := oda
                    have q1065 : (ji16) < ((rd_L4 l2 (ji13)).length : Int) := oda
                    obtain ⟨ad1065, e1065, hx1065_0⟩ := Kd.at_int (Kd.C_below HR1064_0.out HB.out) (ji16) p1065 q1065
                    cases e1065
                    replace p1065 := eq_true p1065
                    replace q1065 := eq_true q1065
                    have p1066 : 0 ≤ (a3 : Int) := oda
                    have q1066 : a3 < (l2.length : Int) := oda
                    obtain ⟨ad1066, A1066_0, c1066_0, e1066, hx1066_0, hl1066_0, hi1066_0⟩ := at_L4 HR2.out a3 p1066 q1066
                    obtain rfl : ad1064 = ad1066 := (by injection e1066)
                    replace hx1066_0 := pw_cell_below HB.out hx1066_0
                    have HR1066_0 := Aside0.mk hi1066_0
                    have HC1066_0 := Aside0.mk hl1066_0
                    clear hi1066_0 hl1066_0
                    replace p1066 := eq_true p1066
                    replace q1066 := eq_true q1066
                    have p1067 : 0 ≤ (a4 : Int) := oda
                    have q1067 : a4 < ((rd_L4 l2 a3).length : Int) := oda
                    obtain ⟨ad1067, e1067, hx1067_0⟩ := Kd.at_int (Kd.C_below HR1066_0.out HB.out) a4 p1067 q1067
                    cases e1067
                    replace p1067 := eq_true p1067
                    replace q1067 := eq_true q1067
                    have ⟨hcz24_0, hcz24_1, hfz24_0, hfz24_1⟩ := Yc2 BK1061.out
                    go_wp2
                    repeat (go_quiet (fail); try go_wp2)
                    refine bodyPost_ret (results_cell_row rfl _ _ gb1061 69 #[.int .i64 x11_1, .int .i64 x12_2] (0, 0) _ rfl (by (with_reducible repeat (first | refine blk_drewN ?_ _ | refine blk_drew ?_ | refine blk_alloc ?_ _)); refine blk_put (cs := #[.int .i64 x11_1, .int .i64 x1062001_2]) ?_ 1 _ rfl; (with_reducible repeat (first | refine blk_drewN ?_ _ | refine blk_drew ?_ | refine blk_alloc ?_ _)); refine blk_put (cs := #[.int .i64 x1062000_2, .int .i64 x1062001_2]) ?_ 0 _ rfl; (with_reducible repeat (first | refine blk_drewN ?_ _ | refine blk_drew ?_ | refine blk_alloc ?_ _)); exact BK1061.out) Try.underlying69 rfl (by kernel_rfl)) rfl ?_
                    exact ⟨by first | rfl | (simp [errW_none, errW_some] <;> rfl) | (simp only [← hji13, ← hji16]; first | rfl | (simp [errW_none, errW_some] <;> rfl)) | (simp [*, errW_none, errW_some] <;> rfl), (by first | exact be1 HB.out GE1061.out | exact be HB.out)⟩
                   ·rw [if_neg c23] at H
                    have c23b0 : ((wrap64 ((rd (rd_L4 l2 (ji13)) (ji16)) + 1)) == (rd (rd_L4 l2 a3) a4)) = false := beq_eq_false_iff_ne.mpr c23
                    have c23b1 : ((wrap64 ((rd (rd_L4 l2 (ji13)) (ji16)) + 1)) != (rd (rd_L4 l2 a3) a4)) = true := bne_iff_ne.mpr c23
                    have H' := Aside0.mk H
                    clear H
                    have p1062 : 0 ≤ (x11_1 : Int) := oda
                    have q1062 : x11_1 < (l0.length : Int) := oda
                    obtain ⟨ad1062, e1062, hx1062_0⟩ := Kd.at_string (Kd.C_below HR0.out HB.out) x11_1 p1062 q1062
                    cases e1062
                    replace p1062 := eq_true p1062
                    replace q1062 := eq_true q1062
                    have p1063 : 0 ≤ (x12_2 : Int) := oda
                    have q1063 : x12_2 < (l1.length : Int) := oda
                    obtain ⟨ad1063, e1063, hx1063_0⟩ := Kd.at_string (Kd.C_below HR1.out HB.out) x12_2 p1063 q1063
                    cases e1063
                    replace p1063 := eq_true p1063
                    replace q1063 := eq_true q1063
                    have p1064 : 0 ≤ ((ji13) : Int) := oda
                    have q1064 : (ji13) < (l2.length : Int) := oda
                    obtain ⟨ad1064, A1064_0, c1064_0, e1064, hx1064_0, hl1064_0, hi1064_0⟩ := at_L4 HR2.out (ji13) p1064 q1064
                    cases e1064
                    replace hx1064_0 := pw_cell_below HB.out hx1064_0
                    have HR1064_0 := Aside0.mk hi1064_0
                    have HC1064_0 := Aside0.mk hl1064_0
                    clear hi1064_0 hl1064_0
                    replace p1064 := eq_true p1064
                    replace q1064 := eq_true q1064
                    have p1065 : 0 ≤ ((ji16) : Int) := oda
                    have q1065 : (ji16) < ((rd_L4 l2 (ji13)).length : Int) := oda
                    obtain ⟨ad1065, e1065, hx1065_0⟩ := Kd.at_int (Kd.C_below HR1064_0.out HB.out) (ji16) p1065 q1065
                    cases e1065
                    replace p1065 := eq_true p1065
                    replace q1065 := eq_true q1065
                    have p1066 : 0 ≤ (a3 : Int) := oda
                    have q1066 : a3 < (l2.length : Int) := oda
                    obtain ⟨ad1066, A1066_0, c1066_0, e1066, hx1066_0, hl1066_0, hi1066_0⟩ := at_L4 HR2.out a3 p1066 q1066
                    obtain rfl : ad1064 = ad1066 := (by injection e1066)
                    replace hx1066_0 := pw_cell_below HB.out hx1066_0
                    have HR1066_0 := Aside0.mk hi1066_0
                    have HC1066_0 := Aside0.mk hl1066_0
                    clear hi1066_0 hl1066_0
                    replace p1066 := eq_true p1066
                    replace q1066 := eq_true q1066
                    have p1067 : 0 ≤ (a4 : Int) := oda
                    have q1067 : a4 < ((rd_L4 l2 a3).length : Int) := oda
                    obtain ⟨ad1067, e1067, hx1067_0⟩ := Kd.at_int (Kd.C_below HR1066_0.out HB.out) a4 p1067 q1067
                    cases e1067
                    replace p1067 := eq_true p1067
                    replace q1067 := eq_true q1067
                    go_wp2
                    repeat (go_quiet (fail); try go_wp2)
                    go_roundg k2
                    case measure => have := HK1.out; have := HK2.out; omega
                    case rel => exact ⟨(ji16), (x1062000_2), (x1062001_2), (by first | rfl | (simp; done) | (simp only [← hji16] <;> (first | rfl | simp)) | (simp [*]; done)), (by first | exact H' | (subst hji16; exact H') | (simp only [← hji16] at H' ⊢; exact H')), ⟨by have := HK1.out; have := HK2.out; omega⟩, ⟨bk BK1061.out⟩, ⟨be1 HB.out GE1061.out⟩⟩
                  ·rw [if_neg c22] at H
                   exact absurd H (by simp)
                 ·rw [if_neg c21] at H
                  exact absurd H (by simp)
                ·rw [if_neg c20] at H
                 exact absurd H (by simp)
               ·rw [if_neg c19] at H
                exact absurd H (by simp)
              ·rw [if_neg c18] at H
               exact absurd H (by simp)
             ·rw [if_neg c17] at H
              exact absurd H (by simp)
            ·rw [if_neg c15] at H
             exact absurd H (by simp)
           ·rw [if_neg c14] at H
            exact absurd H (by simp)
          ·rw [if_neg c12] at H
           have c12b0 : ((rdOf ByteArray.empty l0 x11_1).toList == (rdOf ByteArray.empty l1 x12_2).toList) = false := beq_eq_false_iff_ne.mpr c12
           have c12b1 : ((rdOf ByteArray.empty l0 x11_1).toList != (rdOf ByteArray.empty l1 x12_2).toList) = true := bne_iff_ne.mpr c12
           have H' := Aside0.mk H
           clear H
           have p1062 : 0 ≤ (x11_1 : Int) := oda
           have q1062 : x11_1 < (l0.length : Int) := oda
           obtain ⟨ad1062, e1062, hx1062_0⟩ := Kd.at_string (Kd.C_below HR0.out HB.out) x11_1 p1062 q1062
           cases e1062
           replace p1062 := eq_true p1062
           replace q1062 := eq_true q1062
           have p1063 : 0 ≤ (x12_2 : Int) := oda
           have q1063 : x12_2 < (l1.length : Int) := oda
           obtain ⟨ad1063, e1063, hx1063_0⟩ := Kd.at_string (Kd.C_below HR1.out HB.out) x12_2 p1063 q1063
           cases e1063
           replace p1063 := eq_true p1063
           replace q1063 := eq_true q1063
           go_wp2
           repeat (go_quiet (fail); try go_wp2)
           go_roundg k2
           case measure => have := HK1.out; have := HK2.out; omega
           case rel => exact ⟨(wrap64 (x12_2 + 1)), (x1062000_2), (x1062001_2), Ye1, H', ⟨by have := HK1.out; have := HK2.out; omega⟩, ⟨bk BK1061.out⟩, ⟨be1 HB.out GE1061.out⟩⟩
         ·rw [if_neg c11] at H
          exact absurd H (by simp)
        ·rw [if_neg c10] at H
         exact absurd H (by simp)
       ·rw [if_neg c9] at H
        exact absurd H (by simp)
      ·rw [if_neg c8] at H
       have c8b0 : decide (x12_2 < (l1.length : Int)) = false := decide_eq_false c8
       clear c8
       have H' := Aside0.mk H
       clear H
       go_wp2
       repeat (go_quiet (fail); try go_wp2)
       go_roundg k2
       case measure => have := HK1.out; have := HK2.out; omega
       case rel => exact ⟨(wrap64 (x11_1 + 1)), (x1062000_2), (x1062001_2), Ye1, H', ⟨by have := HK1.out; have := HK2.out; omega⟩, ⟨bk BK1061.out⟩, ⟨be1 HB.out GE1061.out⟩⟩
   ·rw [if_neg c7] at H
    have c7b0 : decide (x11_1 < (l0.length : Int)) = false := decide_eq_false c7
    clear c7
    simp only [Option.some.injEq, Prod.mk.injEq] at H
    obtain ⟨rfl, rfl⟩ := H
    have ⟨hcz25_0, hcz25_1, hfz25_0, hfz25_1⟩ := Yc2 BK1061.out
    go_wp2
    repeat (go_quiet (fail); try go_wp2)
    refine bodyPost_ret (results_cell_row rfl _ _ gb1061 69 #[.int .i64 0, .int .i64 0] (0, 0) _ rfl (by (with_reducible repeat (first | refine blk_drewN ?_ _ | refine blk_drew ?_ | refine blk_alloc ?_ _)); refine blk_put (cs := #[.int .i64 0, .int .i64 x1062001_1]) ?_ 1 _ rfl; (with_reducible repeat (first | refine blk_drewN ?_ _ | refine blk_drew ?_ | refine blk_alloc ?_ _)); refine blk_put (cs := #[.int .i64 x1062000_1, .int .i64 x1062001_1]) ?_ 0 _ rfl; (with_reducible repeat (first | refine blk_drewN ?_ _ | refine blk_drew ?_ | refine blk_alloc ?_ _)); exact BK1061.out) Try.underlying69 rfl (by kernel_rfl)) rfl ?_
    exact ⟨Ye2, (by first | exact be1 HB.out GE1061.out | exact be HB.out)⟩

end Go.Proofs.Ytnndpbkcldkbgaa.P
