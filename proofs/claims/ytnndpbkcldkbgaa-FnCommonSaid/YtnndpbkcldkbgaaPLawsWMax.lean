-- Printed for this claim by a small program of this session (kprint.py), which drives the kit's print program.
import Derived.Test.YtnndpbkcldkbgaaP0
import Derived.Test.YtnndpbkcldkbgaaSqueeze
namespace Go.Proofs.Ytnndpbkcldkbgaa.P
open Go.RowKit Go.Proofs.YtnndpbkcldkbgaaW.PrintWords Go.Proofs.YtnndpbkcldkbgaaW.PrintLast Go.Proofs.YtnndpbkcldkbgaaW.PrintMore
attribute [local go_sem] max2_int min2_int max_two min_two max_three min_three max_four min_four
set_option linter.unusedVariables false
set_option linter.unusedSimpArgs false

/-! ### laws_wMax: function 47 -/
mutual
def laws_wMax.l0 : Nat → List ByteArray → List ByteArray → List Int → Int → Option (Int)
 | 0, _, _, _, _ => none
 | k + 1, x0, x1, x5, x6 => if x6 < (x0.length : Int) then (laws_wMax.l1 k x0 x1 x5 x6 0 0) else (if 0 ≤ (x1.length : Int) then (if (x1.length : Int) < (x5.length : Int) then (some (rd x5 (x1.length : Int))) else (none)) else (none))
def laws_wMax.l1 : Nat → List ByteArray → List ByteArray → List Int → Int → Int → Int → Option (Int)
 | 0, _, _, _, _, _, _ => none
 | k + 1, x0, x1, x5, x6, x7, x8 => if x8 < (x1.length : Int) then (if 0 ≤ (wrap64 (x8 + 1)) then (if (wrap64 (x8 + 1)) < (x5.length : Int) then (if 0 ≤ x6 then (if x6 < (x0.length : Int) then (if 0 ≤ x8 then (if (rdOf ByteArray.empty x0 x6).toList = (rdOf ByteArray.empty x1 x8).toList then (laws_wMax.l1 k x0 x1 (x5.set ((wrap64 (x8 + 1)) : Int).toNat (wrap64 (x7 + 1))) x6 (rd x5 (wrap64 (x8 + 1))) (wrap64 (x8 + 1))) else (if x8 < (x5.length : Int) then (if (rd x5 x8) > (rd x5 (wrap64 (x8 + 1))) then (laws_wMax.l1 k x0 x1 (x5.set ((wrap64 (x8 + 1)) : Int).toNat (rd x5 x8)) x6 (rd x5 (wrap64 (x8 + 1))) (wrap64 (x8 + 1))) else (laws_wMax.l1 k x0 x1 x5 x6 (rd x5 (wrap64 (x8 + 1))) (wrap64 (x8 + 1)))) else (none))) else (none)) else (none)) else (none)) else (none)) else (none)) else (laws_wMax.l0 k x0 x1 x5 (wrap64 (x6 + 1)))
end
def laws_wMax.f (k : Nat) (l0 : List ByteArray) (l1 : List ByteArray) : Option (Int) := if 0 ≤ (wrap64 ((l1.length : Int) + 1)) then (if (wrap64 ((l1.length : Int) + 1) : Int).toNat ≤ 35184372088832 then (laws_wMax.l0 k l0 l1 (List.replicate (wrap64 ((l1.length : Int) + 1) : Int).toNat 0) 0) else (none)) else (none)
theorem laws_wMax.mono_l : ∀ k, (∀ y0 y1 y2 y3, LeO (laws_wMax.l0 k y0 y1 y2 y3) (laws_wMax.l0 (k + 1) y0 y1 y2 y3)) ∧ (∀ y0 y1 y2 y3 y4 y5, LeO (laws_wMax.l1 k y0 y1 y2 y3 y4 y5) (laws_wMax.l1 (k + 1) y0 y1 y2 y3 y4 y5))
 | 0 => ⟨fun _ _ _ _ r h => by simp [laws_wMax.l0] at h, fun _ _ _ _ _ _ r h => by simp [laws_wMax.l1] at h⟩
 | k + 1 => by
  obtain ⟨ih0, ih1⟩ := laws_wMax.mono_l k
  refine ⟨?_, ?_⟩
  ·intro y0 y1 y2 y3
   unfold laws_wMax.l0
   repeat' first
   | (with_reducible exact ih0 _ _ _ _)
   | (with_reducible exact ih1 _ _ _ _ _ _)
   | (with_reducible exact LeO.refl _)
   | (with_reducible exact LeO.none _)
   | (with_reducible refine LeO.ite ?_ ?_)
   | (with_reducible refine LeO.bind ?_ (fun _ => ?_))
   | exact ih0 _ _ _ _
   | exact ih1 _ _ _ _ _ _
   | exact LeO.none _
   | refine LeO.ite ?_ ?_
   | refine LeO.bind ?_ (fun _ => ?_)
  ·intro y0 y1 y2 y3 y4 y5
   unfold laws_wMax.l1
   repeat' first
   | (with_reducible exact ih0 _ _ _ _)
   | (with_reducible exact ih1 _ _ _ _ _ _)
   | (with_reducible exact LeO.refl _)
   | (with_reducible exact LeO.none _)
   | (with_reducible refine LeO.ite ?_ ?_)
   | (with_reducible refine LeO.bind ?_ (fun _ => ?_))
   | exact ih0 _ _ _ _
   | exact ih1 _ _ _ _ _ _
   | exact LeO.none _
   | refine LeO.ite ?_ ?_
   | refine LeO.bind ?_ (fun _ => ?_)
theorem laws_wMax.mono : ∀ a0 a1 k, LeO (laws_wMax.f k a0 a1) (laws_wMax.f (k + 1) a0 a1) := by
 intro a0 a1 k
 obtain ⟨ih0, ih1⟩ := laws_wMax.mono_l k
 unfold laws_wMax.f
 repeat' first
   | (with_reducible exact ih0 _ _ _ _)
   | (with_reducible exact ih1 _ _ _ _ _ _)
   | (with_reducible exact LeO.refl _)
   | (with_reducible exact LeO.none _)
   | (with_reducible refine LeO.ite ?_ ?_)
   | (with_reducible refine LeO.bind ?_ (fun _ => ?_))
   | exact ih0 _ _ _ _
   | exact ih1 _ _ _ _ _ _
   | exact LeO.none _
   | refine LeO.ite ?_ ?_
   | refine LeO.bind ?_ (fun _ => ?_)
set_option maxHeartbeats 8000000 in
set_option maxRecDepth 100000 in
theorem laws_wMax.calls (k : Nat) (A0 : Option Addr) (c0 : Nat) (l0 : List ByteArray) (A1 : Option Addr) (c1 : Nat) (l1 : List ByteArray) (r : Int) (w : World) (hr0 : Kd.C Kd.string w A0 l0.length l0) (hc0 : l0.length ≤ c0) (hr1 : Kd.C Kd.string w A1 l1.length l1) (hc1 : l1.length ≤ c1) (h : laws_wMax.f k l0 l1 = some r) :
  Calls Try.prog 47 #[.slice A0 l0.length c0, .slice A1 l1.length c1] w fun e w' => e = .returned (.int .i64 r) ∧ Below w.heap.size w w' := by
 have HR0 := Aside0.mk hr0
 have HC0 := Aside0.mk hc0
 clear hr0 hc0
 have HR1 := Aside0.mk hr1
 have HC1 := Aside0.mk hc1
 clear hr1 hc1
 have HB := Aside0.mk (Below.refl w.heap.size w)
 have H : (if 0 ≤ (wrap64 ((l1.length : Int) + 1)) then (if (wrap64 ((l1.length : Int) + 1) : Int).toNat ≤ 35184372088832 then (laws_wMax.l0 k l0 l1 (List.replicate (wrap64 ((l1.length : Int) + 1) : Int).toNat 0) 0) else (none)) else (none)) = some r := h
 clear h
 obtain ⟨ji3, hji3⟩ : ∃ j_ : Int, (wrap64 ((l1.length : Int) + 1)) = j_ := ⟨_, rfl⟩
 replace H : (if 0 ≤ (ji3) then (if (ji3 : Int).toNat ≤ 35184372088832 then (laws_wMax.l0 k l0 l1 (List.replicate (ji3 : Int).toNat 0) 0) else (none)) else (none)) = some r := by first | (rw [hji3] at H; exact H) | (simp only [hji3] at H ⊢; exact H)
 have hji3w : (IntKind.i64.wrap ((l1.length : Int) + 1)) = ji3 := (i64_w _).trans hji3
 by_cases c4 : 0 ≤ (ji3)
 ·rw [if_pos c4] at H
  have c4b0 := eq_true c4
  have c4b1 : decide (0 ≤ (ji3)) = true := decide_eq_true c4
  clear c4
  by_cases c5 : (ji3 : Int).toNat ≤ 35184372088832
  ·rw [if_pos c5] at H
   have c5b0 := eq_true c5
   have c5b1 : decide ((ji3 : Int).toNat ≤ 35184372088832) = true := decide_eq_true c5
   clear c5
   obtain ⟨y1181, hy1181⟩ : ∃ y_ : List Int, y_ = (List.replicate (ji3 : Int).toNat 0) := ⟨_, rfl⟩
   replace H : (laws_wMax.l0 k l0 l1 y1181 0) = some r := by first | (rw [hy1181]; with_reducible exact H) | (have H2_ := (Option.bind_some _ _).symm.trans H; rw [hy1181]; with_reducible exact H2_) | (have H2_ := (Option.bind_some _ _).symm.trans H; with_reducible exact H2_) | with_reducible exact H | (rw [hy1181]; exact H) | exact H
   have Ny1181 := Aside0.mk hy1181
   clear hy1181
   have H' := Aside0.mk H
   clear H
   go_enter Try.func47, Try.ntmps47
   go_wp2_with (first | ((with_reducible refine gd 13 rfl ?_); refine Kd.R_make (Kd.int .i64) _ 3 rfl (N := 13) rfl 77 _ _ rfl ji3 rfl rfl Try.underlying77 (.int .i64 0) 8 info3 rfl (by decide) (by omega) 0 (ok := fun _ => True) (okp := fun _ => True) rfl (fun _ hk => hk) trivial (oda) (Nat.le_trans (Nat.mul_le_mul_right _ (oda : ji3.toNat ≤ 35184372088832)) (by omega)) (Below.refl _ _) (Nat.le_refl _) ?_; intro v1182 w6 ho7 hb hg_ hnew_; clear hg_ hnew_; (first | rw [← Ny1181.out] at ho7 | (simp only [Int.reduceToNat] at ho7; rw [← Ny1181.out] at ho7)); refine Ya2 (Kd.R_lower ho7 (below_size (be HB.out))) (below_step (be HB.out) hb) ?_; clear HB; intro HO1183 HB; clear hb ho7))
   repeat (go_quiet (first | ((with_reducible refine gd 13 rfl ?_); refine Kd.R_make (Kd.int .i64) _ 3 rfl (N := 13) rfl 77 _ _ rfl ji3 rfl rfl Try.underlying77 (.int .i64 0) 8 info3 rfl (by decide) (by omega) 0 (ok := fun _ => True) (okp := fun _ => True) rfl (fun _ hk => hk) trivial (oda) (Nat.le_trans (Nat.mul_le_mul_right _ (oda : ji3.toNat ≤ 35184372088832)) (by omega)) (Below.refl _ _) (Nat.le_refl _) ?_; intro v1182 w6 ho7 hb hg_ hnew_; clear hg_ hnew_; (first | rw [← Ny1181.out] at ho7 | (simp only [Int.reduceToNat] at ho7; rw [← Ny1181.out] at ho7)); refine Ya2 (Kd.R_lower ho7 (below_size (be HB.out))) (below_step (be HB.out) hb) ?_; clear HB; intro HO1183 HB; clear hb ho7)); try go_wp2_with (first | ((with_reducible refine gd 13 rfl ?_); refine Kd.R_make (Kd.int .i64) _ 3 rfl (N := 13) rfl 77 _ _ rfl ji3 rfl rfl Try.underlying77 (.int .i64 0) 8 info3 rfl (by decide) (by omega) 0 (ok := fun _ => True) (okp := fun _ => True) rfl (fun _ hk => hk) trivial (oda) (Nat.le_trans (Nat.mul_le_mul_right _ (oda : ji3.toNat ≤ 35184372088832)) (by omega)) (Below.refl _ _) (Nat.le_refl _) ?_; intro v1182 w6 ho7 hb hg_ hnew_; clear hg_ hnew_; (first | rw [← Ny1181.out] at ho7 | (simp only [Int.reduceToNat] at ho7; rw [← Ny1181.out] at ho7)); refine Ya2 (Kd.R_lower ho7 (below_size (be HB.out))) (below_step (be HB.out) hb) ?_; clear HB; intro HO1183 HB; clear hb ho7)))
   go_loopg [6] k (fun kq v6 w' => ∃ (x5_1 : List Int) (x6_1 : Int), v6 = .int .i64 x6_1 ∧ Aside0 (laws_wMax.l0 kq l0 l1 x5_1 x6_1 = some r) ∧ Aside0 (kq ≤ k) ∧ Aside0 (Kd.R (Kd.int .i64) 3 w' w.heap.size (fun _ => True) v1182 x5_1) ∧ Aside0 (Below w.heap.size w w'))
   case atStart => exact ⟨(y1181), (0), Ye1, H', ⟨Nat.le_refl _⟩, ⟨kr HO1183.out⟩, ⟨be HB.out⟩⟩
   case round =>
    clear H'
    try clear c1
    try clear p2
    try clear c4
    try clear c4b0
    try clear c4b1
    try clear c5
    try clear c5b0
    try clear c5b1
    try clear p6
    obtain ⟨x5_1, x6_1, rfl, HA, HK1, HO_5, HB⟩ := hrel
    cases gk with
    | zero => exact absurd HA.out (by simp [laws_wMax.l0])
    | succ k1 =>
     have H := HA.out
     clear HA
     simp only [laws_wMax.l0] at H
     by_cases c8 : x6_1 < (l0.length : Int)
     ·rw [if_pos c8] at H
      have c8b0 : decide (x6_1 < (l0.length : Int)) = true := decide_eq_true c8
      clear c8
      have H' := Aside0.mk H
      clear H
      go_wp2
      repeat (go_quiet (fail); try go_wp2)
      go_loopg [7, 8] k1 (fun kq v7 v8 w' => ∃ (x5_2 : List Int) (x7_2 : Int) (x8_2 : Int), v7 = .int .i64 x7_2 ∧ v8 = .int .i64 x8_2 ∧ Aside0 (laws_wMax.l1 kq l0 l1 x5_2 x6_1 x7_2 x8_2 = some r) ∧ Aside0 (kq ≤ k1) ∧ Aside0 (Kd.R (Kd.int .i64) 3 w' w.heap.size (fun _ => True) v1182 x5_2) ∧ Aside0 (Below w.heap.size w w'))
      case atStart => exact ⟨(x5_1), (0), (0), Ye1, Ye1, H', ⟨Nat.le_refl _⟩, ⟨kr HO_5.out⟩, ⟨be HB.out⟩⟩
      case round =>
       clear H'
       try clear c1
       try clear p2
       try clear c4
       try clear c4b0
       try clear c4b1
       try clear c5
       try clear c5b0
       try clear c5b1
       try clear p6
       try clear c8
       try clear c8b0
       try clear p2
       try clear p6
       obtain ⟨x5_2, x7_2, x8_2, rfl, rfl, HA, HK2, HO_5, HB⟩ := hrel
       cases gk with
       | zero => exact absurd HA.out (by simp [laws_wMax.l1])
       | succ k2 =>
        have H := HA.out
        clear HA
        simp only [laws_wMax.l1] at H
        by_cases c9 : x8_2 < (l1.length : Int)
        ·rw [if_pos c9] at H
         have c9b0 : decide (x8_2 < (l1.length : Int)) = true := decide_eq_true c9
         clear c9
         obtain ⟨ji10, hji10⟩ : ∃ j_ : Int, (wrap64 (x8_2 + 1)) = j_ := ⟨_, rfl⟩
         replace H : (if 0 ≤ (ji10) then (if (ji10) < (x5_2.length : Int) then (if 0 ≤ x6_1 then (if x6_1 < (l0.length : Int) then (if 0 ≤ x8_2 then (if (rdOf ByteArray.empty l0 x6_1).toList = (rdOf ByteArray.empty l1 x8_2).toList then (laws_wMax.l1 k2 l0 l1 (x5_2.set ((ji10) : Int).toNat (wrap64 (x7_2 + 1))) x6_1 (rd x5_2 (ji10)) ji10) else (if x8_2 < (x5_2.length : Int) then (if (rd x5_2 x8_2) > (rd x5_2 (ji10)) then (laws_wMax.l1 k2 l0 l1 (x5_2.set ((ji10) : Int).toNat (rd x5_2 x8_2)) x6_1 (rd x5_2 (ji10)) ji10) else (laws_wMax.l1 k2 l0 l1 x5_2 x6_1 (rd x5_2 (ji10)) ji10)) else (none))) else (none)) else (none)) else (none)) else (none)) else (none)) = some r := by first | (rw [hji10] at H; exact H) | (simp only [hji10] at H ⊢; exact H)
         have hji10w : (IntKind.i64.wrap (x8_2 + 1)) = ji10 := (i64_w _).trans hji10
         by_cases c11 : 0 ≤ (ji10)
         ·rw [if_pos c11] at H
          have c11b0 : decide (0 ≤ (ji10)) = true := decide_eq_true c11
          clear c11
          by_cases c12 : (ji10) < (x5_2.length : Int)
          ·rw [if_pos c12] at H
           have c12b0 : decide ((ji10) < (x5_2.length : Int)) = true := decide_eq_true c12
           clear c12
           by_cases c13 : 0 ≤ x6_1
           ·rw [if_pos c13] at H
            have c13b0 : decide (0 ≤ x6_1) = true := decide_eq_true c13
            clear c13
            by_cases c14 : x6_1 < (l0.length : Int)
            ·rw [if_pos c14] at H
             have c14b0 : decide (x6_1 < (l0.length : Int)) = true := decide_eq_true c14
             clear c14
             by_cases c15 : 0 ≤ x8_2
             ·rw [if_pos c15] at H
              have c15b0 : decide (0 ≤ x8_2) = true := decide_eq_true c15
              clear c15
              by_cases c16 : (rdOf ByteArray.empty l0 x6_1).toList = (rdOf ByteArray.empty l1 x8_2).toList
              ·rw [if_pos c16] at H
               have c16b0 : ((rdOf ByteArray.empty l0 x6_1).toList == (rdOf ByteArray.empty l1 x8_2).toList) = true := beq_iff_eq.mpr c16
               have c16b1 : ((rdOf ByteArray.empty l0 x6_1).toList != (rdOf ByteArray.empty l1 x8_2).toList) = false := bne_eq_false_iff_eq.mpr c16
               clear c16
               obtain ⟨y1188, hy1188⟩ : ∃ y_ : List Int, y_ = (x5_2.set ((ji10) : Int).toNat (wrap64 (x7_2 + 1))) := ⟨_, rfl⟩
               replace H : (laws_wMax.l1 k2 l0 l1 y1188 x6_1 (rd x5_2 (ji10)) ji10) = some r := by first | (rw [hy1188]; with_reducible exact H) | (have H2_ := (Option.bind_some _ _).symm.trans H; rw [hy1188]; with_reducible exact H2_) | (have H2_ := (Option.bind_some _ _).symm.trans H; with_reducible exact H2_) | with_reducible exact H | (rw [hy1188]; exact H) | exact H
               have Ny1188 := Aside0.mk hy1188
               clear hy1188
               have H' := Aside0.mk H
               clear H
               obtain ⟨Ao18, co18, eo18⟩ := Kd.R_slice HO_5.out
               subst eo18
               have p1185 : 0 ≤ ((ji10) : Int) := oda
               have q1185 : (ji10) < (x5_2.length : Int) := oda
               obtain ⟨ad1185, e1185, hx1185_0⟩ := Kd.at_int (Kd.R_reads' HO_5.out).2.2 (ji10) p1185 q1185
               cases e1185
               replace p1185 := eq_true p1185
               replace q1185 := eq_true q1185
               have p1186 : 0 ≤ (x6_1 : Int) := oda
               have q1186 : x6_1 < (l0.length : Int) := oda
               obtain ⟨ad1186, e1186, hx1186_0⟩ := Kd.at_string (Kd.C_below HR0.out HB.out) x6_1 p1186 q1186
               cases e1186
               replace p1186 := eq_true p1186
               replace q1186 := eq_true q1186
               have p1187 : 0 ≤ (x8_2 : Int) := oda
               have q1187 : x8_2 < (l1.length : Int) := oda
               obtain ⟨ad1187, e1187, hx1187_0⟩ := Kd.at_string (Kd.C_below HR1.out HB.out) x8_2 p1187 q1187
               cases e1187
               replace p1187 := eq_true p1187
               replace q1187 := eq_true q1187
               have p17 : 0 ≤ ((ji10) : Int) := oda
               have q17 : ((ji10) : Int) < ((x5_2.length : Int) : Int) := oda
               obtain ⟨go17, co17, eo17, gb17, gl17, cl17, HG17⟩ := Kd.R_form HO_5.out (by omega)
               (first | cases eo17 | (injection eo17 with ea_ en_ ec_; (first | subst ea_ | (injection ea_ with ea_; subst ea_)); subst ec_; clear en_))
               have GB17 := Aside0.mk gb17
               have GG17 := Aside0.mk HG17
               clear gb17 gl17 HG17
               (first | simp only [add_plain] at hx1185_0 | skip)
               obtain ⟨hx17_0, hf17_0⟩ := Kd.R_celln 0 HO_5.out ((ji10) : Int) p17 q17
               replace p17 := eq_true p17
               replace q17 := eq_true q17
               have HP19 := Kd.R_putg HO_5.out ((ji10) : Int) (wrap64 (x7_2 + 1))
               go_wp2
               repeat (go_quiet (fail); try go_wp2)
               go_roundg k2
               case measure => have := HK1.out; have := HK2.out; omega
               case rel => exact ⟨(y1188), (rd x5_2 (ji10)), (ji10), (by first | rfl | (simp; done) | (simp only [← hji10] <;> (first | rfl | simp)) | (simp [*]; done)), (by first | rfl | (simp; done) | (simp only [← hji10] <;> (first | rfl | simp)) | (simp [*]; done)), (by first | exact H' | (subst hji10; exact H') | (simp only [← hji10] at H' ⊢; exact H')), ⟨by have := HK1.out; have := HK2.out; omega⟩, ⟨by rw [Ny1188.out]; exact Kd.R_drewN HP19.1 nq⟩, ⟨below_set (pw_below_drewN HB.out _) GB17.out⟩⟩
              ·rw [if_neg c16] at H
               have c16b0 : ((rdOf ByteArray.empty l0 x6_1).toList == (rdOf ByteArray.empty l1 x8_2).toList) = false := beq_eq_false_iff_ne.mpr c16
               have c16b1 : ((rdOf ByteArray.empty l0 x6_1).toList != (rdOf ByteArray.empty l1 x8_2).toList) = true := bne_iff_ne.mpr c16
               by_cases c21 : x8_2 < (x5_2.length : Int)
               ·rw [if_pos c21] at H
                have c21b0 : decide (x8_2 < (x5_2.length : Int)) = true := decide_eq_true c21
                clear c21
                by_cases c22 : (rd x5_2 x8_2) > (rd x5_2 (ji10))
                ·rw [if_pos c22] at H
                 have c22b0 : decide ((rd x5_2 (ji10)) < (rd x5_2 x8_2)) = true := decide_eq_true c22
                 clear c22
                 obtain ⟨y1191, hy1191⟩ : ∃ y_ : List Int, y_ = (x5_2.set ((ji10) : Int).toNat (rd x5_2 x8_2)) := ⟨_, rfl⟩
                 replace H : (laws_wMax.l1 k2 l0 l1 y1191 x6_1 (rd x5_2 (ji10)) ji10) = some r := by first | (rw [hy1191]; with_reducible exact H) | (have H2_ := (Option.bind_some _ _).symm.trans H; rw [hy1191]; with_reducible exact H2_) | (have H2_ := (Option.bind_some _ _).symm.trans H; with_reducible exact H2_) | with_reducible exact H | (rw [hy1191]; exact H) | exact H
                 have Ny1191 := Aside0.mk hy1191
                 clear hy1191
                 have H' := Aside0.mk H
                 clear H
                 obtain ⟨Ao24, co24, eo24⟩ := Kd.R_slice HO_5.out
                 subst eo24
                 have p1185 : 0 ≤ ((ji10) : Int) := oda
                 have q1185 : (ji10) < (x5_2.length : Int) := oda
                 obtain ⟨ad1185, e1185, hx1185_0⟩ := Kd.at_int (Kd.R_reads' HO_5.out).2.2 (ji10) p1185 q1185
                 cases e1185
                 replace p1185 := eq_true p1185
                 replace q1185 := eq_true q1185
                 have p1186 : 0 ≤ (x6_1 : Int) := oda
                 have q1186 : x6_1 < (l0.length : Int) := oda
                 obtain ⟨ad1186, e1186, hx1186_0⟩ := Kd.at_string (Kd.C_below HR0.out HB.out) x6_1 p1186 q1186
                 cases e1186
                 replace p1186 := eq_true p1186
                 replace q1186 := eq_true q1186
                 have p1187 : 0 ≤ (x8_2 : Int) := oda
                 have q1187 : x8_2 < (l1.length : Int) := oda
                 obtain ⟨ad1187, e1187, hx1187_0⟩ := Kd.at_string (Kd.C_below HR1.out HB.out) x8_2 p1187 q1187
                 cases e1187
                 replace p1187 := eq_true p1187
                 replace q1187 := eq_true q1187
                 have p1189 : 0 ≤ (x8_2 : Int) := oda
                 have q1189 : x8_2 < (x5_2.length : Int) := oda
                 obtain ⟨ad1189, e1189, hx1189_0⟩ := Kd.at_int (Kd.R_reads' HO_5.out).2.2 x8_2 p1189 q1189
                 obtain rfl : ad1185 = ad1189 := (by injection e1189)
                 replace p1189 := eq_true p1189
                 replace q1189 := eq_true q1189
                 have p1190 : 0 ≤ (x8_2 : Int) := oda
                 have q1190 : x8_2 < (x5_2.length : Int) := oda
                 obtain ⟨ad1190, e1190, hx1190_0⟩ := Kd.at_int (Kd.R_reads' HO_5.out).2.2 x8_2 p1190 q1190
                 obtain rfl : ad1185 = ad1190 := (by injection e1190)
                 replace p1190 := eq_true p1190
                 replace q1190 := eq_true q1190
                 have p23 : 0 ≤ ((ji10) : Int) := oda
                 have q23 : ((ji10) : Int) < ((x5_2.length : Int) : Int) := oda
                 obtain ⟨go23, co23, eo23, gb23, gl23, cl23, HG23⟩ := Kd.R_form HO_5.out (by omega)
                 (first | cases eo23 | (injection eo23 with ea_ en_ ec_; (first | subst ea_ | (injection ea_ with ea_; subst ea_)); subst ec_; clear en_))
                 have GB23 := Aside0.mk gb23
                 have GG23 := Aside0.mk HG23
                 clear gb23 gl23 HG23
                 (first | simp only [add_plain] at hx1185_0 | skip)
                 (first | simp only [add_plain] at hx1189_0 | skip)
                 (first | simp only [add_plain] at hx1190_0 | skip)
                 obtain ⟨hx23_0, hf23_0⟩ := Kd.R_celln 0 HO_5.out ((ji10) : Int) p23 q23
                 replace p23 := eq_true p23
                 replace q23 := eq_true q23
                 have HP25 := Kd.R_putg HO_5.out ((ji10) : Int) (rd x5_2 x8_2)
                 go_wp2
                 repeat (go_quiet (fail); try go_wp2)
                 go_roundg k2
                 case measure => have := HK1.out; have := HK2.out; omega
                 case rel => exact ⟨(y1191), (rd x5_2 (ji10)), (ji10), (by first | rfl | (simp; done) | (simp only [← hji10] <;> (first | rfl | simp)) | (simp [*]; done)), (by first | rfl | (simp; done) | (simp only [← hji10] <;> (first | rfl | simp)) | (simp [*]; done)), (by first | exact H' | (subst hji10; exact H') | (simp only [← hji10] at H' ⊢; exact H')), ⟨by have := HK1.out; have := HK2.out; omega⟩, ⟨by rw [Ny1191.out]; exact Kd.R_drewN HP25.1 nq⟩, ⟨below_set (pw_below_drewN HB.out _) GB23.out⟩⟩
                ·rw [if_neg c22] at H
                 have c22b0 : decide ((rd x5_2 (ji10)) < (rd x5_2 x8_2)) = false := decide_eq_false c22
                 clear c22
                 have H' := Aside0.mk H
                 clear H
                 obtain ⟨Ao27, co27, eo27⟩ := Kd.R_slice HO_5.out
                 subst eo27
                 have p1185 : 0 ≤ ((ji10) : Int) := oda
                 have q1185 : (ji10) < (x5_2.length : Int) := oda
                 obtain ⟨ad1185, e1185, hx1185_0⟩ := Kd.at_int (Kd.R_reads' HO_5.out).2.2 (ji10) p1185 q1185
                 cases e1185
                 replace p1185 := eq_true p1185
                 replace q1185 := eq_true q1185
                 have p1186 : 0 ≤ (x6_1 : Int) := oda
                 have q1186 : x6_1 < (l0.length : Int) := oda
                 obtain ⟨ad1186, e1186, hx1186_0⟩ := Kd.at_string (Kd.C_below HR0.out HB.out) x6_1 p1186 q1186
                 cases e1186
                 replace p1186 := eq_true p1186
                 replace q1186 := eq_true q1186
                 have p1187 : 0 ≤ (x8_2 : Int) := oda
                 have q1187 : x8_2 < (l1.length : Int) := oda
                 obtain ⟨ad1187, e1187, hx1187_0⟩ := Kd.at_string (Kd.C_below HR1.out HB.out) x8_2 p1187 q1187
                 cases e1187
                 replace p1187 := eq_true p1187
                 replace q1187 := eq_true q1187
                 have p1189 : 0 ≤ (x8_2 : Int) := oda
                 have q1189 : x8_2 < (x5_2.length : Int) := oda
                 obtain ⟨ad1189, e1189, hx1189_0⟩ := Kd.at_int (Kd.R_reads' HO_5.out).2.2 x8_2 p1189 q1189
                 obtain rfl : ad1185 = ad1189 := (by injection e1189)
                 replace p1189 := eq_true p1189
                 replace q1189 := eq_true q1189
                 go_wp2
                 repeat (go_quiet (fail); try go_wp2)
                 go_roundg k2
                 case measure => have := HK1.out; have := HK2.out; omega
                 case rel => exact ⟨(x5_2), (rd x5_2 (ji10)), (ji10), (by first | rfl | (simp; done) | (simp only [← hji10] <;> (first | rfl | simp)) | (simp [*]; done)), (by first | rfl | (simp; done) | (simp only [← hji10] <;> (first | rfl | simp)) | (simp [*]; done)), (by first | exact H' | (subst hji10; exact H') | (simp only [← hji10] at H' ⊢; exact H')), ⟨by have := HK1.out; have := HK2.out; omega⟩, ⟨kr HO_5.out⟩, ⟨be HB.out⟩⟩
               ·rw [if_neg c21] at H
                exact absurd H (by simp)
             ·rw [if_neg c15] at H
              exact absurd H (by simp)
            ·rw [if_neg c14] at H
             exact absurd H (by simp)
           ·rw [if_neg c13] at H
            exact absurd H (by simp)
          ·rw [if_neg c12] at H
           exact absurd H (by simp)
         ·rw [if_neg c11] at H
          exact absurd H (by simp)
        ·rw [if_neg c9] at H
         have c9b0 : decide (x8_2 < (l1.length : Int)) = false := decide_eq_false c9
         clear c9
         have H' := Aside0.mk H
         clear H
         go_wp2
         repeat (go_quiet (fail); try go_wp2)
         go_roundg k2
         case measure => have := HK1.out; have := HK2.out; omega
         case rel => exact ⟨(x5_2), (wrap64 (x6_1 + 1)), Ye1, H', ⟨by have := HK1.out; have := HK2.out; omega⟩, ⟨kr HO_5.out⟩, ⟨be HB.out⟩⟩
     ·rw [if_neg c8] at H
      have c8b0 : decide (x6_1 < (l0.length : Int)) = false := decide_eq_false c8
      clear c8
      by_cases c28 : 0 ≤ (l1.length : Int)
      ·rw [if_pos c28] at H
       have c28b0 : decide (0 ≤ (l1.length : Int)) = true := decide_eq_true c28
       have c28b1 : decide (0 ≤ l1.length) = true := decide_eq_true (by omega)
       clear c28
       by_cases c29 : (l1.length : Int) < (x5_1.length : Int)
       ·rw [if_pos c29] at H
        have c29b0 : decide ((l1.length : Int) < (x5_1.length : Int)) = true := decide_eq_true c29
        have c29b1 : decide (l1.length < x5_1.length) = true := decide_eq_true (Int.ofNat_lt.mp c29)
        clear c29
        obtain rfl := Option.some.inj H
        obtain ⟨Ao30, co30, eo30⟩ := Kd.R_slice HO_5.out
        subst eo30
        have p1184 : 0 ≤ ((l1.length : Int) : Int) := oda
        have q1184 : (l1.length : Int) < (x5_1.length : Int) := oda
        obtain ⟨ad1184, e1184, hx1184_0⟩ := Kd.at_int (Kd.R_reads' HO_5.out).2.2 (l1.length : Int) p1184 q1184
        cases e1184
        all_goals (try simp only [Int.toNat_natCast] at hx1184_0)
        (try simp only [Go.IntWalk.toNatUp] at hx1184_0)
        replace p1184 := eq_true p1184
        replace q1184 := eq_true q1184
        go_wp2
        repeat (go_quiet (fail); try go_wp2)
        go_ret
        exact ⟨by first | rfl | (simp [errW_none, errW_some] <;> rfl) | (simp only [← hji3]; first | rfl | (simp [errW_none, errW_some] <;> rfl)) | (simp [*, errW_none, errW_some] <;> rfl), be HB.out⟩
       ·rw [if_neg c29] at H
        exact absurd H (by simp)
      ·rw [if_neg c28] at H
       exact absurd H (by simp)
  ·rw [if_neg c5] at H
   exact absurd H (by simp)
 ·rw [if_neg c4] at H
  exact absurd H (by simp)

end Go.Proofs.Ytnndpbkcldkbgaa.P
