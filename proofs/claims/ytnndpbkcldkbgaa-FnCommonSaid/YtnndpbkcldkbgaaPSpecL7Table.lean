-- Printed for this claim by a small program of this session (kprint.py), which drives the kit's print program.
import Derived.Test.YtnndpbkcldkbgaaP0
import Derived.Test.YtnndpbkcldkbgaaSqueeze
namespace Go.Proofs.Ytnndpbkcldkbgaa.P
open Go.RowKit Go.Proofs.YtnndpbkcldkbgaaW.PrintWords Go.Proofs.YtnndpbkcldkbgaaW.PrintLast Go.Proofs.YtnndpbkcldkbgaaW.PrintMore
attribute [local go_sem] max2_int min2_int max_two min_two max_three min_three max_four min_four
set_option linter.unusedVariables false
set_option linter.unusedSimpArgs false

theorem cell_at85 {w w1 : World} {n : Nat} (h : w.drewN n = w1) {a : Addr} {v : Value} (e : w.cell? a = some v) : w1.cell? a = some v := by subst h; exact e
/-! ### spec_l7Table: function 85 -/
mutual
def spec_l7Table.l0 : Nat → List ByteArray → List ByteArray → List (List Int) → Int → Option ((List (List Int)))
 | 0, _, _, _, _ => none
 | k + 1, x0, x1, x5, x6 => if x6 ≥ 0 then (if 0 ≤ (wrap64 ((x1.length : Int) + 1)) then (if (wrap64 ((x1.length : Int) + 1) : Int).toNat ≤ 35184372088832 then (if 0 ≤ x6 then (if x6 < (x5.length : Int) then (spec_l7Table.l1 k x0 x1 (x5.set (x6 : Int).toNat (List.replicate (wrap64 ((x1.length : Int) + 1) : Int).toNat 0)) x6 (wrap64 ((x1.length : Int) - 1))) else (none)) else (none)) else (none)) else (none)) else (some x5)
def spec_l7Table.l1 : Nat → List ByteArray → List ByteArray → List (List Int) → Int → Int → Option ((List (List Int)))
 | 0, _, _, _, _, _ => none
 | k + 1, x0, x1, x5, x6, x7 => if x7 ≥ 0 then (if 0 ≤ (wrap64 (x6 + 1)) then (if (wrap64 (x6 + 1)) < (x5.length : Int) then (if 0 ≤ x7 then (if x7 < ((rd_L4 x5 (wrap64 (x6 + 1))).length : Int) then (if 0 ≤ x6 then (if x6 < (x5.length : Int) then (if 0 ≤ (wrap64 (x7 + 1)) then (if (wrap64 (x7 + 1)) < ((rd_L4 x5 x6).length : Int) then (if (rd (rd_L4 x5 x6) (wrap64 (x7 + 1))) > (rd (rd_L4 x5 (wrap64 (x6 + 1))) x7) then (if x6 < (x0.length : Int) then (if x7 < (x1.length : Int) then (if (rdOf ByteArray.empty x0 x6).toList = (rdOf ByteArray.empty x1 x7).toList then (if (wrap64 (x7 + 1)) < ((rd_L4 x5 (wrap64 (x6 + 1))).length : Int) then (if (wrap64 ((rd (rd_L4 x5 (wrap64 (x6 + 1))) (wrap64 (x7 + 1))) + 1)) > (rd (rd_L4 x5 x6) (wrap64 (x7 + 1))) then (if x7 < ((rd_L4 x5 x6).length : Int) then (spec_l7Table.l1 k x0 x1 (x5.set (x6 : Int).toNat ((rd_L4 x5 x6).set (x7 : Int).toNat (wrap64 ((rd (rd_L4 x5 (wrap64 (x6 + 1))) (wrap64 (x7 + 1))) + 1)))) x6 (wrap64 (x7 - 1))) else (none)) else (if x7 < ((rd_L4 x5 x6).length : Int) then (spec_l7Table.l1 k x0 x1 (x5.set (x6 : Int).toNat ((rd_L4 x5 x6).set (x7 : Int).toNat (rd (rd_L4 x5 x6) (wrap64 (x7 + 1))))) x6 (wrap64 (x7 - 1))) else (none))) else (none)) else (if x7 < ((rd_L4 x5 x6).length : Int) then (spec_l7Table.l1 k x0 x1 (x5.set (x6 : Int).toNat ((rd_L4 x5 x6).set (x7 : Int).toNat (rd (rd_L4 x5 x6) (wrap64 (x7 + 1))))) x6 (wrap64 (x7 - 1))) else (none))) else (none)) else (none)) else (if x6 < (x0.length : Int) then (if x7 < (x1.length : Int) then (if (rdOf ByteArray.empty x0 x6).toList = (rdOf ByteArray.empty x1 x7).toList then (if (wrap64 (x7 + 1)) < ((rd_L4 x5 (wrap64 (x6 + 1))).length : Int) then (if (wrap64 ((rd (rd_L4 x5 (wrap64 (x6 + 1))) (wrap64 (x7 + 1))) + 1)) > (rd (rd_L4 x5 (wrap64 (x6 + 1))) x7) then (if x7 < ((rd_L4 x5 x6).length : Int) then (spec_l7Table.l1 k x0 x1 (x5.set (x6 : Int).toNat ((rd_L4 x5 x6).set (x7 : Int).toNat (wrap64 ((rd (rd_L4 x5 (wrap64 (x6 + 1))) (wrap64 (x7 + 1))) + 1)))) x6 (wrap64 (x7 - 1))) else (none)) else (if x7 < ((rd_L4 x5 x6).length : Int) then (spec_l7Table.l1 k x0 x1 (x5.set (x6 : Int).toNat ((rd_L4 x5 x6).set (x7 : Int).toNat (rd (rd_L4 x5 (wrap64 (x6 + 1))) x7))) x6 (wrap64 (x7 - 1))) else (none))) else (none)) else (if x7 < ((rd_L4 x5 x6).length : Int) then (spec_l7Table.l1 k x0 x1 (x5.set (x6 : Int).toNat ((rd_L4 x5 x6).set (x7 : Int).toNat (rd (rd_L4 x5 (wrap64 (x6 + 1))) x7))) x6 (wrap64 (x7 - 1))) else (none))) else (none)) else (none))) else (none)) else (none)) else (none)) else (none)) else (none)) else (none)) else (none)) else (none)) else (spec_l7Table.l0 k x0 x1 x5 (wrap64 (x6 - 1)))
end
def spec_l7Table.f (k : Nat) (l0 : List ByteArray) (l1 : List ByteArray) : Option ((List (List Int))) := if 0 ≤ (wrap64 ((l0.length : Int) + 1)) then (if (wrap64 ((l0.length : Int) + 1) : Int).toNat ≤ 11728124029610 then ((some (List.replicate (wrap64 ((l0.length : Int) + 1) : Int).toNat [] : List (List Int))).bind fun y1002 => (if 0 ≤ (wrap64 ((l1.length : Int) + 1)) then (if (wrap64 ((l1.length : Int) + 1) : Int).toNat ≤ 35184372088832 then (if 0 ≤ (l0.length : Int) then (if (l0.length : Int) < (y1002.length : Int) then (spec_l7Table.l0 k l0 l1 (y1002.set ((l0.length : Int) : Int).toNat (List.replicate (wrap64 ((l1.length : Int) + 1) : Int).toNat 0)) (wrap64 ((l0.length : Int) - 1))) else (none)) else (none)) else (none)) else (none))) else (none)) else (none)
theorem spec_l7Table.mono_l : ∀ k, (∀ y0 y1 y2 y3, LeO (spec_l7Table.l0 k y0 y1 y2 y3) (spec_l7Table.l0 (k + 1) y0 y1 y2 y3)) ∧ (∀ y0 y1 y2 y3 y4, LeO (spec_l7Table.l1 k y0 y1 y2 y3 y4) (spec_l7Table.l1 (k + 1) y0 y1 y2 y3 y4))
 | 0 => ⟨fun _ _ _ _ r h => by simp [spec_l7Table.l0] at h, fun _ _ _ _ _ r h => by simp [spec_l7Table.l1] at h⟩
 | k + 1 => by
  obtain ⟨ih0, ih1⟩ := spec_l7Table.mono_l k
  refine ⟨?_, ?_⟩
  ·intro y0 y1 y2 y3
   unfold spec_l7Table.l0
   repeat' first
   | (with_reducible exact ih0 _ _ _ _)
   | (with_reducible exact ih1 _ _ _ _ _)
   | (with_reducible exact LeO.refl _)
   | (with_reducible exact LeO.none _)
   | (with_reducible refine LeO.ite ?_ ?_)
   | (with_reducible refine LeO.bind ?_ (fun _ => ?_))
   | exact ih0 _ _ _ _
   | exact ih1 _ _ _ _ _
   | exact LeO.none _
   | refine LeO.ite ?_ ?_
   | refine LeO.bind ?_ (fun _ => ?_)
  ·intro y0 y1 y2 y3 y4
   unfold spec_l7Table.l1
   repeat' first
   | (with_reducible exact ih0 _ _ _ _)
   | (with_reducible exact ih1 _ _ _ _ _)
   | (with_reducible exact LeO.refl _)
   | (with_reducible exact LeO.none _)
   | (with_reducible refine LeO.ite ?_ ?_)
   | (with_reducible refine LeO.bind ?_ (fun _ => ?_))
   | exact ih0 _ _ _ _
   | exact ih1 _ _ _ _ _
   | exact LeO.none _
   | refine LeO.ite ?_ ?_
   | refine LeO.bind ?_ (fun _ => ?_)
theorem spec_l7Table.mono : ∀ a0 a1 k, LeO (spec_l7Table.f k a0 a1) (spec_l7Table.f (k + 1) a0 a1) := by
 intro a0 a1 k
 obtain ⟨ih0, ih1⟩ := spec_l7Table.mono_l k
 unfold spec_l7Table.f
 repeat' first
   | (with_reducible exact ih0 _ _ _ _)
   | (with_reducible exact ih1 _ _ _ _ _)
   | (with_reducible exact LeO.refl _)
   | (with_reducible exact LeO.none _)
   | (with_reducible refine LeO.ite ?_ ?_)
   | (with_reducible refine LeO.bind ?_ (fun _ => ?_))
   | exact ih0 _ _ _ _
   | exact ih1 _ _ _ _ _
   | exact LeO.none _
   | refine LeO.ite ?_ ?_
   | refine LeO.bind ?_ (fun _ => ?_)
set_option maxHeartbeats 8000000 in
set_option maxRecDepth 100000 in
theorem spec_l7Table.calls (k : Nat) (A0 : Option Addr) (c0 : Nat) (l0 : List ByteArray) (A1 : Option Addr) (c1 : Nat) (l1 : List ByteArray) (r : List (List Int)) (w : World) (hr0 : Kd.C Kd.string w A0 l0.length l0) (hc0 : l0.length ≤ c0) (hr1 : Kd.C Kd.string w A1 l1.length l1) (hc1 : l1.length ≤ c1) (h : spec_l7Table.f k l0 l1 = some r) :
  Calls Try.prog 85 #[.slice A0 l0.length c0, .slice A1 l1.length c1] w fun e w' => ∃ v0_ : Value, e = .returned (v0_) ∧ Kd.S (Kd.slice 3 (Kd.int .i64)) 77 w' w.heap.size (fun _ => True) v0_ r ∧ Below w.heap.size w w' := by
 have HR0 := Aside0.mk hr0
 have HC0 := Aside0.mk hc0
 clear hr0 hc0
 have HR1 := Aside0.mk hr1
 have HC1 := Aside0.mk hc1
 clear hr1 hc1
 have HB := Aside0.mk (Below.refl w.heap.size w)
 have H : (if 0 ≤ (wrap64 ((l0.length : Int) + 1)) then (if (wrap64 ((l0.length : Int) + 1) : Int).toNat ≤ 11728124029610 then ((some (List.replicate (wrap64 ((l0.length : Int) + 1) : Int).toNat [] : List (List Int))).bind fun y1002 => (if 0 ≤ (wrap64 ((l1.length : Int) + 1)) then (if (wrap64 ((l1.length : Int) + 1) : Int).toNat ≤ 35184372088832 then (if 0 ≤ (l0.length : Int) then (if (l0.length : Int) < (y1002.length : Int) then (spec_l7Table.l0 k l0 l1 (y1002.set ((l0.length : Int) : Int).toNat (List.replicate (wrap64 ((l1.length : Int) + 1) : Int).toNat 0)) (wrap64 ((l0.length : Int) - 1))) else (none)) else (none)) else (none)) else (none))) else (none)) else (none)) = some r := h
 clear h
 obtain ⟨ji3, hji3⟩ : ∃ j_ : Int, (wrap64 ((l0.length : Int) + 1)) = j_ := ⟨_, rfl⟩
 replace H : (if 0 ≤ (ji3) then (if (ji3 : Int).toNat ≤ 11728124029610 then ((some (List.replicate (ji3 : Int).toNat [] : List (List Int))).bind fun y1002 => (if 0 ≤ (wrap64 ((l1.length : Int) + 1)) then (if (wrap64 ((l1.length : Int) + 1) : Int).toNat ≤ 35184372088832 then (if 0 ≤ (l0.length : Int) then (if (l0.length : Int) < (y1002.length : Int) then (spec_l7Table.l0 k l0 l1 (y1002.set ((l0.length : Int) : Int).toNat (List.replicate (wrap64 ((l1.length : Int) + 1) : Int).toNat 0)) (wrap64 ((l0.length : Int) - 1))) else (none)) else (none)) else (none)) else (none))) else (none)) else (none)) = some r := by first | (rw [hji3] at H; exact H) | (simp only [hji3] at H ⊢; exact H)
 have hji3w : (IntKind.i64.wrap ((l0.length : Int) + 1)) = ji3 := (i64_w _).trans hji3
 by_cases c4 : 0 ≤ (ji3)
 ·rw [if_pos c4] at H
  have c4b0 := eq_true c4
  have c4b1 : decide (0 ≤ (ji3)) = true := decide_eq_true c4
  clear c4
  by_cases c5 : (ji3 : Int).toNat ≤ 11728124029610
  ·rw [if_pos c5] at H
   have c5b0 := eq_true c5
   have c5b1 : decide ((ji3 : Int).toNat ≤ 11728124029610) = true := decide_eq_true c5
   clear c5
   obtain ⟨y1002, hy1002⟩ : ∃ y_ : List (List Int), y_ = (List.replicate (ji3 : Int).toNat []) := ⟨_, rfl⟩
   replace H : (if 0 ≤ (wrap64 ((l1.length : Int) + 1)) then (if (wrap64 ((l1.length : Int) + 1) : Int).toNat ≤ 35184372088832 then (if 0 ≤ (l0.length : Int) then (if (l0.length : Int) < (y1002.length : Int) then (spec_l7Table.l0 k l0 l1 (y1002.set ((l0.length : Int) : Int).toNat (List.replicate (wrap64 ((l1.length : Int) + 1) : Int).toNat 0)) (wrap64 ((l0.length : Int) - 1))) else (none)) else (none)) else (none)) else (none)) = some r := by first | (rw [hy1002]; with_reducible exact H) | (have H2_ := (Option.bind_some _ _).symm.trans H; rw [hy1002]; with_reducible exact H2_) | (have H2_ := (Option.bind_some _ _).symm.trans H; with_reducible exact H2_) | with_reducible exact H | (rw [hy1002]; exact H) | exact H
   have Ny1002 := Aside0.mk hy1002
   clear hy1002
   obtain ⟨ji6, hji6⟩ : ∃ j_ : Int, (wrap64 ((l1.length : Int) + 1)) = j_ := ⟨_, rfl⟩
   replace H : (if 0 ≤ (ji6) then (if (ji6 : Int).toNat ≤ 35184372088832 then (if 0 ≤ (l0.length : Int) then (if (l0.length : Int) < (y1002.length : Int) then (spec_l7Table.l0 k l0 l1 (y1002.set ((l0.length : Int) : Int).toNat (List.replicate (ji6 : Int).toNat 0)) (wrap64 ((l0.length : Int) - 1))) else (none)) else (none)) else (none)) else (none)) = some r := by first | (rw [hji6] at H; exact H) | (simp only [hji6] at H ⊢; exact H)
   have hji6w : (IntKind.i64.wrap ((l1.length : Int) + 1)) = ji6 := (i64_w _).trans hji6
   by_cases c7 : 0 ≤ (ji6)
   ·rw [if_pos c7] at H
    have c7b0 := eq_true c7
    have c7b1 : decide (0 ≤ (ji6)) = true := decide_eq_true c7
    clear c7
    by_cases c8 : (ji6 : Int).toNat ≤ 35184372088832
    ·rw [if_pos c8] at H
     have c8b0 := eq_true c8
     have c8b1 : decide ((ji6 : Int).toNat ≤ 35184372088832) = true := decide_eq_true c8
     clear c8
     obtain ⟨y1005, hy1005⟩ : ∃ y_ : List Int, y_ = (List.replicate (ji6 : Int).toNat 0) := ⟨_, rfl⟩
     replace H : (if 0 ≤ (l0.length : Int) then (if (l0.length : Int) < (y1002.length : Int) then (spec_l7Table.l0 k l0 l1 (y1002.set ((l0.length : Int) : Int).toNat y1005) (wrap64 ((l0.length : Int) - 1))) else (none)) else (none)) = some r := by first | (rw [hy1005]; with_reducible exact H) | (have H2_ := (Option.bind_some _ _).symm.trans H; rw [hy1005]; with_reducible exact H2_) | (have H2_ := (Option.bind_some _ _).symm.trans H; with_reducible exact H2_) | with_reducible exact H | (rw [hy1005]; exact H) | exact H
     have Ny1005 := Aside0.mk hy1005
     clear hy1005
     by_cases c9 : 0 ≤ (l0.length : Int)
     ·rw [if_pos c9] at H
      have c9b0 : decide (0 ≤ (l0.length : Int)) = true := decide_eq_true c9
      have c9b1 : decide (0 ≤ l0.length) = true := decide_eq_true (by omega)
      clear c9
      by_cases c10 : (l0.length : Int) < (y1002.length : Int)
      ·rw [if_pos c10] at H
       have c10b0 : decide ((l0.length : Int) < (y1002.length : Int)) = true := decide_eq_true c10
       have c10b1 : decide (l0.length < y1002.length) = true := decide_eq_true (Int.ofNat_lt.mp c10)
       clear c10
       obtain ⟨y1008, hy1008⟩ : ∃ y_ : List (List Int), y_ = (y1002.set ((l0.length : Int) : Int).toNat y1005) := ⟨_, rfl⟩
       replace H : (spec_l7Table.l0 k l0 l1 y1008 (wrap64 ((l0.length : Int) - 1))) = some r := by first | (rw [hy1008]; with_reducible exact H) | (have H2_ := (Option.bind_some _ _).symm.trans H; rw [hy1008]; with_reducible exact H2_) | (have H2_ := (Option.bind_some _ _).symm.trans H; with_reducible exact H2_) | with_reducible exact H | (rw [hy1008]; exact H) | exact H
       have Ny1008 := Aside0.mk hy1008
       clear hy1008
       have H' := Aside0.mk H
       clear H
       go_enter Try.func85, Try.ntmps85
       go_wp2_with (first | ((with_reducible refine gd 12 rfl ?_); refine Kd.S_make (Kd.slice 3 (Kd.int .i64)) _ 77 rfl (N := 12) rfl 72 _ _ rfl ji3 rfl rfl Try.underlying72 (.slice none 0 0) 24 info77 rfl (by decide) (by omega) [] (ok := fun _ => True) (okp := fun _ => True) ⟨_, rfl, Kd.R_nil _ _ _ _ _⟩ (fun _ hk => hk) trivial (oda) (Nat.le_trans (Nat.mul_le_mul_right _ (oda : ji3.toNat ≤ 11728124029610)) (by omega)) (Below.refl _ _) (Nat.le_refl _) ?_; intro v1003 w12 ho13 hb hg_ hnew_; clear hg_ hnew_; (first | rw [← Ny1002.out] at ho13 | (simp only [Int.reduceToNat] at ho13; rw [← Ny1002.out] at ho13)); refine Ya2 (Kd.S_lower ho13 (below_size (be HB.out))) (below_step (be HB.out) hb) ?_; clear HB; intro HO1004 HB; clear hb ho13) | ((with_reducible refine gd 19 rfl ?_); refine Kd.R_make (Kd.int .i64) _ 3 rfl (N := 19) rfl 77 _ _ rfl ji6 rfl rfl Try.underlying77 (.int .i64 0) 8 info3 rfl (by decide) (by omega) 0 (ok := fun _ => True) (okp := fun _ => True) rfl (fun _ hk => hk) trivial (oda) (Nat.le_trans (Nat.mul_le_mul_right _ (oda : ji6.toNat ≤ 35184372088832)) (by omega)) (Below.refl _ _) (Nat.le_refl _) ?_; intro v1006 w14 ho15 hb hg_ hnew_; have HSL1006 := Aside0.mk (Kd.R_slice ho15); clear hg_ hnew_; (first | rw [← Ny1005.out] at ho15 | (simp only [Int.reduceToNat] at ho15; rw [← Ny1005.out] at ho15)); refine Ya3 (Kd.S_elder' (by (with_reducible repeat (first | apply Kd.S_alloc | apply Kd.S_drewN | apply Kd.S_drew)); exact HO1004.out) (Kd.R_base ho15) hb) (Kd.R_lower ho15 (below_size (be HB.out))) (below_step (be HB.out) hb) ?_; clear HO1004 HB; intro HO1004 HO1007 HB; clear hb ho15; have p11 : 0 ≤ ((l0.length : Int) : Int) := oda; have q11 : ((l0.length : Int) : Int) < ((y1002.length : Int) : Int) := oda; obtain ⟨go11, co11, eo11, gb11, gl11, cl11, HG11⟩ := Kd.S_form HO1004.out (by omega); (first | cases eo11 | (injection eo11 with ea_ en_ ec_; (first | subst ea_ | (injection ea_ with ea_; subst ea_)); subst ec_; clear en_)); have GB11 := Aside0.mk gb11; have GG11 := Aside0.mk HG11; clear gb11 gl11 HG11; obtain ⟨_, ce11, hcl11, hM11, hcc11, hfr11, _, _⟩ := Kd.S_elem HO1004.out [] ((l0.length : Int) : Int) p11 q11; obtain ⟨ve11_0, rfl, ge11_0⟩ := hM11; have hx11_0 := hcc11 0 _ rfl; have hf11_0 := hfr11 0; (try simp only [show ((Kd.slice 3 (Kd.int .i64))).sz = 1 from rfl, Nat.mul_one, Nat.add_zero] at hx11_0); (try simp only [show ((Kd.slice 3 (Kd.int .i64))).sz = 1 from rfl, Nat.mul_one, Nat.add_zero] at hf11_0); (try clear hM11); clear hcl11 hcc11 hfr11; (try simp only [Int.toNat_natCast] at hx11_0); (try simp only [Int.toNat_natCast] at hf11_0); replace p11 := eq_true p11; replace q11 := eq_true q11; have n_ := Aside0.mk (Kd.S_mono (ok' := (fun k_ => some k_ ≠ (v1006 : Value).ownBlock)) HO1004.out (fun k_ hk => hk.2)); clear HO1004; have HO1004 := n_; clear n_; have HX16 := Aside0.mk (show Kd.S (Kd.slice 3 (Kd.int .i64)) 77 w14 w.heap.size (fun k_ => ((fun _ => True)) k_ ∧ ¬ ((fun k_ => some k_ = (v1006 : Value).ownBlock)) k_) (.slice (some ⟨go11, 0, none⟩) y1002.length co11) y1002 from (by (with_reducible repeat (first | apply Kd.S_alloc | apply Kd.S_drewN | apply Kd.S_drew)); exact Kd.S_mono HO1004.out (fun k_ hk => ⟨trivial, fun e_ => hk e_⟩))); obtain ⟨oki16, ce16, hcl16, hM16, hcc16, hfr16, hoki16, hH16⟩ := Kd.S_elem HX16.out [] ((l0.length : Int) : Int) (oda) (by have h_ : ((l0.length : Int) : Int) < ((y1002.length : Int) : Int) := oda; first | exact h_ | (have e_ := (Kd.S_reads' HO1004.out).1; omega) | simpa using h_); obtain ⟨ve16_0, rfl, ge16_0⟩ := hM16; have HP16 := Kd.S_seg hH16 (oda) (by have h_ : ((l0.length : Int) : Int) < ((y1002.length : Int) : Int) := oda; first | exact h_ | (have e_ := (Kd.S_reads' HO1004.out).1; omega) | simpa using h_) (seg := [v1006]) (j := 0) (show 1 ≤ 1 from by decide) (x' := y1005) (Kd.M_row (Kd.R_mono (Kd.R_tight rfl (Kd.R_mono (ok' := fun k_ => ((fun _ => True)) k_ ∧ k_ ≠ go11) (Kd.R_apart' (HO1007.out) (Kd.S_typed HO1004.out) (by decide)) (fun k_ hk => ⟨trivial, fun e_ => (hk.2) (by rw [e_]; rfl)⟩))) (fun _ h_ => Or.inr (h_)))) (fun _ hk => hk) (fun k_ hk_ => ((Kd.R_mono (ok' := fun k_ => ((fun _ => True)) k_ ∧ k_ ≠ go11) (Kd.R_apart' (HO1007.out) (Kd.S_typed HO1004.out) (by decide)) (fun k_ hk => ⟨trivial, fun e_ => (hk.2) (by rw [e_]; rfl)⟩))).1 k_ hk_.symm); have hx16_0 := hcc16 0 _ rfl; (try simp only [show ((Kd.slice 3 (Kd.int .i64))).sz = 1 from rfl, Nat.mul_one, Nat.add_zero] at hx16_0); have hf16_0 := hfr16 0; (try simp only [show ((Kd.slice 3 (Kd.int .i64))).sz = 1 from rfl, Nat.mul_one, Nat.add_zero] at hf16_0); (try clear hM16); clear hcl16 hcc16 hfr16 hoki16 hH16; (try simp only [show ((Kd.slice 3 (Kd.int .i64))).sz = 1 from rfl, Nat.mul_one, Nat.add_zero] at HP16)) | ((with_reducible refine gate_store (t := 77) (p := 20) rfl ?_); (try (rw [drewN_self w14]; generalize hq_ : World.drewN w14 _ = w14; have n0_ := Aside0.mk (Kd.S_at hq_ HO1004.out); have n1_ := Aside0.mk (below_at hq_ HB.out); clear hq_ HO1004 HB; have HO1004 := n0_; have HB := n1_; clear n0_ n1_; (try (have n_ := Aside0.mk (Kd.S_mono (ok' := (fun k_ => some k_ ≠ (v1006 : Value).ownBlock)) HO1004.out (fun k_ hk => hk.2)); clear HO1004; have HO1004 := n_; clear n_)); (try (have HX16 := Aside0.mk (show Kd.S (Kd.slice 3 (Kd.int .i64)) 77 w14 w.heap.size (fun k_ => ((fun _ => True)) k_ ∧ ¬ ((fun k_ => some k_ = (v1006 : Value).ownBlock)) k_) (.slice (some ⟨go11, 0, none⟩) y1002.length co11) y1002 from (by (with_reducible repeat (first | apply Kd.S_alloc | apply Kd.S_drewN | apply Kd.S_drew)); exact Kd.S_mono HO1004.out (fun k_ hk => ⟨trivial, fun e_ => hk e_⟩))))); (try (obtain ⟨oki16, ce16, hcl16, hM16, hcc16, hfr16, hoki16, hH16⟩ := Kd.S_elem HX16.out [] ((l0.length : Int) : Int) (oda) (by have h_ : ((l0.length : Int) : Int) < ((y1002.length : Int) : Int) := oda; first | exact h_ | (have e_ := (Kd.S_reads' HO1004.out).1; omega) | simpa using h_))); (try (obtain ⟨ve16_0, rfl, ge16_0⟩ := hM16)); (try (have HP16 := Kd.S_seg hH16 (oda) (by have h_ : ((l0.length : Int) : Int) < ((y1002.length : Int) : Int) := oda; first | exact h_ | (have e_ := (Kd.S_reads' HO1004.out).1; omega) | simpa using h_) (seg := [v1006]) (j := 0) (show 1 ≤ 1 from by decide) (x' := y1005) (Kd.M_row (Kd.R_mono (Kd.R_tight rfl (Kd.R_mono (ok' := fun k_ => ((fun _ => True)) k_ ∧ k_ ≠ go11) (Kd.R_apart' (HO1007.out) (Kd.S_typed HO1004.out) (by decide)) (fun k_ hk => ⟨trivial, fun e_ => (hk.2) (by rw [e_]; rfl)⟩))) (fun _ h_ => Or.inr (h_)))) (fun _ hk => hk) (fun k_ hk_ => ((Kd.R_mono (ok' := fun k_ => ((fun _ => True)) k_ ∧ k_ ≠ go11) (Kd.R_apart' (HO1007.out) (Kd.S_typed HO1004.out) (by decide)) (fun k_ hk => ⟨trivial, fun e_ => (hk.2) (by rw [e_]; rfl)⟩))).1 k_ hk_.symm))); (try (have hx16_0 := hcc16 0 _ rfl)); (try (try simp only [show ((Kd.slice 3 (Kd.int .i64))).sz = 1 from rfl, Nat.mul_one, Nat.add_zero] at hx16_0)); (try (have hf16_0 := hfr16 0)); (try (try simp only [show ((Kd.slice 3 (Kd.int .i64))).sz = 1 from rfl, Nat.mul_one, Nat.add_zero] at hf16_0)); (try ((try clear hM16); clear hcl16 hcc16 hfr16 hoki16 hH16)); (try (try simp only [show ((Kd.slice 3 (Kd.int .i64))).sz = 1 from rfl, Nat.mul_one, Nat.add_zero] at HP16)))); refine store_event (t := 77) (p := 20) (v := ?vo_w17) (w1 := (w14.setCell ⟨go11, ((l0.length : Int) : Int).toNat, none⟩ (v1006))) ?hg ?ho ?hn ?hr ?_; (case ho => rfl); (case hg => rfl); (case hn => rfl); (case hr => first | (go_simp; done) | (go_simp; rfl) | (obtain ⟨A_, c_, e_⟩ := HSL1006.out; subst e_; first | (go_simp; done) | (go_simp; rfl))); intro w17 hw; have hg : w14.grownBy w17 (some go11) := (by rw [hw]; exact HP16.2); have hp_ : Kd.S (Kd.slice 3 (Kd.int .i64)) 77 w17 w.heap.size (fun _ => True) (.slice (some ⟨go11, 0, none⟩) y1002.length co11) y1008 := (by rw [hw, Ny1008.out]; exact HP16.1); clear HP16; refine Ya2 (hp_) ((by rw [hw]; exact below_set (HB.out) GB11.out : Below w.heap.size w w17)) ?_; clear HO1004 HB HO1007; intro HO1004 HB; clear hg hw hp_))
       repeat (go_quiet (first | ((with_reducible refine gd 12 rfl ?_); refine Kd.S_make (Kd.slice 3 (Kd.int .i64)) _ 77 rfl (N := 12) rfl 72 _ _ rfl ji3 rfl rfl Try.underlying72 (.slice none 0 0) 24 info77 rfl (by decide) (by omega) [] (ok := fun _ => True) (okp := fun _ => True) ⟨_, rfl, Kd.R_nil _ _ _ _ _⟩ (fun _ hk => hk) trivial (oda) (Nat.le_trans (Nat.mul_le_mul_right _ (oda : ji3.toNat ≤ 11728124029610)) (by omega)) (Below.refl _ _) (Nat.le_refl _) ?_; intro v1003 w12 ho13 hb hg_ hnew_; clear hg_ hnew_; (first | rw [← Ny1002.out] at ho13 | (simp only [Int.reduceToNat] at ho13; rw [← Ny1002.out] at ho13)); refine Ya2 (Kd.S_lower ho13 (below_size (be HB.out))) (below_step (be HB.out) hb) ?_; clear HB; intro HO1004 HB; clear hb ho13) | ((with_reducible refine gd 19 rfl ?_); refine Kd.R_make (Kd.int .i64) _ 3 rfl (N := 19) rfl 77 _ _ rfl ji6 rfl rfl Try.underlying77 (.int .i64 0) 8 info3 rfl (by decide) (by omega) 0 (ok := fun _ => True) (okp := fun _ => True) rfl (fun _ hk => hk) trivial (oda) (Nat.le_trans (Nat.mul_le_mul_right _ (oda : ji6.toNat ≤ 35184372088832)) (by omega)) (Below.refl _ _) (Nat.le_refl _) ?_; intro v1006 w14 ho15 hb hg_ hnew_; have HSL1006 := Aside0.mk (Kd.R_slice ho15); clear hg_ hnew_; (first | rw [← Ny1005.out] at ho15 | (simp only [Int.reduceToNat] at ho15; rw [← Ny1005.out] at ho15)); refine Ya3 (Kd.S_elder' (by (with_reducible repeat (first | apply Kd.S_alloc | apply Kd.S_drewN | apply Kd.S_drew)); exact HO1004.out) (Kd.R_base ho15) hb) (Kd.R_lower ho15 (below_size (be HB.out))) (below_step (be HB.out) hb) ?_; clear HO1004 HB; intro HO1004 HO1007 HB; clear hb ho15; have p11 : 0 ≤ ((l0.length : Int) : Int) := oda; have q11 : ((l0.length : Int) : Int) < ((y1002.length : Int) : Int) := oda; obtain ⟨go11, co11, eo11, gb11, gl11, cl11, HG11⟩ := Kd.S_form HO1004.out (by omega); (first | cases eo11 | (injection eo11 with ea_ en_ ec_; (first | subst ea_ | (injection ea_ with ea_; subst ea_)); subst ec_; clear en_)); have GB11 := Aside0.mk gb11; have GG11 := Aside0.mk HG11; clear gb11 gl11 HG11; obtain ⟨_, ce11, hcl11, hM11, hcc11, hfr11, _, _⟩ := Kd.S_elem HO1004.out [] ((l0.length : Int) : Int) p11 q11; obtain ⟨ve11_0, rfl, ge11_0⟩ := hM11; have hx11_0 := hcc11 0 _ rfl; have hf11_0 := hfr11 0; (try simp only [show ((Kd.slice 3 (Kd.int .i64))).sz = 1 from rfl, Nat.mul_one, Nat.add_zero] at hx11_0); (try simp only [show ((Kd.slice 3 (Kd.int .i64))).sz = 1 from rfl, Nat.mul_one, Nat.add_zero] at hf11_0); (try clear hM11); clear hcl11 hcc11 hfr11; (try simp only [Int.toNat_natCast] at hx11_0); (try simp only [Int.toNat_natCast] at hf11_0); replace p11 := eq_true p11; replace q11 := eq_true q11; have n_ := Aside0.mk (Kd.S_mono (ok' := (fun k_ => some k_ ≠ (v1006 : Value).ownBlock)) HO1004.out (fun k_ hk => hk.2)); clear HO1004; have HO1004 := n_; clear n_; have HX16 := Aside0.mk (show Kd.S (Kd.slice 3 (Kd.int .i64)) 77 w14 w.heap.size (fun k_ => ((fun _ => True)) k_ ∧ ¬ ((fun k_ => some k_ = (v1006 : Value).ownBlock)) k_) (.slice (some ⟨go11, 0, none⟩) y1002.length co11) y1002 from (by (with_reducible repeat (first | apply Kd.S_alloc | apply Kd.S_drewN | apply Kd.S_drew)); exact Kd.S_mono HO1004.out (fun k_ hk => ⟨trivial, fun e_ => hk e_⟩))); obtain ⟨oki16, ce16, hcl16, hM16, hcc16, hfr16, hoki16, hH16⟩ := Kd.S_elem HX16.out [] ((l0.length : Int) : Int) (oda) (by have h_ : ((l0.length : Int) : Int) < ((y1002.length : Int) : Int) := oda; first | exact h_ | (have e_ := (Kd.S_reads' HO1004.out).1; omega) | simpa using h_); obtain ⟨ve16_0, rfl, ge16_0⟩ := hM16; have HP16 := Kd.S_seg hH16 (oda) (by have h_ : ((l0.length : Int) : Int) < ((y1002.length : Int) : Int) := oda; first | exact h_ | (have e_ := (Kd.S_reads' HO1004.out).1; omega) | simpa using h_) (seg := [v1006]) (j := 0) (show 1 ≤ 1 from by decide) (x' := y1005) (Kd.M_row (Kd.R_mono (Kd.R_tight rfl (Kd.R_mono (ok' := fun k_ => ((fun _ => True)) k_ ∧ k_ ≠ go11) (Kd.R_apart' (HO1007.out) (Kd.S_typed HO1004.out) (by decide)) (fun k_ hk => ⟨trivial, fun e_ => (hk.2) (by rw [e_]; rfl)⟩))) (fun _ h_ => Or.inr (h_)))) (fun _ hk => hk) (fun k_ hk_ => ((Kd.R_mono (ok' := fun k_ => ((fun _ => True)) k_ ∧ k_ ≠ go11) (Kd.R_apart' (HO1007.out) (Kd.S_typed HO1004.out) (by decide)) (fun k_ hk => ⟨trivial, fun e_ => (hk.2) (by rw [e_]; rfl)⟩))).1 k_ hk_.symm); have hx16_0 := hcc16 0 _ rfl; (try simp only [show ((Kd.slice 3 (Kd.int .i64))).sz = 1 from rfl, Nat.mul_one, Nat.add_zero] at hx16_0); have hf16_0 := hfr16 0; (try simp only [show ((Kd.slice 3 (Kd.int .i64))).sz = 1 from rfl, Nat.mul_one, Nat.add_zero] at hf16_0); (try clear hM16); clear hcl16 hcc16 hfr16 hoki16 hH16; (try simp only [show ((Kd.slice 3 (Kd.int .i64))).sz = 1 from rfl, Nat.mul_one, Nat.add_zero] at HP16)) | ((with_reducible refine gate_store (t := 77) (p := 20) rfl ?_); (try (rw [drewN_self w14]; generalize hq_ : World.drewN w14 _ = w14; have n0_ := Aside0.mk (Kd.S_at hq_ HO1004.out); have n1_ := Aside0.mk (below_at hq_ HB.out); clear hq_ HO1004 HB; have HO1004 := n0_; have HB := n1_; clear n0_ n1_; (try (have n_ := Aside0.mk (Kd.S_mono (ok' := (fun k_ => some k_ ≠ (v1006 : Value).ownBlock)) HO1004.out (fun k_ hk => hk.2)); clear HO1004; have HO1004 := n_; clear n_)); (try (have HX16 := Aside0.mk (show Kd.S (Kd.slice 3 (Kd.int .i64)) 77 w14 w.heap.size (fun k_ => ((fun _ => True)) k_ ∧ ¬ ((fun k_ => some k_ = (v1006 : Value).ownBlock)) k_) (.slice (some ⟨go11, 0, none⟩) y1002.length co11) y1002 from (by (with_reducible repeat (first | apply Kd.S_alloc | apply Kd.S_drewN | apply Kd.S_drew)); exact Kd.S_mono HO1004.out (fun k_ hk => ⟨trivial, fun e_ => hk e_⟩))))); (try (obtain ⟨oki16, ce16, hcl16, hM16, hcc16, hfr16, hoki16, hH16⟩ := Kd.S_elem HX16.out [] ((l0.length : Int) : Int) (oda) (by have h_ : ((l0.length : Int) : Int) < ((y1002.length : Int) : Int) := oda; first | exact h_ | (have e_ := (Kd.S_reads' HO1004.out).1; omega) | simpa using h_))); (try (obtain ⟨ve16_0, rfl, ge16_0⟩ := hM16)); (try (have HP16 := Kd.S_seg hH16 (oda) (by have h_ : ((l0.length : Int) : Int) < ((y1002.length : Int) : Int) := oda; first | exact h_ | (have e_ := (Kd.S_reads' HO1004.out).1; omega) | simpa using h_) (seg := [v1006]) (j := 0) (show 1 ≤ 1 from by decide) (x' := y1005) (Kd.M_row (Kd.R_mono (Kd.R_tight rfl (Kd.R_mono (ok' := fun k_ => ((fun _ => True)) k_ ∧ k_ ≠ go11) (Kd.R_apart' (HO1007.out) (Kd.S_typed HO1004.out) (by decide)) (fun k_ hk => ⟨trivial, fun e_ => (hk.2) (by rw [e_]; rfl)⟩))) (fun _ h_ => Or.inr (h_)))) (fun _ hk => hk) (fun k_ hk_ => ((Kd.R_mono (ok' := fun k_ => ((fun _ => True)) k_ ∧ k_ ≠ go11) (Kd.R_apart' (HO1007.out) (Kd.S_typed HO1004.out) (by decide)) (fun k_ hk => ⟨trivial, fun e_ => (hk.2) (by rw [e_]; rfl)⟩))).1 k_ hk_.symm))); (try (have hx16_0 := hcc16 0 _ rfl)); (try (try simp only [show ((Kd.slice 3 (Kd.int .i64))).sz = 1 from rfl, Nat.mul_one, Nat.add_zero] at hx16_0)); (try (have hf16_0 := hfr16 0)); (try (try simp only [show ((Kd.slice 3 (Kd.int .i64))).sz = 1 from rfl, Nat.mul_one, Nat.add_zero] at hf16_0)); (try ((try clear hM16); clear hcl16 hcc16 hfr16 hoki16 hH16)); (try (try simp only [show ((Kd.slice 3 (Kd.int .i64))).sz = 1 from rfl, Nat.mul_one, Nat.add_zero] at HP16)))); refine store_event (t := 77) (p := 20) (v := ?vo_w17) (w1 := (w14.setCell ⟨go11, ((l0.length : Int) : Int).toNat, none⟩ (v1006))) ?hg ?ho ?hn ?hr ?_; (case ho => rfl); (case hg => rfl); (case hn => rfl); (case hr => first | (go_simp; done) | (go_simp; rfl) | (obtain ⟨A_, c_, e_⟩ := HSL1006.out; subst e_; first | (go_simp; done) | (go_simp; rfl))); intro w17 hw; have hg : w14.grownBy w17 (some go11) := (by rw [hw]; exact HP16.2); have hp_ : Kd.S (Kd.slice 3 (Kd.int .i64)) 77 w17 w.heap.size (fun _ => True) (.slice (some ⟨go11, 0, none⟩) y1002.length co11) y1008 := (by rw [hw, Ny1008.out]; exact HP16.1); clear HP16; refine Ya2 (hp_) ((by rw [hw]; exact below_set (HB.out) GB11.out : Below w.heap.size w w17)) ?_; clear HO1004 HB HO1007; intro HO1004 HB; clear hg hw hp_)); try go_wp2_with (first | ((with_reducible refine gd 12 rfl ?_); refine Kd.S_make (Kd.slice 3 (Kd.int .i64)) _ 77 rfl (N := 12) rfl 72 _ _ rfl ji3 rfl rfl Try.underlying72 (.slice none 0 0) 24 info77 rfl (by decide) (by omega) [] (ok := fun _ => True) (okp := fun _ => True) ⟨_, rfl, Kd.R_nil _ _ _ _ _⟩ (fun _ hk => hk) trivial (oda) (Nat.le_trans (Nat.mul_le_mul_right _ (oda : ji3.toNat ≤ 11728124029610)) (by omega)) (Below.refl _ _) (Nat.le_refl _) ?_; intro v1003 w12 ho13 hb hg_ hnew_; clear hg_ hnew_; (first | rw [← Ny1002.out] at ho13 | (simp only [Int.reduceToNat] at ho13; rw [← Ny1002.out] at ho13)); refine Ya2 (Kd.S_lower ho13 (below_size (be HB.out))) (below_step (be HB.out) hb) ?_; clear HB; intro HO1004 HB; clear hb ho13) | ((with_reducible refine gd 19 rfl ?_); refine Kd.R_make (Kd.int .i64) _ 3 rfl (N := 19) rfl 77 _ _ rfl ji6 rfl rfl Try.underlying77 (.int .i64 0) 8 info3 rfl (by decide) (by omega) 0 (ok := fun _ => True) (okp := fun _ => True) rfl (fun _ hk => hk) trivial (oda) (Nat.le_trans (Nat.mul_le_mul_right _ (oda : ji6.toNat ≤ 35184372088832)) (by omega)) (Below.refl _ _) (Nat.le_refl _) ?_; intro v1006 w14 ho15 hb hg_ hnew_; have HSL1006 := Aside0.mk (Kd.R_slice ho15); clear hg_ hnew_; (first | rw [← Ny1005.out] at ho15 | (simp only [Int.reduceToNat] at ho15; rw [← Ny1005.out] at ho15)); refine Ya3 (Kd.S_elder' (by (with_reducible repeat (first | apply Kd.S_alloc | apply Kd.S_drewN | apply Kd.S_drew)); exact HO1004.out) (Kd.R_base ho15) hb) (Kd.R_lower ho15 (below_size (be HB.out))) (below_step (be HB.out) hb) ?_; clear HO1004 HB; intro HO1004 HO1007 HB; clear hb ho15; have p11 : 0 ≤ ((l0.length : Int) : Int) := oda; have q11 : ((l0.length : Int) : Int) < ((y1002.length : Int) : Int) := oda; obtain ⟨go11, co11, eo11, gb11, gl11, cl11, HG11⟩ := Kd.S_form HO1004.out (by omega); (first | cases eo11 | (injection eo11 with ea_ en_ ec_; (first | subst ea_ | (injection ea_ with ea_; subst ea_)); subst ec_; clear en_)); have GB11 := Aside0.mk gb11; have GG11 := Aside0.mk HG11; clear gb11 gl11 HG11; obtain ⟨_, ce11, hcl11, hM11, hcc11, hfr11, _, _⟩ := Kd.S_elem HO1004.out [] ((l0.length : Int) : Int) p11 q11; obtain ⟨ve11_0, rfl, ge11_0⟩ := hM11; have hx11_0 := hcc11 0 _ rfl; have hf11_0 := hfr11 0; (try simp only [show ((Kd.slice 3 (Kd.int .i64))).sz = 1 from rfl, Nat.mul_one, Nat.add_zero] at hx11_0); (try simp only [show ((Kd.slice 3 (Kd.int .i64))).sz = 1 from rfl, Nat.mul_one, Nat.add_zero] at hf11_0); (try clear hM11); clear hcl11 hcc11 hfr11; (try simp only [Int.toNat_natCast] at hx11_0); (try simp only [Int.toNat_natCast] at hf11_0); replace p11 := eq_true p11; replace q11 := eq_true q11; have n_ := Aside0.mk (Kd.S_mono (ok' := (fun k_ => some k_ ≠ (v1006 : Value).ownBlock)) HO1004.out (fun k_ hk => hk.2)); clear HO1004; have HO1004 := n_; clear n_; have HX16 := Aside0.mk (show Kd.S (Kd.slice 3 (Kd.int .i64)) 77 w14 w.heap.size (fun k_ => ((fun _ => True)) k_ ∧ ¬ ((fun k_ => some k_ = (v1006 : Value).ownBlock)) k_) (.slice (some ⟨go11, 0, none⟩) y1002.length co11) y1002 from (by (with_reducible repeat (first | apply Kd.S_alloc | apply Kd.S_drewN | apply Kd.S_drew)); exact Kd.S_mono HO1004.out (fun k_ hk => ⟨trivial, fun e_ => hk e_⟩))); obtain ⟨oki16, ce16, hcl16, hM16, hcc16, hfr16, hoki16, hH16⟩ := Kd.S_elem HX16.out [] ((l0.length : Int) : Int) (oda) (by have h_ : ((l0.length : Int) : Int) < ((y1002.length : Int) : Int) := oda; first | exact h_ | (have e_ := (Kd.S_reads' HO1004.out).1; omega) | simpa using h_); obtain ⟨ve16_0, rfl, ge16_0⟩ := hM16; have HP16 := Kd.S_seg hH16 (oda) (by have h_ : ((l0.length : Int) : Int) < ((y1002.length : Int) : Int) := oda; first | exact h_ | (have e_ := (Kd.S_reads' HO1004.out).1; omega) | simpa using h_) (seg := [v1006]) (j := 0) (show 1 ≤ 1 from by decide) (x' := y1005) (Kd.M_row (Kd.R_mono (Kd.R_tight rfl (Kd.R_mono (ok' := fun k_ => ((fun _ => True)) k_ ∧ k_ ≠ go11) (Kd.R_apart' (HO1007.out) (Kd.S_typed HO1004.out) (by decide)) (fun k_ hk => ⟨trivial, fun e_ => (hk.2) (by rw [e_]; rfl)⟩))) (fun _ h_ => Or.inr (h_)))) (fun _ hk => hk) (fun k_ hk_ => ((Kd.R_mono (ok' := fun k_ => ((fun _ => True)) k_ ∧ k_ ≠ go11) (Kd.R_apart' (HO1007.out) (Kd.S_typed HO1004.out) (by decide)) (fun k_ hk => ⟨trivial, fun e_ => (hk.2) (by rw [e_]; rfl)⟩))).1 k_ hk_.symm); have hx16_0 := hcc16 0 _ rfl; (try simp only [show ((Kd.slice 3 (Kd.int .i64))).sz = 1 from rfl, Nat.mul_one, Nat.add_zero] at hx16_0); have hf16_0 := hfr16 0; (try simp only [show ((Kd.slice 3 (Kd.int .i64))).sz = 1 from rfl, Nat.mul_one, Nat.add_zero] at hf16_0); (try clear hM16); clear hcl16 hcc16 hfr16 hoki16 hH16; (try simp only [show ((Kd.slice 3 (Kd.int .i64))).sz = 1 from rfl, Nat.mul_one, Nat.add_zero] at HP16)) | ((with_reducible refine gate_store (t := 77) (p := 20) rfl ?_); (try (rw [drewN_self w14]; generalize hq_ : World.drewN w14 _ = w14; have n0_ := Aside0.mk (Kd.S_at hq_ HO1004.out); have n1_ := Aside0.mk (below_at hq_ HB.out); clear hq_ HO1004 HB; have HO1004 := n0_; have HB := n1_; clear n0_ n1_; (try (have n_ := Aside0.mk (Kd.S_mono (ok' := (fun k_ => some k_ ≠ (v1006 : Value).ownBlock)) HO1004.out (fun k_ hk => hk.2)); clear HO1004; have HO1004 := n_; clear n_)); (try (have HX16 := Aside0.mk (show Kd.S (Kd.slice 3 (Kd.int .i64)) 77 w14 w.heap.size (fun k_ => ((fun _ => True)) k_ ∧ ¬ ((fun k_ => some k_ = (v1006 : Value).ownBlock)) k_) (.slice (some ⟨go11, 0, none⟩) y1002.length co11) y1002 from (by (with_reducible repeat (first | apply Kd.S_alloc | apply Kd.S_drewN | apply Kd.S_drew)); exact Kd.S_mono HO1004.out (fun k_ hk => ⟨trivial, fun e_ => hk e_⟩))))); (try (obtain ⟨oki16, ce16, hcl16, hM16, hcc16, hfr16, hoki16, hH16⟩ := Kd.S_elem HX16.out [] ((l0.length : Int) : Int) (oda) (by have h_ : ((l0.length : Int) : Int) < ((y1002.length : Int) : Int) := oda; first | exact h_ | (have e_ := (Kd.S_reads' HO1004.out).1; omega) | simpa using h_))); (try (obtain ⟨ve16_0, rfl, ge16_0⟩ := hM16)); (try (have HP16 := Kd.S_seg hH16 (oda) (by have h_ : ((l0.length : Int) : Int) < ((y1002.length : Int) : Int) := oda; first | exact h_ | (have e_ := (Kd.S_reads' HO1004.out).1; omega) | simpa using h_) (seg := [v1006]) (j := 0) (show 1 ≤ 1 from by decide) (x' := y1005) (Kd.M_row (Kd.R_mono (Kd.R_tight rfl (Kd.R_mono (ok' := fun k_ => ((fun _ => True)) k_ ∧ k_ ≠ go11) (Kd.R_apart' (HO1007.out) (Kd.S_typed HO1004.out) (by decide)) (fun k_ hk => ⟨trivial, fun e_ => (hk.2) (by rw [e_]; rfl)⟩))) (fun _ h_ => Or.inr (h_)))) (fun _ hk => hk) (fun k_ hk_ => ((Kd.R_mono (ok' := fun k_ => ((fun _ => True)) k_ ∧ k_ ≠ go11) (Kd.R_apart' (HO1007.out) (Kd.S_typed HO1004.out) (by decide)) (fun k_ hk => ⟨trivial, fun e_ => (hk.2) (by rw [e_]; rfl)⟩))).1 k_ hk_.symm))); (try (have hx16_0 := hcc16 0 _ rfl)); (try (try simp only [show ((Kd.slice 3 (Kd.int .i64))).sz = 1 from rfl, Nat.mul_one, Nat.add_zero] at hx16_0)); (try (have hf16_0 := hfr16 0)); (try (try simp only [show ((Kd.slice 3 (Kd.int .i64))).sz = 1 from rfl, Nat.mul_one, Nat.add_zero] at hf16_0)); (try ((try clear hM16); clear hcl16 hcc16 hfr16 hoki16 hH16)); (try (try simp only [show ((Kd.slice 3 (Kd.int .i64))).sz = 1 from rfl, Nat.mul_one, Nat.add_zero] at HP16)))); refine store_event (t := 77) (p := 20) (v := ?vo_w17) (w1 := (w14.setCell ⟨go11, ((l0.length : Int) : Int).toNat, none⟩ (v1006))) ?hg ?ho ?hn ?hr ?_; (case ho => rfl); (case hg => rfl); (case hn => rfl); (case hr => first | (go_simp; done) | (go_simp; rfl) | (obtain ⟨A_, c_, e_⟩ := HSL1006.out; subst e_; first | (go_simp; done) | (go_simp; rfl))); intro w17 hw; have hg : w14.grownBy w17 (some go11) := (by rw [hw]; exact HP16.2); have hp_ : Kd.S (Kd.slice 3 (Kd.int .i64)) 77 w17 w.heap.size (fun _ => True) (.slice (some ⟨go11, 0, none⟩) y1002.length co11) y1008 := (by rw [hw, Ny1008.out]; exact HP16.1); clear HP16; refine Ya2 (hp_) ((by rw [hw]; exact below_set (HB.out) GB11.out : Below w.heap.size w w17)) ?_; clear HO1004 HB HO1007; intro HO1004 HB; clear hg hw hp_)))
       go_loopg [6] k (fun kq v6 w' => ∃ (x5_1 : List (List Int)) (x6_1 : Int), v6 = .int .i64 x6_1 ∧ Aside0 (spec_l7Table.l0 kq l0 l1 x5_1 x6_1 = some r) ∧ Aside0 (kq ≤ k) ∧ Aside0 (Kd.S (Kd.slice 3 (Kd.int .i64)) 77 w' w.heap.size (fun _ => True) (.slice (some ⟨go11, 0, none⟩) y1002.length co11) x5_1) ∧ Aside0 (Below w.heap.size w w'))
       case atStart => exact ⟨(y1008), (wrap64 ((l0.length : Int) - 1)), Ye1, H', ⟨Nat.le_refl _⟩, ⟨by (with_reducible repeat (first | apply Kd.S_alloc | apply Kd.S_drewN | apply Kd.S_drew)); exact HO1004.out⟩, ⟨be HB.out⟩⟩
       case round =>
        clear H'
        try clear c1
        try clear p1
        try clear q1
        try clear hx1
        try clear p2
        try clear c4
        try clear c4b0
        try clear c4b1
        try clear c5
        try clear c5b0
        try clear c5b1
        try clear p6
        try clear c7
        try clear c7b0
        try clear c7b1
        try clear c8
        try clear c8b0
        try clear c8b1
        try clear c9
        try clear c9b0
        try clear c9b1
        try clear c10
        try clear c10b0
        try clear c10b1
        try clear c11
        try clear p11
        try clear q11
        try clear hx11
        try clear hf11
        try clear c16
        try clear hx16
        try clear hf16
        try clear hx11_0
        try clear hx16_0
        try clear p11
        try clear q11
        obtain ⟨x5_1, x6_1, rfl, HA, HK1, HO_5, HB⟩ := hrel
        have hl5_1 := (Kd.S_reads' HO_5.out).1
        rw [hl5_1] at HO_5
        (try simp only [hl5_1])
        cases gk with
        | zero => exact absurd HA.out (by simp [spec_l7Table.l0])
        | succ k1 =>
         have H := HA.out
         clear HA
         simp only [spec_l7Table.l0] at H
         by_cases c18 : x6_1 ≥ 0
         ·rw [if_pos c18] at H
          have c18b0 : decide (0 ≤ x6_1) = true := decide_eq_true c18
          clear c18
          obtain ⟨ji19, hji19⟩ : ∃ j_ : Int, (wrap64 ((l1.length : Int) + 1)) = j_ := ⟨_, rfl⟩
          try clear hji6w
          try clear hji6
          replace H : (if 0 ≤ (ji19) then (if (ji19 : Int).toNat ≤ 35184372088832 then (if 0 ≤ x6_1 then (if x6_1 < (x5_1.length : Int) then (spec_l7Table.l1 k1 l0 l1 (x5_1.set (x6_1 : Int).toNat (List.replicate (ji19 : Int).toNat 0)) x6_1 (wrap64 ((l1.length : Int) - 1))) else (none)) else (none)) else (none)) else (none)) = some r := by first | (rw [hji19] at H; exact H) | (simp only [hji19] at H ⊢; exact H)
          have hji19w : (IntKind.i64.wrap ((l1.length : Int) + 1)) = ji19 := (i64_w _).trans hji19
          by_cases c20 : 0 ≤ (ji19)
          ·rw [if_pos c20] at H
           have c20b0 := eq_true c20
           have c20b1 : decide (0 ≤ (ji19)) = true := decide_eq_true c20
           clear c20
           by_cases c21 : (ji19 : Int).toNat ≤ 35184372088832
           ·rw [if_pos c21] at H
            have c21b0 := eq_true c21
            have c21b1 : decide ((ji19 : Int).toNat ≤ 35184372088832) = true := decide_eq_true c21
            clear c21
            obtain ⟨y1009, hy1009⟩ : ∃ y_ : List Int, y_ = (List.replicate (ji19 : Int).toNat 0) := ⟨_, rfl⟩
            replace H : (if 0 ≤ x6_1 then (if x6_1 < (x5_1.length : Int) then (spec_l7Table.l1 k1 l0 l1 (x5_1.set (x6_1 : Int).toNat y1009) x6_1 (wrap64 ((l1.length : Int) - 1))) else (none)) else (none)) = some r := by first | (rw [hy1009]; with_reducible exact H) | (have H2_ := (Option.bind_some _ _).symm.trans H; rw [hy1009]; with_reducible exact H2_) | (have H2_ := (Option.bind_some _ _).symm.trans H; with_reducible exact H2_) | with_reducible exact H | (rw [hy1009]; exact H) | exact H
            have Ny1009 := Aside0.mk hy1009
            clear hy1009
            by_cases c22 : 0 ≤ x6_1
            ·rw [if_pos c22] at H
             have c22b0 : decide (0 ≤ x6_1) = true := decide_eq_true c22
             clear c22
             by_cases c23 : x6_1 < (x5_1.length : Int)
             ·rw [if_pos c23] at H
              have c23b0 : decide (x6_1 < (x5_1.length : Int)) = true := decide_eq_true c23
              clear c23
              obtain ⟨y1012, hy1012⟩ : ∃ y_ : List (List Int), y_ = (x5_1.set (x6_1 : Int).toNat y1009) := ⟨_, rfl⟩
              replace H : (spec_l7Table.l1 k1 l0 l1 y1012 x6_1 (wrap64 ((l1.length : Int) - 1))) = some r := by first | (rw [hy1012]; with_reducible exact H) | (have H2_ := (Option.bind_some _ _).symm.trans H; rw [hy1012]; with_reducible exact H2_) | (have H2_ := (Option.bind_some _ _).symm.trans H; with_reducible exact H2_) | with_reducible exact H | (rw [hy1012]; exact H) | exact H
              have Ny1012 := Aside0.mk hy1012
              clear hy1012
              have H' := Aside0.mk H
              clear H
              go_wp2_with (first | ((with_reducible refine gd 33 rfl ?_); refine Kd.R_make (Kd.int .i64) _ 3 rfl (N := 33) rfl 77 _ _ rfl ji19 rfl rfl Try.underlying77 (.int .i64 0) 8 info3 rfl (by decide) (by omega) 0 (ok := fun _ => True) (okp := fun _ => True) rfl (fun _ hk => hk) trivial (oda) (Nat.le_trans (Nat.mul_le_mul_right _ (oda : ji19.toNat ≤ 35184372088832)) (by omega)) (Below.refl _ _) (Nat.le_refl _) ?_; intro v1010 w25 ho26 hb hg_ hnew_; have HSL1010 := Aside0.mk (Kd.R_slice ho26); clear hg_ hnew_; (first | rw [← Ny1009.out] at ho26 | (simp only [Int.reduceToNat] at ho26; rw [← Ny1009.out] at ho26)); refine Ya3 (Kd.S_elder' (by (with_reducible repeat (first | apply Kd.S_alloc | apply Kd.S_drewN | apply Kd.S_drew)); exact HO_5.out) (Kd.R_base ho26) hb) (Kd.R_lower ho26 (below_size (be HB.out))) (below_step (be HB.out) hb) ?_; clear HO_5 HB; intro HO_5 HO1011 HB; clear hb ho26; have p24 : 0 ≤ (x6_1 : Int) := oda; have q24 : (x6_1 : Int) < ((x5_1.length : Int) : Int) := oda; obtain ⟨_, ce24, hcl24, hM24, hcc24, hfr24, _, _⟩ := Kd.S_elem HO_5.out [] (x6_1 : Int) p24 q24; obtain ⟨ve24_0, rfl, ge24_0⟩ := hM24; have hx24_0 := hcc24 0 _ rfl; have hf24_0 := hfr24 0; (try simp only [show ((Kd.slice 3 (Kd.int .i64))).sz = 1 from rfl, Nat.mul_one, Nat.add_zero] at hx24_0); (try simp only [show ((Kd.slice 3 (Kd.int .i64))).sz = 1 from rfl, Nat.mul_one, Nat.add_zero] at hf24_0); (try clear hM24); clear hcl24 hcc24 hfr24; replace p24 := eq_true p24; replace q24 := eq_true q24; have n_ := Aside0.mk (Kd.S_mono (ok' := (fun k_ => some k_ ≠ (v1010 : Value).ownBlock)) HO_5.out (fun k_ hk => hk.2)); clear HO_5; have HO_5 := n_; clear n_; have HX27 := Aside0.mk (show Kd.S (Kd.slice 3 (Kd.int .i64)) 77 w25 w.heap.size (fun k_ => ((fun _ => True)) k_ ∧ ¬ ((fun k_ => some k_ = (v1010 : Value).ownBlock)) k_) (.slice (some ⟨go11, 0, none⟩) x5_1.length co11) x5_1 from (by (with_reducible repeat (first | apply Kd.S_alloc | apply Kd.S_drewN | apply Kd.S_drew)); exact Kd.S_mono HO_5.out (fun k_ hk => ⟨trivial, fun e_ => hk e_⟩))); obtain ⟨oki27, ce27, hcl27, hM27, hcc27, hfr27, hoki27, hH27⟩ := Kd.S_elem HX27.out [] (x6_1 : Int) (oda) (by have h_ : (x6_1 : Int) < ((x5_1.length : Int) : Int) := oda; first | exact h_ | (have e_ := (Kd.S_reads' HO_5.out).1; omega) | simpa using h_); obtain ⟨ve27_0, rfl, ge27_0⟩ := hM27; have HP27 := Kd.S_seg hH27 (oda) (by have h_ : (x6_1 : Int) < ((x5_1.length : Int) : Int) := oda; first | exact h_ | (have e_ := (Kd.S_reads' HO_5.out).1; omega) | simpa using h_) (seg := [v1010]) (j := 0) (show 1 ≤ 1 from by decide) (x' := y1009) (Kd.M_row (Kd.R_mono (Kd.R_tight rfl (Kd.R_mono (ok' := fun k_ => ((fun _ => True)) k_ ∧ k_ ≠ go11) (Kd.R_apart' (HO1011.out) (Kd.S_typed HO_5.out) (by decide)) (fun k_ hk => ⟨trivial, fun e_ => (hk.2) (by rw [e_]; rfl)⟩))) (fun _ h_ => Or.inr (h_)))) (fun _ hk => hk) (fun k_ hk_ => ((Kd.R_mono (ok' := fun k_ => ((fun _ => True)) k_ ∧ k_ ≠ go11) (Kd.R_apart' (HO1011.out) (Kd.S_typed HO_5.out) (by decide)) (fun k_ hk => ⟨trivial, fun e_ => (hk.2) (by rw [e_]; rfl)⟩))).1 k_ hk_.symm); have hx27_0 := hcc27 0 _ rfl; (try simp only [show ((Kd.slice 3 (Kd.int .i64))).sz = 1 from rfl, Nat.mul_one, Nat.add_zero] at hx27_0); have hf27_0 := hfr27 0; (try simp only [show ((Kd.slice 3 (Kd.int .i64))).sz = 1 from rfl, Nat.mul_one, Nat.add_zero] at hf27_0); (try clear hM27); clear hcl27 hcc27 hfr27 hoki27 hH27; (try simp only [show ((Kd.slice 3 (Kd.int .i64))).sz = 1 from rfl, Nat.mul_one, Nat.add_zero] at HP27)) | ((with_reducible refine gate_store (t := 77) (p := 34) rfl ?_); (try (rw [drewN_self w25]; generalize hq_ : World.drewN w25 _ = w25; have n0_ := Aside0.mk (Kd.S_at hq_ HO_5.out); have n1_ := Aside0.mk (below_at hq_ HB.out); clear hq_ HO_5 HB; have HO_5 := n0_; have HB := n1_; clear n0_ n1_; (try (have n_ := Aside0.mk (Kd.S_mono (ok' := (fun k_ => some k_ ≠ (v1010 : Value).ownBlock)) HO_5.out (fun k_ hk => hk.2)); clear HO_5; have HO_5 := n_; clear n_)); (try (have HX27 := Aside0.mk (show Kd.S (Kd.slice 3 (Kd.int .i64)) 77 w25 w.heap.size (fun k_ => ((fun _ => True)) k_ ∧ ¬ ((fun k_ => some k_ = (v1010 : Value).ownBlock)) k_) (.slice (some ⟨go11, 0, none⟩) x5_1.length co11) x5_1 from (by (with_reducible repeat (first | apply Kd.S_alloc | apply Kd.S_drewN | apply Kd.S_drew)); exact Kd.S_mono HO_5.out (fun k_ hk => ⟨trivial, fun e_ => hk e_⟩))))); (try (obtain ⟨oki27, ce27, hcl27, hM27, hcc27, hfr27, hoki27, hH27⟩ := Kd.S_elem HX27.out [] (x6_1 : Int) (oda) (by have h_ : (x6_1 : Int) < ((x5_1.length : Int) : Int) := oda; first | exact h_ | (have e_ := (Kd.S_reads' HO_5.out).1; omega) | simpa using h_))); (try (obtain ⟨ve27_0, rfl, ge27_0⟩ := hM27)); (try (have HP27 := Kd.S_seg hH27 (oda) (by have h_ : (x6_1 : Int) < ((x5_1.length : Int) : Int) := oda; first | exact h_ | (have e_ := (Kd.S_reads' HO_5.out).1; omega) | simpa using h_) (seg := [v1010]) (j := 0) (show 1 ≤ 1 from by decide) (x' := y1009) (Kd.M_row (Kd.R_mono (Kd.R_tight rfl (Kd.R_mono (ok' := fun k_ => ((fun _ => True)) k_ ∧ k_ ≠ go11) (Kd.R_apart' (HO1011.out) (Kd.S_typed HO_5.out) (by decide)) (fun k_ hk => ⟨trivial, fun e_ => (hk.2) (by rw [e_]; rfl)⟩))) (fun _ h_ => Or.inr (h_)))) (fun _ hk => hk) (fun k_ hk_ => ((Kd.R_mono (ok' := fun k_ => ((fun _ => True)) k_ ∧ k_ ≠ go11) (Kd.R_apart' (HO1011.out) (Kd.S_typed HO_5.out) (by decide)) (fun k_ hk => ⟨trivial, fun e_ => (hk.2) (by rw [e_]; rfl)⟩))).1 k_ hk_.symm))); (try (have hx27_0 := hcc27 0 _ rfl)); (try (try simp only [show ((Kd.slice 3 (Kd.int .i64))).sz = 1 from rfl, Nat.mul_one, Nat.add_zero] at hx27_0)); (try (have hf27_0 := hfr27 0)); (try (try simp only [show ((Kd.slice 3 (Kd.int .i64))).sz = 1 from rfl, Nat.mul_one, Nat.add_zero] at hf27_0)); (try ((try clear hM27); clear hcl27 hcc27 hfr27 hoki27 hH27)); (try (try simp only [show ((Kd.slice 3 (Kd.int .i64))).sz = 1 from rfl, Nat.mul_one, Nat.add_zero] at HP27)))); refine store_event (t := 77) (p := 34) (v := ?vo_w28) (w1 := (w25.setCell ⟨go11, (x6_1 : Int).toNat, none⟩ (v1010))) ?hg ?ho ?hn ?hr ?_; (case ho => rfl); (case hg => rfl); (case hn => rfl); (case hr => first | (go_simp; done) | (go_simp; rfl) | (obtain ⟨A_, c_, e_⟩ := HSL1010.out; subst e_; first | (go_simp; done) | (go_simp; rfl))); intro w28 hw; have hg : w25.grownBy w28 (some go11) := (by rw [hw]; exact HP27.2); have hp_ : Kd.S (Kd.slice 3 (Kd.int .i64)) 77 w28 w.heap.size (fun _ => True) (.slice (some ⟨go11, 0, none⟩) x5_1.length co11) y1012 := (by rw [hw, Ny1012.out]; exact HP27.1); clear HP27; refine Ya2 (hp_) ((by rw [hw]; exact below_set (HB.out) GB11.out : Below w.heap.size w w28)) ?_; clear HO_5 HB HO1011; intro HO_5 HB; clear hg hw hp_))
              repeat (go_quiet (first | ((with_reducible refine gd 33 rfl ?_); refine Kd.R_make (Kd.int .i64) _ 3 rfl (N := 33) rfl 77 _ _ rfl ji19 rfl rfl Try.underlying77 (.int .i64 0) 8 info3 rfl (by decide) (by omega) 0 (ok := fun _ => True) (okp := fun _ => True) rfl (fun _ hk => hk) trivial (oda) (Nat.le_trans (Nat.mul_le_mul_right _ (oda : ji19.toNat ≤ 35184372088832)) (by omega)) (Below.refl _ _) (Nat.le_refl _) ?_; intro v1010 w25 ho26 hb hg_ hnew_; have HSL1010 := Aside0.mk (Kd.R_slice ho26); clear hg_ hnew_; (first | rw [← Ny1009.out] at ho26 | (simp only [Int.reduceToNat] at ho26; rw [← Ny1009.out] at ho26)); refine Ya3 (Kd.S_elder' (by (with_reducible repeat (first | apply Kd.S_alloc | apply Kd.S_drewN | apply Kd.S_drew)); exact HO_5.out) (Kd.R_base ho26) hb) (Kd.R_lower ho26 (below_size (be HB.out))) (below_step (be HB.out) hb) ?_; clear HO_5 HB; intro HO_5 HO1011 HB; clear hb ho26; have p24 : 0 ≤ (x6_1 : Int) := oda; have q24 : (x6_1 : Int) < ((x5_1.length : Int) : Int) := oda; obtain ⟨_, ce24, hcl24, hM24, hcc24, hfr24, _, _⟩ := Kd.S_elem HO_5.out [] (x6_1 : Int) p24 q24; obtain ⟨ve24_0, rfl, ge24_0⟩ := hM24; have hx24_0 := hcc24 0 _ rfl; have hf24_0 := hfr24 0; (try simp only [show ((Kd.slice 3 (Kd.int .i64))).sz = 1 from rfl, Nat.mul_one, Nat.add_zero] at hx24_0); (try simp only [show ((Kd.slice 3 (Kd.int .i64))).sz = 1 from rfl, Nat.mul_one, Nat.add_zero] at hf24_0); (try clear hM24); clear hcl24 hcc24 hfr24; replace p24 := eq_true p24; replace q24 := eq_true q24; have n_ := Aside0.mk (Kd.S_mono (ok' := (fun k_ => some k_ ≠ (v1010 : Value).ownBlock)) HO_5.out (fun k_ hk => hk.2)); clear HO_5; have HO_5 := n_; clear n_; have HX27 := Aside0.mk (show Kd.S (Kd.slice 3 (Kd.int .i64)) 77 w25 w.heap.size (fun k_ => ((fun _ => True)) k_ ∧ ¬ ((fun k_ => some k_ = (v1010 : Value).ownBlock)) k_) (.slice (some ⟨go11, 0, none⟩) x5_1.length co11) x5_1 from (by (with_reducible repeat (first | apply Kd.S_alloc | apply Kd.S_drewN | apply Kd.S_drew)); exact Kd.S_mono HO_5.out (fun k_ hk => ⟨trivial, fun e_ => hk e_⟩))); obtain ⟨oki27, ce27, hcl27, hM27, hcc27, hfr27, hoki27, hH27⟩ := Kd.S_elem HX27.out [] (x6_1 : Int) (oda) (by have h_ : (x6_1 : Int) < ((x5_1.length : Int) : Int) := oda; first | exact h_ | (have e_ := (Kd.S_reads' HO_5.out).1; omega) | simpa using h_); obtain ⟨ve27_0, rfl, ge27_0⟩ := hM27; have HP27 := Kd.S_seg hH27 (oda) (by have h_ : (x6_1 : Int) < ((x5_1.length : Int) : Int) := oda; first | exact h_ | (have e_ := (Kd.S_reads' HO_5.out).1; omega) | simpa using h_) (seg := [v1010]) (j := 0) (show 1 ≤ 1 from by decide) (x' := y1009) (Kd.M_row (Kd.R_mono (Kd.R_tight rfl (Kd.R_mono (ok' := fun k_ => ((fun _ => True)) k_ ∧ k_ ≠ go11) (Kd.R_apart' (HO1011.out) (Kd.S_typed HO_5.out) (by decide)) (fun k_ hk => ⟨trivial, fun e_ => (hk.2) (by rw [e_]; rfl)⟩))) (fun _ h_ => Or.inr (h_)))) (fun _ hk => hk) (fun k_ hk_ => ((Kd.R_mono (ok' := fun k_ => ((fun _ => True)) k_ ∧ k_ ≠ go11) (Kd.R_apart' (HO1011.out) (Kd.S_typed HO_5.out) (by decide)) (fun k_ hk => ⟨trivial, fun e_ => (hk.2) (by rw [e_]; rfl)⟩))).1 k_ hk_.symm); have hx27_0 := hcc27 0 _ rfl; (try simp only [show ((Kd.slice 3 (Kd.int .i64))).sz = 1 from rfl, Nat.mul_one, Nat.add_zero] at hx27_0); have hf27_0 := hfr27 0; (try simp only [show ((Kd.slice 3 (Kd.int .i64))).sz = 1 from rfl, Nat.mul_one, Nat.add_zero] at hf27_0); (try clear hM27); clear hcl27 hcc27 hfr27 hoki27 hH27; (try simp only [show ((Kd.slice 3 (Kd.int .i64))).sz = 1 from rfl, Nat.mul_one, Nat.add_zero] at HP27)) | ((with_reducible refine gate_store (t := 77) (p := 34) rfl ?_); (try (rw [drewN_self w25]; generalize hq_ : World.drewN w25 _ = w25; have n0_ := Aside0.mk (Kd.S_at hq_ HO_5.out); have n1_ := Aside0.mk (below_at hq_ HB.out); clear hq_ HO_5 HB; have HO_5 := n0_; have HB := n1_; clear n0_ n1_; (try (have n_ := Aside0.mk (Kd.S_mono (ok' := (fun k_ => some k_ ≠ (v1010 : Value).ownBlock)) HO_5.out (fun k_ hk => hk.2)); clear HO_5; have HO_5 := n_; clear n_)); (try (have HX27 := Aside0.mk (show Kd.S (Kd.slice 3 (Kd.int .i64)) 77 w25 w.heap.size (fun k_ => ((fun _ => True)) k_ ∧ ¬ ((fun k_ => some k_ = (v1010 : Value).ownBlock)) k_) (.slice (some ⟨go11, 0, none⟩) x5_1.length co11) x5_1 from (by (with_reducible repeat (first | apply Kd.S_alloc | apply Kd.S_drewN | apply Kd.S_drew)); exact Kd.S_mono HO_5.out (fun k_ hk => ⟨trivial, fun e_ => hk e_⟩))))); (try (obtain ⟨oki27, ce27, hcl27, hM27, hcc27, hfr27, hoki27, hH27⟩ := Kd.S_elem HX27.out [] (x6_1 : Int) (oda) (by have h_ : (x6_1 : Int) < ((x5_1.length : Int) : Int) := oda; first | exact h_ | (have e_ := (Kd.S_reads' HO_5.out).1; omega) | simpa using h_))); (try (obtain ⟨ve27_0, rfl, ge27_0⟩ := hM27)); (try (have HP27 := Kd.S_seg hH27 (oda) (by have h_ : (x6_1 : Int) < ((x5_1.length : Int) : Int) := oda; first | exact h_ | (have e_ := (Kd.S_reads' HO_5.out).1; omega) | simpa using h_) (seg := [v1010]) (j := 0) (show 1 ≤ 1 from by decide) (x' := y1009) (Kd.M_row (Kd.R_mono (Kd.R_tight rfl (Kd.R_mono (ok' := fun k_ => ((fun _ => True)) k_ ∧ k_ ≠ go11) (Kd.R_apart' (HO1011.out) (Kd.S_typed HO_5.out) (by decide)) (fun k_ hk => ⟨trivial, fun e_ => (hk.2) (by rw [e_]; rfl)⟩))) (fun _ h_ => Or.inr (h_)))) (fun _ hk => hk) (fun k_ hk_ => ((Kd.R_mono (ok' := fun k_ => ((fun _ => True)) k_ ∧ k_ ≠ go11) (Kd.R_apart' (HO1011.out) (Kd.S_typed HO_5.out) (by decide)) (fun k_ hk => ⟨trivial, fun e_ => (hk.2) (by rw [e_]; rfl)⟩))).1 k_ hk_.symm))); (try (have hx27_0 := hcc27 0 _ rfl)); (try (try simp only [show ((Kd.slice 3 (Kd.int .i64))).sz = 1 from rfl, Nat.mul_one, Nat.add_zero] at hx27_0)); (try (have hf27_0 := hfr27 0)); (try (try simp only [show ((Kd.slice 3 (Kd.int .i64))).sz = 1 from rfl, Nat.mul_one, Nat.add_zero] at hf27_0)); (try ((try clear hM27); clear hcl27 hcc27 hfr27 hoki27 hH27)); (try (try simp only [show ((Kd.slice 3 (Kd.int .i64))).sz = 1 from rfl, Nat.mul_one, Nat.add_zero] at HP27)))); refine store_event (t := 77) (p := 34) (v := ?vo_w28) (w1 := (w25.setCell ⟨go11, (x6_1 : Int).toNat, none⟩ (v1010))) ?hg ?ho ?hn ?hr ?_; (case ho => rfl); (case hg => rfl); (case hn => rfl); (case hr => first | (go_simp; done) | (go_simp; rfl) | (obtain ⟨A_, c_, e_⟩ := HSL1010.out; subst e_; first | (go_simp; done) | (go_simp; rfl))); intro w28 hw; have hg : w25.grownBy w28 (some go11) := (by rw [hw]; exact HP27.2); have hp_ : Kd.S (Kd.slice 3 (Kd.int .i64)) 77 w28 w.heap.size (fun _ => True) (.slice (some ⟨go11, 0, none⟩) x5_1.length co11) y1012 := (by rw [hw, Ny1012.out]; exact HP27.1); clear HP27; refine Ya2 (hp_) ((by rw [hw]; exact below_set (HB.out) GB11.out : Below w.heap.size w w28)) ?_; clear HO_5 HB HO1011; intro HO_5 HB; clear hg hw hp_)); try go_wp2_with (first | ((with_reducible refine gd 33 rfl ?_); refine Kd.R_make (Kd.int .i64) _ 3 rfl (N := 33) rfl 77 _ _ rfl ji19 rfl rfl Try.underlying77 (.int .i64 0) 8 info3 rfl (by decide) (by omega) 0 (ok := fun _ => True) (okp := fun _ => True) rfl (fun _ hk => hk) trivial (oda) (Nat.le_trans (Nat.mul_le_mul_right _ (oda : ji19.toNat ≤ 35184372088832)) (by omega)) (Below.refl _ _) (Nat.le_refl _) ?_; intro v1010 w25 ho26 hb hg_ hnew_; have HSL1010 := Aside0.mk (Kd.R_slice ho26); clear hg_ hnew_; (first | rw [← Ny1009.out] at ho26 | (simp only [Int.reduceToNat] at ho26; rw [← Ny1009.out] at ho26)); refine Ya3 (Kd.S_elder' (by (with_reducible repeat (first | apply Kd.S_alloc | apply Kd.S_drewN | apply Kd.S_drew)); exact HO_5.out) (Kd.R_base ho26) hb) (Kd.R_lower ho26 (below_size (be HB.out))) (below_step (be HB.out) hb) ?_; clear HO_5 HB; intro HO_5 HO1011 HB; clear hb ho26; have p24 : 0 ≤ (x6_1 : Int) := oda; have q24 : (x6_1 : Int) < ((x5_1.length : Int) : Int) := oda; obtain ⟨_, ce24, hcl24, hM24, hcc24, hfr24, _, _⟩ := Kd.S_elem HO_5.out [] (x6_1 : Int) p24 q24; obtain ⟨ve24_0, rfl, ge24_0⟩ := hM24; have hx24_0 := hcc24 0 _ rfl; have hf24_0 := hfr24 0; (try simp only [show ((Kd.slice 3 (Kd.int .i64))).sz = 1 from rfl, Nat.mul_one, Nat.add_zero] at hx24_0); (try simp only [show ((Kd.slice 3 (Kd.int .i64))).sz = 1 from rfl, Nat.mul_one, Nat.add_zero] at hf24_0); (try clear hM24); clear hcl24 hcc24 hfr24; replace p24 := eq_true p24; replace q24 := eq_true q24; have n_ := Aside0.mk (Kd.S_mono (ok' := (fun k_ => some k_ ≠ (v1010 : Value).ownBlock)) HO_5.out (fun k_ hk => hk.2)); clear HO_5; have HO_5 := n_; clear n_; have HX27 := Aside0.mk (show Kd.S (Kd.slice 3 (Kd.int .i64)) 77 w25 w.heap.size (fun k_ => ((fun _ => True)) k_ ∧ ¬ ((fun k_ => some k_ = (v1010 : Value).ownBlock)) k_) (.slice (some ⟨go11, 0, none⟩) x5_1.length co11) x5_1 from (by (with_reducible repeat (first | apply Kd.S_alloc | apply Kd.S_drewN | apply Kd.S_drew)); exact Kd.S_mono HO_5.out (fun k_ hk => ⟨trivial, fun e_ => hk e_⟩))); obtain ⟨oki27, ce27, hcl27, hM27, hcc27, hfr27, hoki27, hH27⟩ := Kd.S_elem HX27.out [] (x6_1 : Int) (oda) (by have h_ : (x6_1 : Int) < ((x5_1.length : Int) : Int) := oda; first | exact h_ | (have e_ := (Kd.S_reads' HO_5.out).1; omega) | simpa using h_); obtain ⟨ve27_0, rfl, ge27_0⟩ := hM27; have HP27 := Kd.S_seg hH27 (oda) (by have h_ : (x6_1 : Int) < ((x5_1.length : Int) : Int) := oda; first | exact h_ | (have e_ := (Kd.S_reads' HO_5.out).1; omega) | simpa using h_) (seg := [v1010]) (j := 0) (show 1 ≤ 1 from by decide) (x' := y1009) (Kd.M_row (Kd.R_mono (Kd.R_tight rfl (Kd.R_mono (ok' := fun k_ => ((fun _ => True)) k_ ∧ k_ ≠ go11) (Kd.R_apart' (HO1011.out) (Kd.S_typed HO_5.out) (by decide)) (fun k_ hk => ⟨trivial, fun e_ => (hk.2) (by rw [e_]; rfl)⟩))) (fun _ h_ => Or.inr (h_)))) (fun _ hk => hk) (fun k_ hk_ => ((Kd.R_mono (ok' := fun k_ => ((fun _ => True)) k_ ∧ k_ ≠ go11) (Kd.R_apart' (HO1011.out) (Kd.S_typed HO_5.out) (by decide)) (fun k_ hk => ⟨trivial, fun e_ => (hk.2) (by rw [e_]; rfl)⟩))).1 k_ hk_.symm); have hx27_0 := hcc27 0 _ rfl; (try simp only [show ((Kd.slice 3 (Kd.int .i64))).sz = 1 from rfl, Nat.mul_one, Nat.add_zero] at hx27_0); have hf27_0 := hfr27 0; (try simp only [show ((Kd.slice 3 (Kd.int .i64))).sz = 1 from rfl, Nat.mul_one, Nat.add_zero] at hf27_0); (try clear hM27); clear hcl27 hcc27 hfr27 hoki27 hH27; (try simp only [show ((Kd.slice 3 (Kd.int .i64))).sz = 1 from rfl, Nat.mul_one, Nat.add_zero] at HP27)) | ((with_reducible refine gate_store (t := 77) (p := 34) rfl ?_); (try (rw [drewN_self w25]; generalize hq_ : World.drewN w25 _ = w25; have n0_ := Aside0.mk (Kd.S_at hq_ HO_5.out); have n1_ := Aside0.mk (below_at hq_ HB.out); clear hq_ HO_5 HB; have HO_5 := n0_; have HB := n1_; clear n0_ n1_; (try (have n_ := Aside0.mk (Kd.S_mono (ok' := (fun k_ => some k_ ≠ (v1010 : Value).ownBlock)) HO_5.out (fun k_ hk => hk.2)); clear HO_5; have HO_5 := n_; clear n_)); (try (have HX27 := Aside0.mk (show Kd.S (Kd.slice 3 (Kd.int .i64)) 77 w25 w.heap.size (fun k_ => ((fun _ => True)) k_ ∧ ¬ ((fun k_ => some k_ = (v1010 : Value).ownBlock)) k_) (.slice (some ⟨go11, 0, none⟩) x5_1.length co11) x5_1 from (by (with_reducible repeat (first | apply Kd.S_alloc | apply Kd.S_drewN | apply Kd.S_drew)); exact Kd.S_mono HO_5.out (fun k_ hk => ⟨trivial, fun e_ => hk e_⟩))))); (try (obtain ⟨oki27, ce27, hcl27, hM27, hcc27, hfr27, hoki27, hH27⟩ := Kd.S_elem HX27.out [] (x6_1 : Int) (oda) (by have h_ : (x6_1 : Int) < ((x5_1.length : Int) : Int) := oda; first | exact h_ | (have e_ := (Kd.S_reads' HO_5.out).1; omega) | simpa using h_))); (try (obtain ⟨ve27_0, rfl, ge27_0⟩ := hM27)); (try (have HP27 := Kd.S_seg hH27 (oda) (by have h_ : (x6_1 : Int) < ((x5_1.length : Int) : Int) := oda; first | exact h_ | (have e_ := (Kd.S_reads' HO_5.out).1; omega) | simpa using h_) (seg := [v1010]) (j := 0) (show 1 ≤ 1 from by decide) (x' := y1009) (Kd.M_row (Kd.R_mono (Kd.R_tight rfl (Kd.R_mono (ok' := fun k_ => ((fun _ => True)) k_ ∧ k_ ≠ go11) (Kd.R_apart' (HO1011.out) (Kd.S_typed HO_5.out) (by decide)) (fun k_ hk => ⟨trivial, fun e_ => (hk.2) (by rw [e_]; rfl)⟩))) (fun _ h_ => Or.inr (h_)))) (fun _ hk => hk) (fun k_ hk_ => ((Kd.R_mono (ok' := fun k_ => ((fun _ => True)) k_ ∧ k_ ≠ go11) (Kd.R_apart' (HO1011.out) (Kd.S_typed HO_5.out) (by decide)) (fun k_ hk => ⟨trivial, fun e_ => (hk.2) (by rw [e_]; rfl)⟩))).1 k_ hk_.symm))); (try (have hx27_0 := hcc27 0 _ rfl)); (try (try simp only [show ((Kd.slice 3 (Kd.int .i64))).sz = 1 from rfl, Nat.mul_one, Nat.add_zero] at hx27_0)); (try (have hf27_0 := hfr27 0)); (try (try simp only [show ((Kd.slice 3 (Kd.int .i64))).sz = 1 from rfl, Nat.mul_one, Nat.add_zero] at hf27_0)); (try ((try clear hM27); clear hcl27 hcc27 hfr27 hoki27 hH27)); (try (try simp only [show ((Kd.slice 3 (Kd.int .i64))).sz = 1 from rfl, Nat.mul_one, Nat.add_zero] at HP27)))); refine store_event (t := 77) (p := 34) (v := ?vo_w28) (w1 := (w25.setCell ⟨go11, (x6_1 : Int).toNat, none⟩ (v1010))) ?hg ?ho ?hn ?hr ?_; (case ho => rfl); (case hg => rfl); (case hn => rfl); (case hr => first | (go_simp; done) | (go_simp; rfl) | (obtain ⟨A_, c_, e_⟩ := HSL1010.out; subst e_; first | (go_simp; done) | (go_simp; rfl))); intro w28 hw; have hg : w25.grownBy w28 (some go11) := (by rw [hw]; exact HP27.2); have hp_ : Kd.S (Kd.slice 3 (Kd.int .i64)) 77 w28 w.heap.size (fun _ => True) (.slice (some ⟨go11, 0, none⟩) x5_1.length co11) y1012 := (by rw [hw, Ny1012.out]; exact HP27.1); clear HP27; refine Ya2 (hp_) ((by rw [hw]; exact below_set (HB.out) GB11.out : Below w.heap.size w w28)) ?_; clear HO_5 HB HO1011; intro HO_5 HB; clear hg hw hp_)))
              go_loopg [7] k1 (fun kq v7 w' => ∃ (x5_2 : List (List Int)) (x7_2 : Int), v7 = .int .i64 x7_2 ∧ Aside0 (spec_l7Table.l1 kq l0 l1 x5_2 x6_1 x7_2 = some r) ∧ Aside0 (kq ≤ k1) ∧ Aside0 (Kd.S (Kd.slice 3 (Kd.int .i64)) 77 w' w.heap.size (fun _ => True) (.slice (some ⟨go11, 0, none⟩) x5_1.length co11) x5_2) ∧ Aside0 (Below w.heap.size w w'))
              case atStart => exact ⟨(y1012), (wrap64 ((l1.length : Int) - 1)), Ye1, H', ⟨Nat.le_refl _⟩, ⟨by (try simp only [hl5_1]); (with_reducible repeat (first | apply Kd.S_alloc | apply Kd.S_drewN | apply Kd.S_drew)); exact HO_5.out⟩, ⟨be HB.out⟩⟩
              case round =>
               clear H'
               try clear c1
               try clear p1
               try clear q1
               try clear hx1
               try clear c2
               try clear p2
               try clear q2
               try clear hx2
               try clear hf2
               try clear c4
               try clear c4b0
               try clear c4b1
               try clear c5
               try clear c5b0
               try clear c5b1
               try clear p6
               try clear c7
               try clear c7b0
               try clear c7b1
               try clear c8
               try clear c8b0
               try clear c8b1
               try clear c9
               try clear c9b0
               try clear c9b1
               try clear c10
               try clear c10b0
               try clear c10b1
               try clear c11
               try clear p11
               try clear q11
               try clear hx11
               try clear hf11
               try clear c16
               try clear hx16
               try clear hf16
               try clear c18
               try clear c18b0
               try clear c20
               try clear c20b0
               try clear c20b1
               try clear c21
               try clear c21b0
               try clear c21b1
               try clear c22
               try clear c22b0
               try clear c23
               try clear c23b0
               try clear c24
               try clear p24
               try clear q24
               try clear hx24
               try clear hf24
               try clear c27
               try clear hx27
               try clear hf27
               try clear hx11_0
               try clear hx16_0
               try clear hx24_0
               try clear hx27_0
               try clear p1
               try clear p11
               try clear p2
               try clear p24
               try clear p6
               try clear q1
               try clear q11
               try clear q24
               obtain ⟨x5_2, x7_2, rfl, HA, HK2, HO_5, HB⟩ := hrel
               have hl5_2 := (Kd.S_reads' HO_5.out).1
               rw [hl5_2] at HO_5
               (try simp only [hl5_2])
               cases gk with
               | zero => exact absurd HA.out (by simp [spec_l7Table.l1])
               | succ k2 =>
                have H := HA.out
                clear HA
                simp only [spec_l7Table.l1] at H
                by_cases c29 : x7_2 ≥ 0
                ·rw [if_pos c29] at H
                 have c29b0 : decide (0 ≤ x7_2) = true := decide_eq_true c29
                 clear c29
                 obtain ⟨ji30, hji30⟩ : ∃ j_ : Int, (wrap64 (x6_1 + 1)) = j_ := ⟨_, rfl⟩
                 replace H : (if 0 ≤ (ji30) then (if (ji30) < (x5_2.length : Int) then (if 0 ≤ x7_2 then (if x7_2 < ((rd_L4 x5_2 (ji30)).length : Int) then (if 0 ≤ x6_1 then (if x6_1 < (x5_2.length : Int) then (if 0 ≤ (wrap64 (x7_2 + 1)) then (if (wrap64 (x7_2 + 1)) < ((rd_L4 x5_2 x6_1).length : Int) then (if (rd (rd_L4 x5_2 x6_1) (wrap64 (x7_2 + 1))) > (rd (rd_L4 x5_2 (ji30)) x7_2) then (if x6_1 < (l0.length : Int) then (if x7_2 < (l1.length : Int) then (if (rdOf ByteArray.empty l0 x6_1).toList = (rdOf ByteArray.empty l1 x7_2).toList then (if (wrap64 (x7_2 + 1)) < ((rd_L4 x5_2 (ji30)).length : Int) then (if (wrap64 ((rd (rd_L4 x5_2 (ji30)) (wrap64 (x7_2 + 1))) + 1)) > (rd (rd_L4 x5_2 x6_1) (wrap64 (x7_2 + 1))) then (if x7_2 < ((rd_L4 x5_2 x6_1).length : Int) then (spec_l7Table.l1 k2 l0 l1 (x5_2.set (x6_1 : Int).toNat ((rd_L4 x5_2 x6_1).set (x7_2 : Int).toNat (wrap64 ((rd (rd_L4 x5_2 (ji30)) (wrap64 (x7_2 + 1))) + 1)))) x6_1 (wrap64 (x7_2 - 1))) else (none)) else (if x7_2 < ((rd_L4 x5_2 x6_1).length : Int) then (spec_l7Table.l1 k2 l0 l1 (x5_2.set (x6_1 : Int).toNat ((rd_L4 x5_2 x6_1).set (x7_2 : Int).toNat (rd (rd_L4 x5_2 x6_1) (wrap64 (x7_2 + 1))))) x6_1 (wrap64 (x7_2 - 1))) else (none))) else (none)) else (if x7_2 < ((rd_L4 x5_2 x6_1).length : Int) then (spec_l7Table.l1 k2 l0 l1 (x5_2.set (x6_1 : Int).toNat ((rd_L4 x5_2 x6_1).set (x7_2 : Int).toNat (rd (rd_L4 x5_2 x6_1) (wrap64 (x7_2 + 1))))) x6_1 (wrap64 (x7_2 - 1))) else (none))) else (none)) else (none)) else (if x6_1 < (l0.length : Int) then (if x7_2 < (l1.length : Int) then (if (rdOf ByteArray.empty l0 x6_1).toList = (rdOf ByteArray.empty l1 x7_2).toList then (if (wrap64 (x7_2 + 1)) < ((rd_L4 x5_2 (ji30)).length : Int) then (if (wrap64 ((rd (rd_L4 x5_2 (ji30)) (wrap64 (x7_2 + 1))) + 1)) > (rd (rd_L4 x5_2 (ji30)) x7_2) then (if x7_2 < ((rd_L4 x5_2 x6_1).length : Int) then (spec_l7Table.l1 k2 l0 l1 (x5_2.set (x6_1 : Int).toNat ((rd_L4 x5_2 x6_1).set (x7_2 : Int).toNat (wrap64 ((rd (rd_L4 x5_2 (ji30)) (wrap64 (x7_2 + 1))) + 1)))) x6_1 (wrap64 (x7_2 - 1))) else (none)) else (if x7_2 < ((rd_L4 x5_2 x6_1).length : Int) then (spec_l7Table.l1 k2 l0 l1 (x5_2.set (x6_1 : Int).toNat ((rd_L4 x5_2 x6_1).set (x7_2 : Int).toNat (rd (rd_L4 x5_2 (ji30)) x7_2))) x6_1 (wrap64 (x7_2 - 1))) else (none))) else (none)) else (if x7_2 < ((rd_L4 x5_2 x6_1).length : Int) then (spec_l7Table.l1 k2 l0 l1 (x5_2.set (x6_1 : Int).toNat ((rd_L4 x5_2 x6_1).set (x7_2 : Int).toNat (rd (rd_L4 x5_2 (ji30)) x7_2))) x6_1 (wrap64 (x7_2 - 1))) else (none))) else (none)) else (none))) else (none)) else (none)) else (none)) else (none)) else (none)) else (none)) else (none)) else (none)) = some r := by first | (rw [hji30] at H; exact H) | (simp only [hji30] at H ⊢; exact H)
                 have hji30w : (IntKind.i64.wrap (x6_1 + 1)) = ji30 := (i64_w _).trans hji30
                 by_cases c31 : 0 ≤ (ji30)
                 ·rw [if_pos c31] at H
                  have c31b0 : decide (0 ≤ (ji30)) = true := decide_eq_true c31
                  clear c31
                  by_cases c32 : (ji30) < (x5_2.length : Int)
                  ·rw [if_pos c32] at H
                   have c32b0 : decide ((ji30) < (x5_2.length : Int)) = true := decide_eq_true c32
                   clear c32
                   by_cases c33 : 0 ≤ x7_2
                   ·rw [if_pos c33] at H
                    have c33b0 : decide (0 ≤ x7_2) = true := decide_eq_true c33
                    clear c33
                    by_cases c34 : x7_2 < ((rd_L4 x5_2 (ji30)).length : Int)
                    ·rw [if_pos c34] at H
                     have c34b0 : decide (x7_2 < ((rd_L4 x5_2 (ji30)).length : Int)) = true := decide_eq_true c34
                     clear c34
                     by_cases c35 : 0 ≤ x6_1
                     ·rw [if_pos c35] at H
                      have c35b0 : decide (0 ≤ x6_1) = true := decide_eq_true c35
                      clear c35
                      by_cases c36 : x6_1 < (x5_2.length : Int)
                      ·rw [if_pos c36] at H
                       have c36b0 : decide (x6_1 < (x5_2.length : Int)) = true := decide_eq_true c36
                       clear c36
                       obtain ⟨ji37, hji37⟩ : ∃ j_ : Int, (wrap64 (x7_2 + 1)) = j_ := ⟨_, rfl⟩
                       replace H : (if 0 ≤ (ji37) then (if (ji37) < ((rd_L4 x5_2 x6_1).length : Int) then (if (rd (rd_L4 x5_2 x6_1) (ji37)) > (rd (rd_L4 x5_2 (ji30)) x7_2) then (if x6_1 < (l0.length : Int) then (if x7_2 < (l1.length : Int) then (if (rdOf ByteArray.empty l0 x6_1).toList = (rdOf ByteArray.empty l1 x7_2).toList then (if (ji37) < ((rd_L4 x5_2 (ji30)).length : Int) then (if (wrap64 ((rd (rd_L4 x5_2 (ji30)) (ji37)) + 1)) > (rd (rd_L4 x5_2 x6_1) (ji37)) then (if x7_2 < ((rd_L4 x5_2 x6_1).length : Int) then (spec_l7Table.l1 k2 l0 l1 (x5_2.set (x6_1 : Int).toNat ((rd_L4 x5_2 x6_1).set (x7_2 : Int).toNat (wrap64 ((rd (rd_L4 x5_2 (ji30)) (ji37)) + 1)))) x6_1 (wrap64 (x7_2 - 1))) else (none)) else (if x7_2 < ((rd_L4 x5_2 x6_1).length : Int) then (spec_l7Table.l1 k2 l0 l1 (x5_2.set (x6_1 : Int).toNat ((rd_L4 x5_2 x6_1).set (x7_2 : Int).toNat (rd (rd_L4 x5_2 x6_1) (ji37)))) x6_1 (wrap64 (x7_2 - 1))) else (none))) else (none)) else (if x7_2 < ((rd_L4 x5_2 x6_1).length : Int) then (spec_l7Table.l1 k2 l0 l1 (x5_2.set (x6_1 : Int).toNat ((rd_L4 x5_2 x6_1).set (x7_2 : Int).toNat (rd (rd_L4 x5_2 x6_1) (ji37)))) x6_1 (wrap64 (x7_2 - 1))) else (none))) else (none)) else (none)) else (if x6_1 < (l0.length : Int) then (if x7_2 < (l1.length : Int) then (if (rdOf ByteArray.empty l0 x6_1).toList = (rdOf ByteArray.empty l1 x7_2).toList then (if (ji37) < ((rd_L4 x5_2 (ji30)).length : Int) then (if (wrap64 ((rd (rd_L4 x5_2 (ji30)) (ji37)) + 1)) > (rd (rd_L4 x5_2 (ji30)) x7_2) then (if x7_2 < ((rd_L4 x5_2 x6_1).length : Int) then (spec_l7Table.l1 k2 l0 l1 (x5_2.set (x6_1 : Int).toNat ((rd_L4 x5_2 x6_1).set (x7_2 : Int).toNat (wrap64 ((rd (rd_L4 x5_2 (ji30)) (ji37)) + 1)))) x6_1 (wrap64 (x7_2 - 1))) else (none)) else (if x7_2 < ((rd_L4 x5_2 x6_1).length : Int) then (spec_l7Table.l1 k2 l0 l1 (x5_2.set (x6_1 : Int).toNat ((rd_L4 x5_2 x6_1).set (x7_2 : Int).toNat (rd (rd_L4 x5_2 (ji30)) x7_2))) x6_1 (wrap64 (x7_2 - 1))) else (none))) else (none)) else (if x7_2 < ((rd_L4 x5_2 x6_1).length : Int) then (spec_l7Table.l1 k2 l0 l1 (x5_2.set (x6_1 : Int).toNat ((rd_L4 x5_2 x6_1).set (x7_2 : Int).toNat (rd (rd_L4 x5_2 (ji30)) x7_2))) x6_1 (wrap64 (x7_2 - 1))) else (none))) else (none)) else (none))) else (none)) else (none)) = some r := by first | (rw [hji37] at H; exact H) | (simp only [hji37] at H ⊢; exact H)
                       have hji37w : (IntKind.i64.wrap (x7_2 + 1)) = ji37 := (i64_w _).trans hji37
                       by_cases c38 : 0 ≤ (ji37)
                       ·rw [if_pos c38] at H
                        have c38b0 : decide (0 ≤ (ji37)) = true := decide_eq_true c38
                        clear c38
                        by_cases c39 : (ji37) < ((rd_L4 x5_2 x6_1).length : Int)
                        ·rw [if_pos c39] at H
                         have c39b0 : decide ((ji37) < ((rd_L4 x5_2 x6_1).length : Int)) = true := decide_eq_true c39
                         clear c39
                         by_cases c40 : (rd (rd_L4 x5_2 x6_1) (ji37)) > (rd (rd_L4 x5_2 (ji30)) x7_2)
                         ·rw [if_pos c40] at H
                          have c40b0 : decide ((rd (rd_L4 x5_2 (ji30)) x7_2) < (rd (rd_L4 x5_2 x6_1) (ji37))) = true := decide_eq_true c40
                          clear c40
                          by_cases c41 : x6_1 < (l0.length : Int)
                          ·rw [if_pos c41] at H
                           have c41b0 : decide (x6_1 < (l0.length : Int)) = true := decide_eq_true c41
                           clear c41
                           by_cases c42 : x7_2 < (l1.length : Int)
                           ·rw [if_pos c42] at H
                            have c42b0 : decide (x7_2 < (l1.length : Int)) = true := decide_eq_true c42
                            clear c42
                            by_cases c43 : (rdOf ByteArray.empty l0 x6_1).toList = (rdOf ByteArray.empty l1 x7_2).toList
                            ·rw [if_pos c43] at H
                             have c43b0 : ((rdOf ByteArray.empty l0 x6_1).toList == (rdOf ByteArray.empty l1 x7_2).toList) = true := beq_iff_eq.mpr c43
                             have c43b1 : ((rdOf ByteArray.empty l0 x6_1).toList != (rdOf ByteArray.empty l1 x7_2).toList) = false := bne_eq_false_iff_eq.mpr c43
                             clear c43
                             by_cases c44 : (ji37) < ((rd_L4 x5_2 (ji30)).length : Int)
                             ·rw [if_pos c44] at H
                              have c44b0 : decide ((ji37) < ((rd_L4 x5_2 (ji30)).length : Int)) = true := decide_eq_true c44
                              clear c44
                              by_cases c45 : (wrap64 ((rd (rd_L4 x5_2 (ji30)) (ji37)) + 1)) > (rd (rd_L4 x5_2 x6_1) (ji37))
                              ·rw [if_pos c45] at H
                               have c45b0 : decide ((rd (rd_L4 x5_2 x6_1) (ji37)) < (wrap64 ((rd (rd_L4 x5_2 (ji30)) (ji37)) + 1))) = true := decide_eq_true c45
                               clear c45
                               by_cases c46 : x7_2 < ((rd_L4 x5_2 x6_1).length : Int)
                               ·rw [if_pos c46] at H
                                have c46b0 : decide (x7_2 < ((rd_L4 x5_2 x6_1).length : Int)) = true := decide_eq_true c46
                                clear c46
                                obtain ⟨y1026, hy1026⟩ : ∃ y_ : List Int, y_ = ((rd_L4 x5_2 x6_1).set (x7_2 : Int).toNat (wrap64 ((rd (rd_L4 x5_2 (ji30)) (ji37)) + 1))) := ⟨_, rfl⟩
                                replace H : (spec_l7Table.l1 k2 l0 l1 (x5_2.set (x6_1 : Int).toNat y1026) x6_1 (wrap64 (x7_2 - 1))) = some r := by first | (rw [hy1026]; with_reducible exact H) | (have H2_ := (Option.bind_some _ _).symm.trans H; rw [hy1026]; with_reducible exact H2_) | (have H2_ := (Option.bind_some _ _).symm.trans H; with_reducible exact H2_) | with_reducible exact H | (rw [hy1026]; exact H) | exact H
                                have Ny1026 := Aside0.mk hy1026
                                clear hy1026
                                obtain ⟨y1028, hy1028⟩ : ∃ y_ : List (List Int), y_ = (x5_2.set (x6_1 : Int).toNat y1026) := ⟨_, rfl⟩
                                replace H : (spec_l7Table.l1 k2 l0 l1 y1028 x6_1 (wrap64 (x7_2 - 1))) = some r := by first | (rw [hy1028]; with_reducible exact H) | (have H2_ := (Option.bind_some _ _).symm.trans H; rw [hy1028]; with_reducible exact H2_) | (have H2_ := (Option.bind_some _ _).symm.trans H; with_reducible exact H2_) | with_reducible exact H | (rw [hy1028]; exact H) | exact H
                                have Ny1028 := Aside0.mk hy1028
                                clear hy1028
                                have H' := Aside0.mk H
                                clear H
                                have p1013 : 0 ≤ ((ji30) : Int) := oda
                                have q1013 : (ji30) < (x5_2.length : Int) := oda
                                obtain ⟨ad1013, A1013_0, c1013_0, e1013, hx1013_0, hl1013_0, hi1013_0⟩ := at_L4 (Kd.S_reads' HO_5.out).2.2 (ji30) p1013 q1013
                                obtain rfl : (⟨go11, 0, none⟩ : Addr) = ad1013 := (by injection e1013)
                                obtain ⟨ce1013, hce1013, hMe1013, hcc1013⟩ := Kd.S_get HO_5.out [] (ji30) p1013 (by first | exact q1013 | exact oda | (have e_ := (Kd.S_reads' HO_5.out).1; omega))
                                obtain ⟨ve1013_0, rfl, ge1013_0⟩ := hMe1013
                                have hv1013_0 := hcc1013 0 _ rfl
                                rw [Nat.add_zero, show ((Kd.slice 3 (Kd.int .i64))).sz = 1 from rfl, Nat.mul_one] at hv1013_0
                                replace hv1013_0 := Option.some.inj (hv1013_0.symm.trans hx1013_0)
                                rw [hv1013_0] at ge1013_0
                                have HL1013_0 := Aside0.mk (show Kd.R (Kd.int .i64) 3 _ _ _ _ (rd_L4 x5_2 (ji30)) from ge1013_0)
                                clear hv1013_0 ge1013_0
                                have HX1013_0 := Aside0.mk hx1013_0
                                clear hcc1013 hce1013
                                (first | simp only [add_plain] at hx1013_0 | simp only [add_at] at hx1013_0 | simp only [Addr.add, Nat.zero_add] at hx1013_0 | skip)
                                have HR1013_0 := Aside0.mk hi1013_0
                                have HC1013_0 := Aside0.mk hl1013_0
                                clear hi1013_0 hl1013_0
                                replace p1013 := eq_true p1013
                                replace q1013 := eq_true q1013
                                have p1014 : 0 ≤ (x7_2 : Int) := oda
                                have q1014 : x7_2 < ((rd_L4 x5_2 (ji30)).length : Int) := oda
                                obtain ⟨ad1014, e1014, hx1014_0⟩ := Kd.at_int (by repeat (first | (with_reducible exact HR1013_0.out) | (with_reducible refine Kd.C_alloc ?_ _) | (with_reducible refine Kd.C_drewN ?_ _) | (with_reducible refine Kd.C_drew ?_) | exact HR1013_0.out)) x7_2 p1014 q1014
                                cases e1014
                                replace p1014 := eq_true p1014
                                replace q1014 := eq_true q1014
                                have p1015 : 0 ≤ (x6_1 : Int) := oda
                                have q1015 : x6_1 < (x5_2.length : Int) := oda
                                obtain ⟨ad1015, A1015_0, c1015_0, e1015, hx1015_0, hl1015_0, hi1015_0⟩ := at_L4 (Kd.S_reads' HO_5.out).2.2 x6_1 p1015 q1015
                                obtain rfl : (⟨go11, 0, none⟩ : Addr) = ad1015 := (by injection e1015)
                                obtain ⟨ce1015, hce1015, hMe1015, hcc1015⟩ := Kd.S_get HO_5.out [] x6_1 p1015 (by first | exact q1015 | exact oda | (have e_ := (Kd.S_reads' HO_5.out).1; omega))
                                obtain ⟨ve1015_0, rfl, ge1015_0⟩ := hMe1015
                                have hv1015_0 := hcc1015 0 _ rfl
                                rw [Nat.add_zero, show ((Kd.slice 3 (Kd.int .i64))).sz = 1 from rfl, Nat.mul_one] at hv1015_0
                                replace hv1015_0 := Option.some.inj (hv1015_0.symm.trans hx1015_0)
                                rw [hv1015_0] at ge1015_0
                                have HL1015_0 := Aside0.mk (show Kd.R (Kd.int .i64) 3 _ _ _ _ (rd_L4 x5_2 x6_1) from ge1015_0)
                                clear hv1015_0 ge1015_0
                                have HX1015_0 := Aside0.mk hx1015_0
                                clear hcc1015 hce1015
                                (first | simp only [add_plain] at hx1015_0 | simp only [add_at] at hx1015_0 | simp only [Addr.add, Nat.zero_add] at hx1015_0 | skip)
                                have HR1015_0 := Aside0.mk hi1015_0
                                have HC1015_0 := Aside0.mk hl1015_0
                                clear hi1015_0 hl1015_0
                                replace p1015 := eq_true p1015
                                replace q1015 := eq_true q1015
                                have p1016 : 0 ≤ ((ji37) : Int) := oda
                                have q1016 : (ji37) < ((rd_L4 x5_2 x6_1).length : Int) := oda
                                obtain ⟨ad1016, e1016, hx1016_0⟩ := Kd.at_int (by repeat (first | (with_reducible exact HR1015_0.out) | (with_reducible refine Kd.C_alloc ?_ _) | (with_reducible refine Kd.C_drewN ?_ _) | (with_reducible refine Kd.C_drew ?_) | exact HR1015_0.out)) (ji37) p1016 q1016
                                cases e1016
                                replace p1016 := eq_true p1016
                                replace q1016 := eq_true q1016
                                have p1017 : 0 ≤ (x6_1 : Int) := oda
                                have q1017 : x6_1 < (x5_2.length : Int) := oda
                                obtain ⟨ad1017, A1017_0, c1017_0, e1017, hx1017_0, hl1017_0, hi1017_0⟩ := at_L4 (Kd.S_reads' HO_5.out).2.2 x6_1 p1017 q1017
                                obtain rfl : (⟨go11, 0, none⟩ : Addr) = ad1017 := (by injection e1017)
                                obtain ⟨ce1017, hce1017, hMe1017, hcc1017⟩ := Kd.S_get HO_5.out [] x6_1 p1017 (by first | exact q1017 | exact oda | (have e_ := (Kd.S_reads' HO_5.out).1; omega))
                                obtain ⟨ve1017_0, rfl, ge1017_0⟩ := hMe1017
                                have hv1017_0 := hcc1017 0 _ rfl
                                rw [Nat.add_zero, show ((Kd.slice 3 (Kd.int .i64))).sz = 1 from rfl, Nat.mul_one] at hv1017_0
                                replace hv1017_0 := Option.some.inj (hv1017_0.symm.trans hx1017_0)
                                rw [hv1017_0] at ge1017_0
                                have HL1017_0 := Aside0.mk (show Kd.R (Kd.int .i64) 3 _ _ _ _ (rd_L4 x5_2 x6_1) from ge1017_0)
                                clear hv1017_0 ge1017_0
                                have HX1017_0 := Aside0.mk hx1017_0
                                clear hcc1017 hce1017
                                (first | simp only [add_plain] at hx1017_0 | simp only [add_at] at hx1017_0 | simp only [Addr.add, Nat.zero_add] at hx1017_0 | skip)
                                have HR1017_0 := Aside0.mk hi1017_0
                                have HC1017_0 := Aside0.mk hl1017_0
                                clear hi1017_0 hl1017_0
                                replace p1017 := eq_true p1017
                                replace q1017 := eq_true q1017
                                have ea_ := Option.some.inj (hx1015_0.symm.trans hx1017_0)
                                injection ea_ with ea_ en_ ec_
                                subst ea_
                                subst ec_
                                clear en_
                                have p1018 : 0 ≤ ((ji37) : Int) := oda
                                have q1018 : (ji37) < ((rd_L4 x5_2 x6_1).length : Int) := oda
                                obtain ⟨ad1018, e1018, hx1018_0⟩ := Kd.at_int (by repeat (first | (with_reducible exact HR1017_0.out) | (with_reducible refine Kd.C_alloc ?_ _) | (with_reducible refine Kd.C_drewN ?_ _) | (with_reducible refine Kd.C_drew ?_) | exact HR1017_0.out)) (ji37) p1018 q1018
                                cases e1018
                                replace p1018 := eq_true p1018
                                replace q1018 := eq_true q1018
                                have p1019 : 0 ≤ (x6_1 : Int) := oda
                                have q1019 : x6_1 < (l0.length : Int) := oda
                                obtain ⟨ad1019, e1019, hx1019_0⟩ := Kd.at_string (Kd.C_below HR0.out HB.out) x6_1 p1019 q1019
                                cases e1019
                                replace p1019 := eq_true p1019
                                replace q1019 := eq_true q1019
                                have p1020 : 0 ≤ (x7_2 : Int) := oda
                                have q1020 : x7_2 < (l1.length : Int) := oda
                                obtain ⟨ad1020, e1020, hx1020_0⟩ := Kd.at_string (Kd.C_below HR1.out HB.out) x7_2 p1020 q1020
                                cases e1020
                                replace p1020 := eq_true p1020
                                replace q1020 := eq_true q1020
                                have p1021 : 0 ≤ ((ji30) : Int) := oda
                                have q1021 : (ji30) < (x5_2.length : Int) := oda
                                obtain ⟨ad1021, A1021_0, c1021_0, e1021, hx1021_0, hl1021_0, hi1021_0⟩ := at_L4 (Kd.S_reads' HO_5.out).2.2 (ji30) p1021 q1021
                                obtain rfl : (⟨go11, 0, none⟩ : Addr) = ad1021 := (by injection e1021)
                                obtain ⟨ce1021, hce1021, hMe1021, hcc1021⟩ := Kd.S_get HO_5.out [] (ji30) p1021 (by first | exact q1021 | exact oda | (have e_ := (Kd.S_reads' HO_5.out).1; omega))
                                obtain ⟨ve1021_0, rfl, ge1021_0⟩ := hMe1021
                                have hv1021_0 := hcc1021 0 _ rfl
                                rw [Nat.add_zero, show ((Kd.slice 3 (Kd.int .i64))).sz = 1 from rfl, Nat.mul_one] at hv1021_0
                                replace hv1021_0 := Option.some.inj (hv1021_0.symm.trans hx1021_0)
                                rw [hv1021_0] at ge1021_0
                                have HL1021_0 := Aside0.mk (show Kd.R (Kd.int .i64) 3 _ _ _ _ (rd_L4 x5_2 (ji30)) from ge1021_0)
                                clear hv1021_0 ge1021_0
                                have HX1021_0 := Aside0.mk hx1021_0
                                clear hcc1021 hce1021
                                (first | simp only [add_plain] at hx1021_0 | simp only [add_at] at hx1021_0 | simp only [Addr.add, Nat.zero_add] at hx1021_0 | skip)
                                have HR1021_0 := Aside0.mk hi1021_0
                                have HC1021_0 := Aside0.mk hl1021_0
                                clear hi1021_0 hl1021_0
                                replace p1021 := eq_true p1021
                                replace q1021 := eq_true q1021
                                have ea_ := Option.some.inj (hx1013_0.symm.trans hx1021_0)
                                injection ea_ with ea_ en_ ec_
                                subst ea_
                                subst ec_
                                clear en_
                                have p1022 : 0 ≤ ((ji37) : Int) := oda
                                have q1022 : (ji37) < ((rd_L4 x5_2 (ji30)).length : Int) := oda
                                obtain ⟨ad1022, e1022, hx1022_0⟩ := Kd.at_int (by repeat (first | (with_reducible exact HR1021_0.out) | (with_reducible refine Kd.C_alloc ?_ _) | (with_reducible refine Kd.C_drewN ?_ _) | (with_reducible refine Kd.C_drew ?_) | exact HR1021_0.out)) (ji37) p1022 q1022
                                cases e1022
                                replace p1022 := eq_true p1022
                                replace q1022 := eq_true q1022
                                have p1023 : 0 ≤ ((ji30) : Int) := oda
                                have q1023 : (ji30) < (x5_2.length : Int) := oda
                                obtain ⟨ad1023, A1023_0, c1023_0, e1023, hx1023_0, hl1023_0, hi1023_0⟩ := at_L4 (Kd.S_reads' HO_5.out).2.2 (ji30) p1023 q1023
                                obtain rfl : (⟨go11, 0, none⟩ : Addr) = ad1023 := (by injection e1023)
                                obtain ⟨ce1023, hce1023, hMe1023, hcc1023⟩ := Kd.S_get HO_5.out [] (ji30) p1023 (by first | exact q1023 | exact oda | (have e_ := (Kd.S_reads' HO_5.out).1; omega))
                                obtain ⟨ve1023_0, rfl, ge1023_0⟩ := hMe1023
                                have hv1023_0 := hcc1023 0 _ rfl
                                rw [Nat.add_zero, show ((Kd.slice 3 (Kd.int .i64))).sz = 1 from rfl, Nat.mul_one] at hv1023_0
                                replace hv1023_0 := Option.some.inj (hv1023_0.symm.trans hx1023_0)
                                rw [hv1023_0] at ge1023_0
                                have HL1023_0 := Aside0.mk (show Kd.R (Kd.int .i64) 3 _ _ _ _ (rd_L4 x5_2 (ji30)) from ge1023_0)
                                clear hv1023_0 ge1023_0
                                have HX1023_0 := Aside0.mk hx1023_0
                                clear hcc1023 hce1023
                                (first | simp only [add_plain] at hx1023_0 | simp only [add_at] at hx1023_0 | simp only [Addr.add, Nat.zero_add] at hx1023_0 | skip)
                                have HR1023_0 := Aside0.mk hi1023_0
                                have HC1023_0 := Aside0.mk hl1023_0
                                clear hi1023_0 hl1023_0
                                replace p1023 := eq_true p1023
                                replace q1023 := eq_true q1023
                                have ea_ := Option.some.inj (hx1013_0.symm.trans hx1023_0)
                                injection ea_ with ea_ en_ ec_
                                subst ea_
                                subst ec_
                                clear en_
                                have p1024 : 0 ≤ ((ji37) : Int) := oda
                                have q1024 : (ji37) < ((rd_L4 x5_2 (ji30)).length : Int) := oda
                                obtain ⟨ad1024, e1024, hx1024_0⟩ := Kd.at_int (by repeat (first | (with_reducible exact HR1023_0.out) | (with_reducible refine Kd.C_alloc ?_ _) | (with_reducible refine Kd.C_drewN ?_ _) | (with_reducible refine Kd.C_drew ?_) | exact HR1023_0.out)) (ji37) p1024 q1024
                                cases e1024
                                replace p1024 := eq_true p1024
                                replace q1024 := eq_true q1024
                                have p1025 : 0 ≤ (x6_1 : Int) := oda
                                have q1025 : x6_1 < (x5_2.length : Int) := oda
                                obtain ⟨ad1025, A1025_0, c1025_0, e1025, hx1025_0, hl1025_0, hi1025_0⟩ := at_L4 (Kd.S_reads' HO_5.out).2.2 x6_1 p1025 q1025
                                obtain rfl : (⟨go11, 0, none⟩ : Addr) = ad1025 := (by injection e1025)
                                obtain ⟨ce1025, hce1025, hMe1025, hcc1025⟩ := Kd.S_get HO_5.out [] x6_1 p1025 (by first | exact q1025 | exact oda | (have e_ := (Kd.S_reads' HO_5.out).1; omega))
                                obtain ⟨ve1025_0, rfl, ge1025_0⟩ := hMe1025
                                have hv1025_0 := hcc1025 0 _ rfl
                                rw [Nat.add_zero, show ((Kd.slice 3 (Kd.int .i64))).sz = 1 from rfl, Nat.mul_one] at hv1025_0
                                replace hv1025_0 := Option.some.inj (hv1025_0.symm.trans hx1025_0)
                                rw [hv1025_0] at ge1025_0
                                have HL1025_0 := Aside0.mk (show Kd.R (Kd.int .i64) 3 _ _ _ _ (rd_L4 x5_2 x6_1) from ge1025_0)
                                clear hv1025_0 ge1025_0
                                have HX1025_0 := Aside0.mk hx1025_0
                                clear hcc1025 hce1025
                                (first | simp only [add_plain] at hx1025_0 | simp only [add_at] at hx1025_0 | simp only [Addr.add, Nat.zero_add] at hx1025_0 | skip)
                                have HR1025_0 := Aside0.mk hi1025_0
                                have HC1025_0 := Aside0.mk hl1025_0
                                clear hi1025_0 hl1025_0
                                replace p1025 := eq_true p1025
                                replace q1025 := eq_true q1025
                                have ea_ := Option.some.inj (hx1015_0.symm.trans hx1025_0)
                                injection ea_ with ea_ en_ ec_
                                subst ea_
                                subst ec_
                                clear en_
                                have p47 : 0 ≤ (x7_2 : Int) := oda
                                have q47 : (x7_2 : Int) < (((rd_L4 x5_2 x6_1).length : Int) : Int) := oda
                                obtain ⟨go47, co47, eo47, gb47, gl47, cl47, HG47⟩ := Kd.R_form HL1025_0.out (by omega)
                                (first | cases eo47 | (injection eo47 with ea_ en_ ec_; (first | subst ea_ | (injection ea_ with ea_; subst ea_)); subst ec_; clear en_))
                                have GB47 := Aside0.mk gb47
                                have GG47 := Aside0.mk HG47
                                clear gb47 gl47 HG47
                                (first | simp only [add_plain] at hx1018_0 | skip)
                                obtain ⟨hx47_0, hf47_0⟩ := Kd.R_celln 0 HL1025_0.out (x7_2 : Int) p47 q47
                                replace p47 := eq_true p47
                                replace q47 := eq_true q47
                                have hq48 : (x6_1 : Int) < (x5_2.length : Int) := (by have h_ : (x6_1 : Int) < ((x5_2.length : Int) : Int) := oda; first | exact h_ | (have e_ := (Kd.S_reads' HO_5.out).1; omega) | simpa only [List.length_set, List.length_set] using h_)
                                obtain ⟨oki48, ce48, hcl48, hM48, hcc48, hok48, hbk48⟩ := Kd.S_borrow HO_5.out [] (x6_1 : Int) (oda) hq48
                                obtain ⟨ve48_0, rfl, ge48_0⟩ := hM48
                                have hv48 := hcc48 0 _ rfl
                                rw [Nat.add_zero, show ((Kd.slice 3 (Kd.int .i64))).sz = 1 from rfl, Nat.mul_one] at hv48
                                replace hv48 := Option.some.inj (hv48.symm.trans HX1025_0.out)
                                subst hv48
                                clear hcc48 hcl48
                                replace ge48_0 := (show Kd.R (Kd.int .i64) 3 _ _ _ _ (rd_L4 x5_2 x6_1) from ge48_0)
                                have HP48 := Kd.R_putg ge48_0 (x7_2 : Int) (wrap64 ((rd (rd_L4 x5_2 (ji30)) (ji37)) + 1))
                                go_wp2
                                repeat (go_quiet (fail); try go_wp2)
                                (try simp only [← hl5_2])
                                go_roundg k2
                                case measure => have := HK1.out; have := HK2.out; omega
                                case rel => exact ⟨(y1028), (wrap64 (x7_2 - 1)), Ye1, H', ⟨by have := HK1.out; have := HK2.out; omega⟩, ⟨by (try simp only [hl5_1]); (try simp only [hl5_2]); rw [Ny1028.out, Ny1026.out]; exact Kd.S_drewN (hbk48 HP48.2 (fun k_ e_ => by cases e_; exact ge48_0.1 _ rfl) ⟨_, rfl, HP48.1⟩) nq⟩, ⟨below_set (pw_below_drewN HB.out _) GB47.out⟩⟩
                               ·rw [if_neg c46] at H
                                exact absurd H (by simp)
                              ·rw [if_neg c45] at H
                               have c45b0 : decide ((rd (rd_L4 x5_2 x6_1) (ji37)) < (wrap64 ((rd (rd_L4 x5_2 (ji30)) (ji37)) + 1))) = false := decide_eq_false c45
                               clear c45
                               by_cases c50 : x7_2 < ((rd_L4 x5_2 x6_1).length : Int)
                               ·rw [if_pos c50] at H
                                have c50b0 : decide (x7_2 < ((rd_L4 x5_2 x6_1).length : Int)) = true := decide_eq_true c50
                                clear c50
                                obtain ⟨y1030, hy1030⟩ : ∃ y_ : List Int, y_ = ((rd_L4 x5_2 x6_1).set (x7_2 : Int).toNat (rd (rd_L4 x5_2 x6_1) (ji37))) := ⟨_, rfl⟩
                                replace H : (spec_l7Table.l1 k2 l0 l1 (x5_2.set (x6_1 : Int).toNat y1030) x6_1 (wrap64 (x7_2 - 1))) = some r := by first | (rw [hy1030]; with_reducible exact H) | (have H2_ := (Option.bind_some _ _).symm.trans H; rw [hy1030]; with_reducible exact H2_) | (have H2_ := (Option.bind_some _ _).symm.trans H; with_reducible exact H2_) | with_reducible exact H | (rw [hy1030]; exact H) | exact H
                                have Ny1030 := Aside0.mk hy1030
                                clear hy1030
                                obtain ⟨y1032, hy1032⟩ : ∃ y_ : List (List Int), y_ = (x5_2.set (x6_1 : Int).toNat y1030) := ⟨_, rfl⟩
                                replace H : (spec_l7Table.l1 k2 l0 l1 y1032 x6_1 (wrap64 (x7_2 - 1))) = some r := by first | (rw [hy1032]; with_reducible exact H) | (have H2_ := (Option.bind_some _ _).symm.trans H; rw [hy1032]; with_reducible exact H2_) | (have H2_ := (Option.bind_some _ _).symm.trans H; with_reducible exact H2_) | with_reducible exact H | (rw [hy1032]; exact H) | exact H
                                have Ny1032 := Aside0.mk hy1032
                                clear hy1032
                                have H' := Aside0.mk H
                                clear H
                                have p1013 : 0 ≤ ((ji30) : Int) := oda
                                have q1013 : (ji30) < (x5_2.length : Int) := oda
                                obtain ⟨ad1013, A1013_0, c1013_0, e1013, hx1013_0, hl1013_0, hi1013_0⟩ := at_L4 (Kd.S_reads' HO_5.out).2.2 (ji30) p1013 q1013
                                obtain rfl : (⟨go11, 0, none⟩ : Addr) = ad1013 := (by injection e1013)
                                obtain ⟨ce1013, hce1013, hMe1013, hcc1013⟩ := Kd.S_get HO_5.out [] (ji30) p1013 (by first | exact q1013 | exact oda | (have e_ := (Kd.S_reads' HO_5.out).1; omega))
                                obtain ⟨ve1013_0, rfl, ge1013_0⟩ := hMe1013
                                have hv1013_0 := hcc1013 0 _ rfl
                                rw [Nat.add_zero, show ((Kd.slice 3 (Kd.int .i64))).sz = 1 from rfl, Nat.mul_one] at hv1013_0
                                replace hv1013_0 := Option.some.inj (hv1013_0.symm.trans hx1013_0)
                                rw [hv1013_0] at ge1013_0
                                have HL1013_0 := Aside0.mk (show Kd.R (Kd.int .i64) 3 _ _ _ _ (rd_L4 x5_2 (ji30)) from ge1013_0)
                                clear hv1013_0 ge1013_0
                                have HX1013_0 := Aside0.mk hx1013_0
                                clear hcc1013 hce1013
                                (first | simp only [add_plain] at hx1013_0 | simp only [add_at] at hx1013_0 | simp only [Addr.add, Nat.zero_add] at hx1013_0 | skip)
                                have HR1013_0 := Aside0.mk hi1013_0
                                have HC1013_0 := Aside0.mk hl1013_0
                                clear hi1013_0 hl1013_0
                                replace p1013 := eq_true p1013
                                replace q1013 := eq_true q1013
                                have p1014 : 0 ≤ (x7_2 : Int) := oda
                                have q1014 : x7_2 < ((rd_L4 x5_2 (ji30)).length : Int) := oda
                                obtain ⟨ad1014, e1014, hx1014_0⟩ := Kd.at_int (by repeat (first | (with_reducible exact HR1013_0.out) | (with_reducible refine Kd.C_alloc ?_ _) | (with_reducible refine Kd.C_drewN ?_ _) | (with_reducible refine Kd.C_drew ?_) | exact HR1013_0.out)) x7_2 p1014 q1014
                                cases e1014
                                replace p1014 := eq_true p1014
                                replace q1014 := eq_true q1014
                                have p1015 : 0 ≤ (x6_1 : Int) := oda
                                have q1015 : x6_1 < (x5_2.length : Int) := oda
                                obtain ⟨ad1015, A1015_0, c1015_0, e1015, hx1015_0, hl1015_0, hi1015_0⟩ := at_L4 (Kd.S_reads' HO_5.out).2.2 x6_1 p1015 q1015
                                obtain rfl : (⟨go11, 0, none⟩ : Addr) = ad1015 := (by injection e1015)
                                obtain ⟨ce1015, hce1015, hMe1015, hcc1015⟩ := Kd.S_get HO_5.out [] x6_1 p1015 (by first | exact q1015 | exact oda | (have e_ := (Kd.S_reads' HO_5.out).1; omega))
                                obtain ⟨ve1015_0, rfl, ge1015_0⟩ := hMe1015
                                have hv1015_0 := hcc1015 0 _ rfl
                                rw [Nat.add_zero, show ((Kd.slice 3 (Kd.int .i64))).sz = 1 from rfl, Nat.mul_one] at hv1015_0
                                replace hv1015_0 := Option.some.inj (hv1015_0.symm.trans hx1015_0)
                                rw [hv1015_0] at ge1015_0
                                have HL1015_0 := Aside0.mk (show Kd.R (Kd.int .i64) 3 _ _ _ _ (rd_L4 x5_2 x6_1) from ge1015_0)
                                clear hv1015_0 ge1015_0
                                have HX1015_0 := Aside0.mk hx1015_0
                                clear hcc1015 hce1015
                                (first | simp only [add_plain] at hx1015_0 | simp only [add_at] at hx1015_0 | simp only [Addr.add, Nat.zero_add] at hx1015_0 | skip)
                                have HR1015_0 := Aside0.mk hi1015_0
                                have HC1015_0 := Aside0.mk hl1015_0
                                clear hi1015_0 hl1015_0
                                replace p1015 := eq_true p1015
                                replace q1015 := eq_true q1015
                                have p1016 : 0 ≤ ((ji37) : Int) := oda
                                have q1016 : (ji37) < ((rd_L4 x5_2 x6_1).length : Int) := oda
                                obtain ⟨ad1016, e1016, hx1016_0⟩ := Kd.at_int (by repeat (first | (with_reducible exact HR1015_0.out) | (with_reducible refine Kd.C_alloc ?_ _) | (with_reducible refine Kd.C_drewN ?_ _) | (with_reducible refine Kd.C_drew ?_) | exact HR1015_0.out)) (ji37) p1016 q1016
                                cases e1016
                                replace p1016 := eq_true p1016
                                replace q1016 := eq_true q1016
                                have p1017 : 0 ≤ (x6_1 : Int) := oda
                                have q1017 : x6_1 < (x5_2.length : Int) := oda
                                obtain ⟨ad1017, A1017_0, c1017_0, e1017, hx1017_0, hl1017_0, hi1017_0⟩ := at_L4 (Kd.S_reads' HO_5.out).2.2 x6_1 p1017 q1017
                                obtain rfl : (⟨go11, 0, none⟩ : Addr) = ad1017 := (by injection e1017)
                                obtain ⟨ce1017, hce1017, hMe1017, hcc1017⟩ := Kd.S_get HO_5.out [] x6_1 p1017 (by first | exact q1017 | exact oda | (have e_ := (Kd.S_reads' HO_5.out).1; omega))
                                obtain ⟨ve1017_0, rfl, ge1017_0⟩ := hMe1017
                                have hv1017_0 := hcc1017 0 _ rfl
                                rw [Nat.add_zero, show ((Kd.slice 3 (Kd.int .i64))).sz = 1 from rfl, Nat.mul_one] at hv1017_0
                                replace hv1017_0 := Option.some.inj (hv1017_0.symm.trans hx1017_0)
                                rw [hv1017_0] at ge1017_0
                                have HL1017_0 := Aside0.mk (show Kd.R (Kd.int .i64) 3 _ _ _ _ (rd_L4 x5_2 x6_1) from ge1017_0)
                                clear hv1017_0 ge1017_0
                                have HX1017_0 := Aside0.mk hx1017_0
                                clear hcc1017 hce1017
                                (first | simp only [add_plain] at hx1017_0 | simp only [add_at] at hx1017_0 | simp only [Addr.add, Nat.zero_add] at hx1017_0 | skip)
                                have HR1017_0 := Aside0.mk hi1017_0
                                have HC1017_0 := Aside0.mk hl1017_0
                                clear hi1017_0 hl1017_0
                                replace p1017 := eq_true p1017
                                replace q1017 := eq_true q1017
                                have ea_ := Option.some.inj (hx1015_0.symm.trans hx1017_0)
                                injection ea_ with ea_ en_ ec_
                                subst ea_
                                subst ec_
                                clear en_
                                have p1018 : 0 ≤ ((ji37) : Int) := oda
                                have q1018 : (ji37) < ((rd_L4 x5_2 x6_1).length : Int) := oda
                                obtain ⟨ad1018, e1018, hx1018_0⟩ := Kd.at_int (by repeat (first | (with_reducible exact HR1017_0.out) | (with_reducible refine Kd.C_alloc ?_ _) | (with_reducible refine Kd.C_drewN ?_ _) | (with_reducible refine Kd.C_drew ?_) | exact HR1017_0.out)) (ji37) p1018 q1018
                                cases e1018
                                replace p1018 := eq_true p1018
                                replace q1018 := eq_true q1018
                                have p1019 : 0 ≤ (x6_1 : Int) := oda
                                have q1019 : x6_1 < (l0.length : Int) := oda
                                obtain ⟨ad1019, e1019, hx1019_0⟩ := Kd.at_string (Kd.C_below HR0.out HB.out) x6_1 p1019 q1019
                                cases e1019
                                replace p1019 := eq_true p1019
                                replace q1019 := eq_true q1019
                                have p1020 : 0 ≤ (x7_2 : Int) := oda
                                have q1020 : x7_2 < (l1.length : Int) := oda
                                obtain ⟨ad1020, e1020, hx1020_0⟩ := Kd.at_string (Kd.C_below HR1.out HB.out) x7_2 p1020 q1020
                                cases e1020
                                replace p1020 := eq_true p1020
                                replace q1020 := eq_true q1020
                                have p1021 : 0 ≤ ((ji30) : Int) := oda
                                have q1021 : (ji30) < (x5_2.length : Int) := oda
                                obtain ⟨ad1021, A1021_0, c1021_0, e1021, hx1021_0, hl1021_0, hi1021_0⟩ := at_L4 (Kd.S_reads' HO_5.out).2.2 (ji30) p1021 q1021
                                obtain rfl : (⟨go11, 0, none⟩ : Addr) = ad1021 := (by injection e1021)
                                obtain ⟨ce1021, hce1021, hMe1021, hcc1021⟩ := Kd.S_get HO_5.out [] (ji30) p1021 (by first | exact q1021 | exact oda | (have e_ := (Kd.S_reads' HO_5.out).1; omega))
                                obtain ⟨ve1021_0, rfl, ge1021_0⟩ := hMe1021
                                have hv1021_0 := hcc1021 0 _ rfl
                                rw [Nat.add_zero, show ((Kd.slice 3 (Kd.int .i64))).sz = 1 from rfl, Nat.mul_one] at hv1021_0
                                replace hv1021_0 := Option.some.inj (hv1021_0.symm.trans hx1021_0)
                                rw [hv1021_0] at ge1021_0
                                have HL1021_0 := Aside0.mk (show Kd.R (Kd.int .i64) 3 _ _ _ _ (rd_L4 x5_2 (ji30)) from ge1021_0)
                                clear hv1021_0 ge1021_0
                                have HX1021_0 := Aside0.mk hx1021_0
                                clear hcc1021 hce1021
                                (first | simp only [add_plain] at hx1021_0 | simp only [add_at] at hx1021_0 | simp only [Addr.add, Nat.zero_add] at hx1021_0 | skip)
                                have HR1021_0 := Aside0.mk hi1021_0
                                have HC1021_0 := Aside0.mk hl1021_0
                                clear hi1021_0 hl1021_0
                                replace p1021 := eq_true p1021
                                replace q1021 := eq_true q1021
                                have ea_ := Option.some.inj (hx1013_0.symm.trans hx1021_0)
                                injection ea_ with ea_ en_ ec_
                                subst ea_
                                subst ec_
                                clear en_
                                have p1022 : 0 ≤ ((ji37) : Int) := oda
                                have q1022 : (ji37) < ((rd_L4 x5_2 (ji30)).length : Int) := oda
                                obtain ⟨ad1022, e1022, hx1022_0⟩ := Kd.at_int (by repeat (first | (with_reducible exact HR1021_0.out) | (with_reducible refine Kd.C_alloc ?_ _) | (with_reducible refine Kd.C_drewN ?_ _) | (with_reducible refine Kd.C_drew ?_) | exact HR1021_0.out)) (ji37) p1022 q1022
                                cases e1022
                                replace p1022 := eq_true p1022
                                replace q1022 := eq_true q1022
                                have p1029 : 0 ≤ (x6_1 : Int) := oda
                                have q1029 : x6_1 < (x5_2.length : Int) := oda
                                obtain ⟨ad1029, A1029_0, c1029_0, e1029, hx1029_0, hl1029_0, hi1029_0⟩ := at_L4 (Kd.S_reads' HO_5.out).2.2 x6_1 p1029 q1029
                                obtain rfl : (⟨go11, 0, none⟩ : Addr) = ad1029 := (by injection e1029)
                                obtain ⟨ce1029, hce1029, hMe1029, hcc1029⟩ := Kd.S_get HO_5.out [] x6_1 p1029 (by first | exact q1029 | exact oda | (have e_ := (Kd.S_reads' HO_5.out).1; omega))
                                obtain ⟨ve1029_0, rfl, ge1029_0⟩ := hMe1029
                                have hv1029_0 := hcc1029 0 _ rfl
                                rw [Nat.add_zero, show ((Kd.slice 3 (Kd.int .i64))).sz = 1 from rfl, Nat.mul_one] at hv1029_0
                                replace hv1029_0 := Option.some.inj (hv1029_0.symm.trans hx1029_0)
                                rw [hv1029_0] at ge1029_0
                                have HL1029_0 := Aside0.mk (show Kd.R (Kd.int .i64) 3 _ _ _ _ (rd_L4 x5_2 x6_1) from ge1029_0)
                                clear hv1029_0 ge1029_0
                                have HX1029_0 := Aside0.mk hx1029_0
                                clear hcc1029 hce1029
                                (first | simp only [add_plain] at hx1029_0 | simp only [add_at] at hx1029_0 | simp only [Addr.add, Nat.zero_add] at hx1029_0 | skip)
                                have HR1029_0 := Aside0.mk hi1029_0
                                have HC1029_0 := Aside0.mk hl1029_0
                                clear hi1029_0 hl1029_0
                                replace p1029 := eq_true p1029
                                replace q1029 := eq_true q1029
                                have ea_ := Option.some.inj (hx1015_0.symm.trans hx1029_0)
                                injection ea_ with ea_ en_ ec_
                                subst ea_
                                subst ec_
                                clear en_
                                have p51 : 0 ≤ (x7_2 : Int) := oda
                                have q51 : (x7_2 : Int) < (((rd_L4 x5_2 x6_1).length : Int) : Int) := oda
                                obtain ⟨go51, co51, eo51, gb51, gl51, cl51, HG51⟩ := Kd.R_form HL1029_0.out (by omega)
                                (first | cases eo51 | (injection eo51 with ea_ en_ ec_; (first | subst ea_ | (injection ea_ with ea_; subst ea_)); subst ec_; clear en_))
                                have GB51 := Aside0.mk gb51
                                have GG51 := Aside0.mk HG51
                                clear gb51 gl51 HG51
                                (first | simp only [add_plain] at hx1018_0 | skip)
                                obtain ⟨hx51_0, hf51_0⟩ := Kd.R_celln 0 HL1029_0.out (x7_2 : Int) p51 q51
                                replace p51 := eq_true p51
                                replace q51 := eq_true q51
                                have hq52 : (x6_1 : Int) < (x5_2.length : Int) := (by have h_ : (x6_1 : Int) < ((x5_2.length : Int) : Int) := oda; first | exact h_ | (have e_ := (Kd.S_reads' HO_5.out).1; omega) | simpa only [List.length_set, List.length_set] using h_)
                                obtain ⟨oki52, ce52, hcl52, hM52, hcc52, hok52, hbk52⟩ := Kd.S_borrow HO_5.out [] (x6_1 : Int) (oda) hq52
                                obtain ⟨ve52_0, rfl, ge52_0⟩ := hM52
                                have hv52 := hcc52 0 _ rfl
                                rw [Nat.add_zero, show ((Kd.slice 3 (Kd.int .i64))).sz = 1 from rfl, Nat.mul_one] at hv52
                                replace hv52 := Option.some.inj (hv52.symm.trans HX1029_0.out)
                                subst hv52
                                clear hcc52 hcl52
                                replace ge52_0 := (show Kd.R (Kd.int .i64) 3 _ _ _ _ (rd_L4 x5_2 x6_1) from ge52_0)
                                have HP52 := Kd.R_putg ge52_0 (x7_2 : Int) (rd (rd_L4 x5_2 x6_1) (ji37))
                                go_wp2
                                repeat (go_quiet (fail); try go_wp2)
                                (try simp only [← hl5_2])
                                go_roundg k2
                                case measure => have := HK1.out; have := HK2.out; omega
                                case rel => exact ⟨(y1032), (wrap64 (x7_2 - 1)), Ye1, H', ⟨by have := HK1.out; have := HK2.out; omega⟩, ⟨by (try simp only [hl5_1]); (try simp only [hl5_2]); rw [Ny1032.out, Ny1030.out]; exact Kd.S_drewN (hbk52 HP52.2 (fun k_ e_ => by cases e_; exact ge52_0.1 _ rfl) ⟨_, rfl, HP52.1⟩) nq⟩, ⟨below_set (pw_below_drewN HB.out _) GB51.out⟩⟩
                               ·rw [if_neg c50] at H
                                exact absurd H (by simp)
                             ·rw [if_neg c44] at H
                              exact absurd H (by simp)
                            ·rw [if_neg c43] at H
                             have c43b0 : ((rdOf ByteArray.empty l0 x6_1).toList == (rdOf ByteArray.empty l1 x7_2).toList) = false := beq_eq_false_iff_ne.mpr c43
                             have c43b1 : ((rdOf ByteArray.empty l0 x6_1).toList != (rdOf ByteArray.empty l1 x7_2).toList) = true := bne_iff_ne.mpr c43
                             by_cases c54 : x7_2 < ((rd_L4 x5_2 x6_1).length : Int)
                             ·rw [if_pos c54] at H
                              have c54b0 : decide (x7_2 < ((rd_L4 x5_2 x6_1).length : Int)) = true := decide_eq_true c54
                              clear c54
                              obtain ⟨y1034, hy1034⟩ : ∃ y_ : List Int, y_ = ((rd_L4 x5_2 x6_1).set (x7_2 : Int).toNat (rd (rd_L4 x5_2 x6_1) (ji37))) := ⟨_, rfl⟩
                              replace H : (spec_l7Table.l1 k2 l0 l1 (x5_2.set (x6_1 : Int).toNat y1034) x6_1 (wrap64 (x7_2 - 1))) = some r := by first | (rw [hy1034]; with_reducible exact H) | (have H2_ := (Option.bind_some _ _).symm.trans H; rw [hy1034]; with_reducible exact H2_) | (have H2_ := (Option.bind_some _ _).symm.trans H; with_reducible exact H2_) | with_reducible exact H | (rw [hy1034]; exact H) | exact H
                              have Ny1034 := Aside0.mk hy1034
                              clear hy1034
                              obtain ⟨y1036, hy1036⟩ : ∃ y_ : List (List Int), y_ = (x5_2.set (x6_1 : Int).toNat y1034) := ⟨_, rfl⟩
                              replace H : (spec_l7Table.l1 k2 l0 l1 y1036 x6_1 (wrap64 (x7_2 - 1))) = some r := by first | (rw [hy1036]; with_reducible exact H) | (have H2_ := (Option.bind_some _ _).symm.trans H; rw [hy1036]; with_reducible exact H2_) | (have H2_ := (Option.bind_some _ _).symm.trans H; with_reducible exact H2_) | with_reducible exact H | (rw [hy1036]; exact H) | exact H
                              have Ny1036 := Aside0.mk hy1036
                              clear hy1036
                              have H' := Aside0.mk H
                              clear H
                              have p1013 : 0 ≤ ((ji30) : Int) := oda
                              have q1013 : (ji30) < (x5_2.length : Int) := oda
                              obtain ⟨ad1013, A1013_0, c1013_0, e1013, hx1013_0, hl1013_0, hi1013_0⟩ := at_L4 (Kd.S_reads' HO_5.out).2.2 (ji30) p1013 q1013
                              obtain rfl : (⟨go11, 0, none⟩ : Addr) = ad1013 := (by injection e1013)
                              obtain ⟨ce1013, hce1013, hMe1013, hcc1013⟩ := Kd.S_get HO_5.out [] (ji30) p1013 (by first | exact q1013 | exact oda | (have e_ := (Kd.S_reads' HO_5.out).1; omega))
                              obtain ⟨ve1013_0, rfl, ge1013_0⟩ := hMe1013
                              have hv1013_0 := hcc1013 0 _ rfl
                              rw [Nat.add_zero, show ((Kd.slice 3 (Kd.int .i64))).sz = 1 from rfl, Nat.mul_one] at hv1013_0
                              replace hv1013_0 := Option.some.inj (hv1013_0.symm.trans hx1013_0)
                              rw [hv1013_0] at ge1013_0
                              have HL1013_0 := Aside0.mk (show Kd.R (Kd.int .i64) 3 _ _ _ _ (rd_L4 x5_2 (ji30)) from ge1013_0)
                              clear hv1013_0 ge1013_0
                              have HX1013_0 := Aside0.mk hx1013_0
                              clear hcc1013 hce1013
                              (first | simp only [add_plain] at hx1013_0 | simp only [add_at] at hx1013_0 | simp only [Addr.add, Nat.zero_add] at hx1013_0 | skip)
                              have HR1013_0 := Aside0.mk hi1013_0
                              have HC1013_0 := Aside0.mk hl1013_0
                              clear hi1013_0 hl1013_0
                              replace p1013 := eq_true p1013
                              replace q1013 := eq_true q1013
                              have p1014 : 0 ≤ (x7_2 : Int) := oda
                              have q1014 : x7_2 < ((rd_L4 x5_2 (ji30)).length : Int) := oda
                              obtain ⟨ad1014, e1014, hx1014_0⟩ := Kd.at_int (by repeat (first | (with_reducible exact HR1013_0.out) | (with_reducible refine Kd.C_alloc ?_ _) | (with_reducible refine Kd.C_drewN ?_ _) | (with_reducible refine Kd.C_drew ?_) | exact HR1013_0.out)) x7_2 p1014 q1014
                              cases e1014
                              replace p1014 := eq_true p1014
                              replace q1014 := eq_true q1014
                              have p1015 : 0 ≤ (x6_1 : Int) := oda
                              have q1015 : x6_1 < (x5_2.length : Int) := oda
                              obtain ⟨ad1015, A1015_0, c1015_0, e1015, hx1015_0, hl1015_0, hi1015_0⟩ := at_L4 (Kd.S_reads' HO_5.out).2.2 x6_1 p1015 q1015
                              obtain rfl : (⟨go11, 0, none⟩ : Addr) = ad1015 := (by injection e1015)
                              obtain ⟨ce1015, hce1015, hMe1015, hcc1015⟩ := Kd.S_get HO_5.out [] x6_1 p1015 (by first | exact q1015 | exact oda | (have e_ := (Kd.S_reads' HO_5.out).1; omega))
                              obtain ⟨ve1015_0, rfl, ge1015_0⟩ := hMe1015
                              have hv1015_0 := hcc1015 0 _ rfl
                              rw [Nat.add_zero, show ((Kd.slice 3 (Kd.int .i64))).sz = 1 from rfl, Nat.mul_one] at hv1015_0
                              replace hv1015_0 := Option.some.inj (hv1015_0.symm.trans hx1015_0)
                              rw [hv1015_0] at ge1015_0
                              have HL1015_0 := Aside0.mk (show Kd.R (Kd.int .i64) 3 _ _ _ _ (rd_L4 x5_2 x6_1) from ge1015_0)
                              clear hv1015_0 ge1015_0
                              have HX1015_0 := Aside0.mk hx1015_0
                              clear hcc1015 hce1015
                              (first | simp only [add_plain] at hx1015_0 | simp only [add_at] at hx1015_0 | simp only [Addr.add, Nat.zero_add] at hx1015_0 | skip)
                              have HR1015_0 := Aside0.mk hi1015_0
                              have HC1015_0 := Aside0.mk hl1015_0
                              clear hi1015_0 hl1015_0
                              replace p1015 := eq_true p1015
                              replace q1015 := eq_true q1015
                              have p1016 : 0 ≤ ((ji37) : Int) := oda
                              have q1016 : (ji37) < ((rd_L4 x5_2 x6_1).length : Int) := oda
                              obtain ⟨ad1016, e1016, hx1016_0⟩ := Kd.at_int (by repeat (first | (with_reducible exact HR1015_0.out) | (with_reducible refine Kd.C_alloc ?_ _) | (with_reducible refine Kd.C_drewN ?_ _) | (with_reducible refine Kd.C_drew ?_) | exact HR1015_0.out)) (ji37) p1016 q1016
                              cases e1016
                              replace p1016 := eq_true p1016
                              replace q1016 := eq_true q1016
                              have p1017 : 0 ≤ (x6_1 : Int) := oda
                              have q1017 : x6_1 < (x5_2.length : Int) := oda
                              obtain ⟨ad1017, A1017_0, c1017_0, e1017, hx1017_0, hl1017_0, hi1017_0⟩ := at_L4 (Kd.S_reads' HO_5.out).2.2 x6_1 p1017 q1017
                              obtain rfl : (⟨go11, 0, none⟩ : Addr) = ad1017 := (by injection e1017)
                              obtain ⟨ce1017, hce1017, hMe1017, hcc1017⟩ := Kd.S_get HO_5.out [] x6_1 p1017 (by first | exact q1017 | exact oda | (have e_ := (Kd.S_reads' HO_5.out).1; omega))
                              obtain ⟨ve1017_0, rfl, ge1017_0⟩ := hMe1017
                              have hv1017_0 := hcc1017 0 _ rfl
                              rw [Nat.add_zero, show ((Kd.slice 3 (Kd.int .i64))).sz = 1 from rfl, Nat.mul_one] at hv1017_0
                              replace hv1017_0 := Option.some.inj (hv1017_0.symm.trans hx1017_0)
                              rw [hv1017_0] at ge1017_0
                              have HL1017_0 := Aside0.mk (show Kd.R (Kd.int .i64) 3 _ _ _ _ (rd_L4 x5_2 x6_1) from ge1017_0)
                              clear hv1017_0 ge1017_0
                              have HX1017_0 := Aside0.mk hx1017_0
                              clear hcc1017 hce1017
                              (first | simp only [add_plain] at hx1017_0 | simp only [add_at] at hx1017_0 | simp only [Addr.add, Nat.zero_add] at hx1017_0 | skip)
                              have HR1017_0 := Aside0.mk hi1017_0
                              have HC1017_0 := Aside0.mk hl1017_0
                              clear hi1017_0 hl1017_0
                              replace p1017 := eq_true p1017
                              replace q1017 := eq_true q1017
                              have ea_ := Option.some.inj (hx1015_0.symm.trans hx1017_0)
                              injection ea_ with ea_ en_ ec_
                              subst ea_
                              subst ec_
                              clear en_
                              have p1018 : 0 ≤ ((ji37) : Int) := oda
                              have q1018 : (ji37) < ((rd_L4 x5_2 x6_1).length : Int) := oda
                              obtain ⟨ad1018, e1018, hx1018_0⟩ := Kd.at_int (by repeat (first | (with_reducible exact HR1017_0.out) | (with_reducible refine Kd.C_alloc ?_ _) | (with_reducible refine Kd.C_drewN ?_ _) | (with_reducible refine Kd.C_drew ?_) | exact HR1017_0.out)) (ji37) p1018 q1018
                              cases e1018
                              replace p1018 := eq_true p1018
                              replace q1018 := eq_true q1018
                              have p1019 : 0 ≤ (x6_1 : Int) := oda
                              have q1019 : x6_1 < (l0.length : Int) := oda
                              obtain ⟨ad1019, e1019, hx1019_0⟩ := Kd.at_string (Kd.C_below HR0.out HB.out) x6_1 p1019 q1019
                              cases e1019
                              replace p1019 := eq_true p1019
                              replace q1019 := eq_true q1019
                              have p1020 : 0 ≤ (x7_2 : Int) := oda
                              have q1020 : x7_2 < (l1.length : Int) := oda
                              obtain ⟨ad1020, e1020, hx1020_0⟩ := Kd.at_string (Kd.C_below HR1.out HB.out) x7_2 p1020 q1020
                              cases e1020
                              replace p1020 := eq_true p1020
                              replace q1020 := eq_true q1020
                              have p1033 : 0 ≤ (x6_1 : Int) := oda
                              have q1033 : x6_1 < (x5_2.length : Int) := oda
                              obtain ⟨ad1033, A1033_0, c1033_0, e1033, hx1033_0, hl1033_0, hi1033_0⟩ := at_L4 (Kd.S_reads' HO_5.out).2.2 x6_1 p1033 q1033
                              obtain rfl : (⟨go11, 0, none⟩ : Addr) = ad1033 := (by injection e1033)
                              obtain ⟨ce1033, hce1033, hMe1033, hcc1033⟩ := Kd.S_get HO_5.out [] x6_1 p1033 (by first | exact q1033 | exact oda | (have e_ := (Kd.S_reads' HO_5.out).1; omega))
                              obtain ⟨ve1033_0, rfl, ge1033_0⟩ := hMe1033
                              have hv1033_0 := hcc1033 0 _ rfl
                              rw [Nat.add_zero, show ((Kd.slice 3 (Kd.int .i64))).sz = 1 from rfl, Nat.mul_one] at hv1033_0
                              replace hv1033_0 := Option.some.inj (hv1033_0.symm.trans hx1033_0)
                              rw [hv1033_0] at ge1033_0
                              have HL1033_0 := Aside0.mk (show Kd.R (Kd.int .i64) 3 _ _ _ _ (rd_L4 x5_2 x6_1) from ge1033_0)
                              clear hv1033_0 ge1033_0
                              have HX1033_0 := Aside0.mk hx1033_0
                              clear hcc1033 hce1033
                              (first | simp only [add_plain] at hx1033_0 | simp only [add_at] at hx1033_0 | simp only [Addr.add, Nat.zero_add] at hx1033_0 | skip)
                              have HR1033_0 := Aside0.mk hi1033_0
                              have HC1033_0 := Aside0.mk hl1033_0
                              clear hi1033_0 hl1033_0
                              replace p1033 := eq_true p1033
                              replace q1033 := eq_true q1033
                              have ea_ := Option.some.inj (hx1015_0.symm.trans hx1033_0)
                              injection ea_ with ea_ en_ ec_
                              subst ea_
                              subst ec_
                              clear en_
                              have p55 : 0 ≤ (x7_2 : Int) := oda
                              have q55 : (x7_2 : Int) < (((rd_L4 x5_2 x6_1).length : Int) : Int) := oda
                              obtain ⟨go55, co55, eo55, gb55, gl55, cl55, HG55⟩ := Kd.R_form HL1033_0.out (by omega)
                              (first | cases eo55 | (injection eo55 with ea_ en_ ec_; (first | subst ea_ | (injection ea_ with ea_; subst ea_)); subst ec_; clear en_))
                              have GB55 := Aside0.mk gb55
                              have GG55 := Aside0.mk HG55
                              clear gb55 gl55 HG55
                              (first | simp only [add_plain] at hx1018_0 | skip)
                              obtain ⟨hx55_0, hf55_0⟩ := Kd.R_celln 0 HL1033_0.out (x7_2 : Int) p55 q55
                              replace p55 := eq_true p55
                              replace q55 := eq_true q55
                              have hq56 : (x6_1 : Int) < (x5_2.length : Int) := (by have h_ : (x6_1 : Int) < ((x5_2.length : Int) : Int) := oda; first | exact h_ | (have e_ := (Kd.S_reads' HO_5.out).1; omega) | simpa only [List.length_set, List.length_set] using h_)
                              obtain ⟨oki56, ce56, hcl56, hM56, hcc56, hok56, hbk56⟩ := Kd.S_borrow HO_5.out [] (x6_1 : Int) (oda) hq56
                              obtain ⟨ve56_0, rfl, ge56_0⟩ := hM56
                              have hv56 := hcc56 0 _ rfl
                              rw [Nat.add_zero, show ((Kd.slice 3 (Kd.int .i64))).sz = 1 from rfl, Nat.mul_one] at hv56
                              replace hv56 := Option.some.inj (hv56.symm.trans HX1033_0.out)
                              subst hv56
                              clear hcc56 hcl56
                              replace ge56_0 := (show Kd.R (Kd.int .i64) 3 _ _ _ _ (rd_L4 x5_2 x6_1) from ge56_0)
                              have HP56 := Kd.R_putg ge56_0 (x7_2 : Int) (rd (rd_L4 x5_2 x6_1) (ji37))
                              go_wp2
                              repeat (go_quiet (fail); try go_wp2)
                              (try simp only [← hl5_2])
                              go_roundg k2
                              case measure => have := HK1.out; have := HK2.out; omega
                              case rel => exact ⟨(y1036), (wrap64 (x7_2 - 1)), Ye1, H', ⟨by have := HK1.out; have := HK2.out; omega⟩, ⟨by (try simp only [hl5_1]); (try simp only [hl5_2]); rw [Ny1036.out, Ny1034.out]; exact Kd.S_drewN (hbk56 HP56.2 (fun k_ e_ => by cases e_; exact ge56_0.1 _ rfl) ⟨_, rfl, HP56.1⟩) nq⟩, ⟨below_set (pw_below_drewN HB.out _) GB55.out⟩⟩
                             ·rw [if_neg c54] at H
                              exact absurd H (by simp)
                           ·rw [if_neg c42] at H
                            exact absurd H (by simp)
                          ·rw [if_neg c41] at H
                           exact absurd H (by simp)
                         ·rw [if_neg c40] at H
                          have c40b0 : decide ((rd (rd_L4 x5_2 (ji30)) x7_2) < (rd (rd_L4 x5_2 x6_1) (ji37))) = false := decide_eq_false c40
                          clear c40
                          by_cases c58 : x6_1 < (l0.length : Int)
                          ·rw [if_pos c58] at H
                           have c58b0 : decide (x6_1 < (l0.length : Int)) = true := decide_eq_true c58
                           clear c58
                           by_cases c59 : x7_2 < (l1.length : Int)
                           ·rw [if_pos c59] at H
                            have c59b0 : decide (x7_2 < (l1.length : Int)) = true := decide_eq_true c59
                            clear c59
                            by_cases c60 : (rdOf ByteArray.empty l0 x6_1).toList = (rdOf ByteArray.empty l1 x7_2).toList
                            ·rw [if_pos c60] at H
                             have c60b0 : ((rdOf ByteArray.empty l0 x6_1).toList == (rdOf ByteArray.empty l1 x7_2).toList) = true := beq_iff_eq.mpr c60
                             have c60b1 : ((rdOf ByteArray.empty l0 x6_1).toList != (rdOf ByteArray.empty l1 x7_2).toList) = false := bne_eq_false_iff_eq.mpr c60
                             clear c60
                             by_cases c61 : (ji37) < ((rd_L4 x5_2 (ji30)).length : Int)
                             ·rw [if_pos c61] at H
                              have c61b0 : decide ((ji37) < ((rd_L4 x5_2 (ji30)).length : Int)) = true := decide_eq_true c61
                              clear c61
                              by_cases c62 : (wrap64 ((rd (rd_L4 x5_2 (ji30)) (ji37)) + 1)) > (rd (rd_L4 x5_2 (ji30)) x7_2)
                              ·rw [if_pos c62] at H
                               have c62b0 : decide ((rd (rd_L4 x5_2 (ji30)) x7_2) < (wrap64 ((rd (rd_L4 x5_2 (ji30)) (ji37)) + 1))) = true := decide_eq_true c62
                               clear c62
                               by_cases c63 : x7_2 < ((rd_L4 x5_2 x6_1).length : Int)
                               ·rw [if_pos c63] at H
                                have c63b0 : decide (x7_2 < ((rd_L4 x5_2 x6_1).length : Int)) = true := decide_eq_true c63
                                clear c63
                                obtain ⟨y1044, hy1044⟩ : ∃ y_ : List Int, y_ = ((rd_L4 x5_2 x6_1).set (x7_2 : Int).toNat (wrap64 ((rd (rd_L4 x5_2 (ji30)) (ji37)) + 1))) := ⟨_, rfl⟩
                                replace H : (spec_l7Table.l1 k2 l0 l1 (x5_2.set (x6_1 : Int).toNat y1044) x6_1 (wrap64 (x7_2 - 1))) = some r := by first | (rw [hy1044]; with_reducible exact H) | (have H2_ := (Option.bind_some _ _).symm.trans H; rw [hy1044]; with_reducible exact H2_) | (have H2_ := (Option.bind_some _ _).symm.trans H; with_reducible exact H2_) | with_reducible exact H | (rw [hy1044]; exact H) | exact H
                                have Ny1044 := Aside0.mk hy1044
                                clear hy1044
                                obtain ⟨y1046, hy1046⟩ : ∃ y_ : List (List Int), y_ = (x5_2.set (x6_1 : Int).toNat y1044) := ⟨_, rfl⟩
                                replace H : (spec_l7Table.l1 k2 l0 l1 y1046 x6_1 (wrap64 (x7_2 - 1))) = some r := by first | (rw [hy1046]; with_reducible exact H) | (have H2_ := (Option.bind_some _ _).symm.trans H; rw [hy1046]; with_reducible exact H2_) | (have H2_ := (Option.bind_some _ _).symm.trans H; with_reducible exact H2_) | with_reducible exact H | (rw [hy1046]; exact H) | exact H
                                have Ny1046 := Aside0.mk hy1046
                                clear hy1046
                                have H' := Aside0.mk H
                                clear H
                                have p1013 : 0 ≤ ((ji30) : Int) := oda
                                have q1013 : (ji30) < (x5_2.length : Int) := oda
                                obtain ⟨ad1013, A1013_0, c1013_0, e1013, hx1013_0, hl1013_0, hi1013_0⟩ := at_L4 (Kd.S_reads' HO_5.out).2.2 (ji30) p1013 q1013
                                obtain rfl : (⟨go11, 0, none⟩ : Addr) = ad1013 := (by injection e1013)
                                obtain ⟨ce1013, hce1013, hMe1013, hcc1013⟩ := Kd.S_get HO_5.out [] (ji30) p1013 (by first | exact q1013 | exact oda | (have e_ := (Kd.S_reads' HO_5.out).1; omega))
                                obtain ⟨ve1013_0, rfl, ge1013_0⟩ := hMe1013
                                have hv1013_0 := hcc1013 0 _ rfl
                                rw [Nat.add_zero, show ((Kd.slice 3 (Kd.int .i64))).sz = 1 from rfl, Nat.mul_one] at hv1013_0
                                replace hv1013_0 := Option.some.inj (hv1013_0.symm.trans hx1013_0)
                                rw [hv1013_0] at ge1013_0
                                have HL1013_0 := Aside0.mk (show Kd.R (Kd.int .i64) 3 _ _ _ _ (rd_L4 x5_2 (ji30)) from ge1013_0)
                                clear hv1013_0 ge1013_0
                                have HX1013_0 := Aside0.mk hx1013_0
                                clear hcc1013 hce1013
                                (first | simp only [add_plain] at hx1013_0 | simp only [add_at] at hx1013_0 | simp only [Addr.add, Nat.zero_add] at hx1013_0 | skip)
                                have HR1013_0 := Aside0.mk hi1013_0
                                have HC1013_0 := Aside0.mk hl1013_0
                                clear hi1013_0 hl1013_0
                                replace p1013 := eq_true p1013
                                replace q1013 := eq_true q1013
                                have p1014 : 0 ≤ (x7_2 : Int) := oda
                                have q1014 : x7_2 < ((rd_L4 x5_2 (ji30)).length : Int) := oda
                                obtain ⟨ad1014, e1014, hx1014_0⟩ := Kd.at_int (by repeat (first | (with_reducible exact HR1013_0.out) | (with_reducible refine Kd.C_alloc ?_ _) | (with_reducible refine Kd.C_drewN ?_ _) | (with_reducible refine Kd.C_drew ?_) | exact HR1013_0.out)) x7_2 p1014 q1014
                                cases e1014
                                replace p1014 := eq_true p1014
                                replace q1014 := eq_true q1014
                                have p1015 : 0 ≤ (x6_1 : Int) := oda
                                have q1015 : x6_1 < (x5_2.length : Int) := oda
                                obtain ⟨ad1015, A1015_0, c1015_0, e1015, hx1015_0, hl1015_0, hi1015_0⟩ := at_L4 (Kd.S_reads' HO_5.out).2.2 x6_1 p1015 q1015
                                obtain rfl : (⟨go11, 0, none⟩ : Addr) = ad1015 := (by injection e1015)
                                obtain ⟨ce1015, hce1015, hMe1015, hcc1015⟩ := Kd.S_get HO_5.out [] x6_1 p1015 (by first | exact q1015 | exact oda | (have e_ := (Kd.S_reads' HO_5.out).1; omega))
                                obtain ⟨ve1015_0, rfl, ge1015_0⟩ := hMe1015
                                have hv1015_0 := hcc1015 0 _ rfl
                                rw [Nat.add_zero, show ((Kd.slice 3 (Kd.int .i64))).sz = 1 from rfl, Nat.mul_one] at hv1015_0
                                replace hv1015_0 := Option.some.inj (hv1015_0.symm.trans hx1015_0)
                                rw [hv1015_0] at ge1015_0
                                have HL1015_0 := Aside0.mk (show Kd.R (Kd.int .i64) 3 _ _ _ _ (rd_L4 x5_2 x6_1) from ge1015_0)
                                clear hv1015_0 ge1015_0
                                have HX1015_0 := Aside0.mk hx1015_0
                                clear hcc1015 hce1015
                                (first | simp only [add_plain] at hx1015_0 | simp only [add_at] at hx1015_0 | simp only [Addr.add, Nat.zero_add] at hx1015_0 | skip)
                                have HR1015_0 := Aside0.mk hi1015_0
                                have HC1015_0 := Aside0.mk hl1015_0
                                clear hi1015_0 hl1015_0
                                replace p1015 := eq_true p1015
                                replace q1015 := eq_true q1015
                                have p1016 : 0 ≤ ((ji37) : Int) := oda
                                have q1016 : (ji37) < ((rd_L4 x5_2 x6_1).length : Int) := oda
                                obtain ⟨ad1016, e1016, hx1016_0⟩ := Kd.at_int (by repeat (first | (with_reducible exact HR1015_0.out) | (with_reducible refine Kd.C_alloc ?_ _) | (with_reducible refine Kd.C_drewN ?_ _) | (with_reducible refine Kd.C_drew ?_) | exact HR1015_0.out)) (ji37) p1016 q1016
                                cases e1016
                                replace p1016 := eq_true p1016
                                replace q1016 := eq_true q1016
                                have p1037 : 0 ≤ (x6_1 : Int) := oda
                                have q1037 : x6_1 < (l0.length : Int) := oda
                                obtain ⟨ad1037, e1037, hx1037_0⟩ := Kd.at_string (Kd.C_below HR0.out HB.out) x6_1 p1037 q1037
                                cases e1037
                                replace p1037 := eq_true p1037
                                replace q1037 := eq_true q1037
                                have p1038 : 0 ≤ (x7_2 : Int) := oda
                                have q1038 : x7_2 < (l1.length : Int) := oda
                                obtain ⟨ad1038, e1038, hx1038_0⟩ := Kd.at_string (Kd.C_below HR1.out HB.out) x7_2 p1038 q1038
                                cases e1038
                                replace p1038 := eq_true p1038
                                replace q1038 := eq_true q1038
                                have p1039 : 0 ≤ ((ji30) : Int) := oda
                                have q1039 : (ji30) < (x5_2.length : Int) := oda
                                obtain ⟨ad1039, A1039_0, c1039_0, e1039, hx1039_0, hl1039_0, hi1039_0⟩ := at_L4 (Kd.S_reads' HO_5.out).2.2 (ji30) p1039 q1039
                                obtain rfl : (⟨go11, 0, none⟩ : Addr) = ad1039 := (by injection e1039)
                                obtain ⟨ce1039, hce1039, hMe1039, hcc1039⟩ := Kd.S_get HO_5.out [] (ji30) p1039 (by first | exact q1039 | exact oda | (have e_ := (Kd.S_reads' HO_5.out).1; omega))
                                obtain ⟨ve1039_0, rfl, ge1039_0⟩ := hMe1039
                                have hv1039_0 := hcc1039 0 _ rfl
                                rw [Nat.add_zero, show ((Kd.slice 3 (Kd.int .i64))).sz = 1 from rfl, Nat.mul_one] at hv1039_0
                                replace hv1039_0 := Option.some.inj (hv1039_0.symm.trans hx1039_0)
                                rw [hv1039_0] at ge1039_0
                                have HL1039_0 := Aside0.mk (show Kd.R (Kd.int .i64) 3 _ _ _ _ (rd_L4 x5_2 (ji30)) from ge1039_0)
                                clear hv1039_0 ge1039_0
                                have HX1039_0 := Aside0.mk hx1039_0
                                clear hcc1039 hce1039
                                (first | simp only [add_plain] at hx1039_0 | simp only [add_at] at hx1039_0 | simp only [Addr.add, Nat.zero_add] at hx1039_0 | skip)
                                have HR1039_0 := Aside0.mk hi1039_0
                                have HC1039_0 := Aside0.mk hl1039_0
                                clear hi1039_0 hl1039_0
                                replace p1039 := eq_true p1039
                                replace q1039 := eq_true q1039
                                have ea_ := Option.some.inj (hx1013_0.symm.trans hx1039_0)
                                injection ea_ with ea_ en_ ec_
                                subst ea_
                                subst ec_
                                clear en_
                                have p1040 : 0 ≤ ((ji37) : Int) := oda
                                have q1040 : (ji37) < ((rd_L4 x5_2 (ji30)).length : Int) := oda
                                obtain ⟨ad1040, e1040, hx1040_0⟩ := Kd.at_int (by repeat (first | (with_reducible exact HR1039_0.out) | (with_reducible refine Kd.C_alloc ?_ _) | (with_reducible refine Kd.C_drewN ?_ _) | (with_reducible refine Kd.C_drew ?_) | exact HR1039_0.out)) (ji37) p1040 q1040
                                cases e1040
                                replace p1040 := eq_true p1040
                                replace q1040 := eq_true q1040
                                have p1041 : 0 ≤ ((ji30) : Int) := oda
                                have q1041 : (ji30) < (x5_2.length : Int) := oda
                                obtain ⟨ad1041, A1041_0, c1041_0, e1041, hx1041_0, hl1041_0, hi1041_0⟩ := at_L4 (Kd.S_reads' HO_5.out).2.2 (ji30) p1041 q1041
                                obtain rfl : (⟨go11, 0, none⟩ : Addr) = ad1041 := (by injection e1041)
                                obtain ⟨ce1041, hce1041, hMe1041, hcc1041⟩ := Kd.S_get HO_5.out [] (ji30) p1041 (by first | exact q1041 | exact oda | (have e_ := (Kd.S_reads' HO_5.out).1; omega))
                                obtain ⟨ve1041_0, rfl, ge1041_0⟩ := hMe1041
                                have hv1041_0 := hcc1041 0 _ rfl
                                rw [Nat.add_zero, show ((Kd.slice 3 (Kd.int .i64))).sz = 1 from rfl, Nat.mul_one] at hv1041_0
                                replace hv1041_0 := Option.some.inj (hv1041_0.symm.trans hx1041_0)
                                rw [hv1041_0] at ge1041_0
                                have HL1041_0 := Aside0.mk (show Kd.R (Kd.int .i64) 3 _ _ _ _ (rd_L4 x5_2 (ji30)) from ge1041_0)
                                clear hv1041_0 ge1041_0
                                have HX1041_0 := Aside0.mk hx1041_0
                                clear hcc1041 hce1041
                                (first | simp only [add_plain] at hx1041_0 | simp only [add_at] at hx1041_0 | simp only [Addr.add, Nat.zero_add] at hx1041_0 | skip)
                                have HR1041_0 := Aside0.mk hi1041_0
                                have HC1041_0 := Aside0.mk hl1041_0
                                clear hi1041_0 hl1041_0
                                replace p1041 := eq_true p1041
                                replace q1041 := eq_true q1041
                                have ea_ := Option.some.inj (hx1013_0.symm.trans hx1041_0)
                                injection ea_ with ea_ en_ ec_
                                subst ea_
                                subst ec_
                                clear en_
                                have p1042 : 0 ≤ ((ji37) : Int) := oda
                                have q1042 : (ji37) < ((rd_L4 x5_2 (ji30)).length : Int) := oda
                                obtain ⟨ad1042, e1042, hx1042_0⟩ := Kd.at_int (by repeat (first | (with_reducible exact HR1041_0.out) | (with_reducible refine Kd.C_alloc ?_ _) | (with_reducible refine Kd.C_drewN ?_ _) | (with_reducible refine Kd.C_drew ?_) | exact HR1041_0.out)) (ji37) p1042 q1042
                                cases e1042
                                replace p1042 := eq_true p1042
                                replace q1042 := eq_true q1042
                                have p1043 : 0 ≤ (x6_1 : Int) := oda
                                have q1043 : x6_1 < (x5_2.length : Int) := oda
                                obtain ⟨ad1043, A1043_0, c1043_0, e1043, hx1043_0, hl1043_0, hi1043_0⟩ := at_L4 (Kd.S_reads' HO_5.out).2.2 x6_1 p1043 q1043
                                obtain rfl : (⟨go11, 0, none⟩ : Addr) = ad1043 := (by injection e1043)
                                obtain ⟨ce1043, hce1043, hMe1043, hcc1043⟩ := Kd.S_get HO_5.out [] x6_1 p1043 (by first | exact q1043 | exact oda | (have e_ := (Kd.S_reads' HO_5.out).1; omega))
                                obtain ⟨ve1043_0, rfl, ge1043_0⟩ := hMe1043
                                have hv1043_0 := hcc1043 0 _ rfl
                                rw [Nat.add_zero, show ((Kd.slice 3 (Kd.int .i64))).sz = 1 from rfl, Nat.mul_one] at hv1043_0
                                replace hv1043_0 := Option.some.inj (hv1043_0.symm.trans hx1043_0)
                                rw [hv1043_0] at ge1043_0
                                have HL1043_0 := Aside0.mk (show Kd.R (Kd.int .i64) 3 _ _ _ _ (rd_L4 x5_2 x6_1) from ge1043_0)
                                clear hv1043_0 ge1043_0
                                have HX1043_0 := Aside0.mk hx1043_0
                                clear hcc1043 hce1043
                                (first | simp only [add_plain] at hx1043_0 | simp only [add_at] at hx1043_0 | simp only [Addr.add, Nat.zero_add] at hx1043_0 | skip)
                                have HR1043_0 := Aside0.mk hi1043_0
                                have HC1043_0 := Aside0.mk hl1043_0
                                clear hi1043_0 hl1043_0
                                replace p1043 := eq_true p1043
                                replace q1043 := eq_true q1043
                                have ea_ := Option.some.inj (hx1015_0.symm.trans hx1043_0)
                                injection ea_ with ea_ en_ ec_
                                subst ea_
                                subst ec_
                                clear en_
                                have p64 : 0 ≤ (x7_2 : Int) := oda
                                have q64 : (x7_2 : Int) < (((rd_L4 x5_2 x6_1).length : Int) : Int) := oda
                                obtain ⟨go64, co64, eo64, gb64, gl64, cl64, HG64⟩ := Kd.R_form HL1043_0.out (by omega)
                                (first | cases eo64 | (injection eo64 with ea_ en_ ec_; (first | subst ea_ | (injection ea_ with ea_; subst ea_)); subst ec_; clear en_))
                                have GB64 := Aside0.mk gb64
                                have GG64 := Aside0.mk HG64
                                clear gb64 gl64 HG64
                                (first | simp only [add_plain] at hx1016_0 | skip)
                                obtain ⟨hx64_0, hf64_0⟩ := Kd.R_celln 0 HL1043_0.out (x7_2 : Int) p64 q64
                                replace p64 := eq_true p64
                                replace q64 := eq_true q64
                                have hq65 : (x6_1 : Int) < (x5_2.length : Int) := (by have h_ : (x6_1 : Int) < ((x5_2.length : Int) : Int) := oda; first | exact h_ | (have e_ := (Kd.S_reads' HO_5.out).1; omega) | simpa only [List.length_set, List.length_set] using h_)
                                obtain ⟨oki65, ce65, hcl65, hM65, hcc65, hok65, hbk65⟩ := Kd.S_borrow HO_5.out [] (x6_1 : Int) (oda) hq65
                                obtain ⟨ve65_0, rfl, ge65_0⟩ := hM65
                                have hv65 := hcc65 0 _ rfl
                                rw [Nat.add_zero, show ((Kd.slice 3 (Kd.int .i64))).sz = 1 from rfl, Nat.mul_one] at hv65
                                replace hv65 := Option.some.inj (hv65.symm.trans HX1043_0.out)
                                subst hv65
                                clear hcc65 hcl65
                                replace ge65_0 := (show Kd.R (Kd.int .i64) 3 _ _ _ _ (rd_L4 x5_2 x6_1) from ge65_0)
                                have HP65 := Kd.R_putg ge65_0 (x7_2 : Int) (wrap64 ((rd (rd_L4 x5_2 (ji30)) (ji37)) + 1))
                                go_wp2
                                repeat (go_quiet (fail); try go_wp2)
                                (try simp only [← hl5_2])
                                go_roundg k2
                                case measure => have := HK1.out; have := HK2.out; omega
                                case rel => exact ⟨(y1046), (wrap64 (x7_2 - 1)), Ye1, H', ⟨by have := HK1.out; have := HK2.out; omega⟩, ⟨by (try simp only [hl5_1]); (try simp only [hl5_2]); rw [Ny1046.out, Ny1044.out]; exact Kd.S_drewN (hbk65 HP65.2 (fun k_ e_ => by cases e_; exact ge65_0.1 _ rfl) ⟨_, rfl, HP65.1⟩) nq⟩, ⟨below_set (pw_below_drewN HB.out _) GB64.out⟩⟩
                               ·rw [if_neg c63] at H
                                exact absurd H (by simp)
                              ·rw [if_neg c62] at H
                               have c62b0 : decide ((rd (rd_L4 x5_2 (ji30)) x7_2) < (wrap64 ((rd (rd_L4 x5_2 (ji30)) (ji37)) + 1))) = false := decide_eq_false c62
                               clear c62
                               by_cases c67 : x7_2 < ((rd_L4 x5_2 x6_1).length : Int)
                               ·rw [if_pos c67] at H
                                have c67b0 : decide (x7_2 < ((rd_L4 x5_2 x6_1).length : Int)) = true := decide_eq_true c67
                                clear c67
                                obtain ⟨y1048, hy1048⟩ : ∃ y_ : List Int, y_ = ((rd_L4 x5_2 x6_1).set (x7_2 : Int).toNat (rd (rd_L4 x5_2 (ji30)) x7_2)) := ⟨_, rfl⟩
                                replace H : (spec_l7Table.l1 k2 l0 l1 (x5_2.set (x6_1 : Int).toNat y1048) x6_1 (wrap64 (x7_2 - 1))) = some r := by first | (rw [hy1048]; with_reducible exact H) | (have H2_ := (Option.bind_some _ _).symm.trans H; rw [hy1048]; with_reducible exact H2_) | (have H2_ := (Option.bind_some _ _).symm.trans H; with_reducible exact H2_) | with_reducible exact H | (rw [hy1048]; exact H) | exact H
                                have Ny1048 := Aside0.mk hy1048
                                clear hy1048
                                obtain ⟨y1050, hy1050⟩ : ∃ y_ : List (List Int), y_ = (x5_2.set (x6_1 : Int).toNat y1048) := ⟨_, rfl⟩
                                replace H : (spec_l7Table.l1 k2 l0 l1 y1050 x6_1 (wrap64 (x7_2 - 1))) = some r := by first | (rw [hy1050]; with_reducible exact H) | (have H2_ := (Option.bind_some _ _).symm.trans H; rw [hy1050]; with_reducible exact H2_) | (have H2_ := (Option.bind_some _ _).symm.trans H; with_reducible exact H2_) | with_reducible exact H | (rw [hy1050]; exact H) | exact H
                                have Ny1050 := Aside0.mk hy1050
                                clear hy1050
                                have H' := Aside0.mk H
                                clear H
                                have p1013 : 0 ≤ ((ji30) : Int) := oda
                                have q1013 : (ji30) < (x5_2.length : Int) := oda
                                obtain ⟨ad1013, A1013_0, c1013_0, e1013, hx1013_0, hl1013_0, hi1013_0⟩ := at_L4 (Kd.S_reads' HO_5.out).2.2 (ji30) p1013 q1013
                                obtain rfl : (⟨go11, 0, none⟩ : Addr) = ad1013 := (by injection e1013)
                                obtain ⟨ce1013, hce1013, hMe1013, hcc1013⟩ := Kd.S_get HO_5.out [] (ji30) p1013 (by first | exact q1013 | exact oda | (have e_ := (Kd.S_reads' HO_5.out).1; omega))
                                obtain ⟨ve1013_0, rfl, ge1013_0⟩ := hMe1013
                                have hv1013_0 := hcc1013 0 _ rfl
                                rw [Nat.add_zero, show ((Kd.slice 3 (Kd.int .i64))).sz = 1 from rfl, Nat.mul_one] at hv1013_0
                                replace hv1013_0 := Option.some.inj (hv1013_0.symm.trans hx1013_0)
                                rw [hv1013_0] at ge1013_0
                                have HL1013_0 := Aside0.mk (show Kd.R (Kd.int .i64) 3 _ _ _ _ (rd_L4 x5_2 (ji30)) from ge1013_0)
                                clear hv1013_0 ge1013_0
                                have HX1013_0 := Aside0.mk hx1013_0
                                clear hcc1013 hce1013
                                (first | simp only [add_plain] at hx1013_0 | simp only [add_at] at hx1013_0 | simp only [Addr.add, Nat.zero_add] at hx1013_0 | skip)
                                have HR1013_0 := Aside0.mk hi1013_0
                                have HC1013_0 := Aside0.mk hl1013_0
                                clear hi1013_0 hl1013_0
                                replace p1013 := eq_true p1013
                                replace q1013 := eq_true q1013
                                have p1014 : 0 ≤ (x7_2 : Int) := oda
                                have q1014 : x7_2 < ((rd_L4 x5_2 (ji30)).length : Int) := oda
                                obtain ⟨ad1014, e1014, hx1014_0⟩ := Kd.at_int (by repeat (first | (with_reducible exact HR1013_0.out) | (with_reducible refine Kd.C_alloc ?_ _) | (with_reducible refine Kd.C_drewN ?_ _) | (with_reducible refine Kd.C_drew ?_) | exact HR1013_0.out)) x7_2 p1014 q1014
                                cases e1014
                                replace p1014 := eq_true p1014
                                replace q1014 := eq_true q1014
                                have p1015 : 0 ≤ (x6_1 : Int) := oda
                                have q1015 : x6_1 < (x5_2.length : Int) := oda
                                obtain ⟨ad1015, A1015_0, c1015_0, e1015, hx1015_0, hl1015_0, hi1015_0⟩ := at_L4 (Kd.S_reads' HO_5.out).2.2 x6_1 p1015 q1015
                                obtain rfl : (⟨go11, 0, none⟩ : Addr) = ad1015 := (by injection e1015)
                                obtain ⟨ce1015, hce1015, hMe1015, hcc1015⟩ := Kd.S_get HO_5.out [] x6_1 p1015 (by first | exact q1015 | exact oda | (have e_ := (Kd.S_reads' HO_5.out).1; omega))
                                obtain ⟨ve1015_0, rfl, ge1015_0⟩ := hMe1015
                                have hv1015_0 := hcc1015 0 _ rfl
                                rw [Nat.add_zero, show ((Kd.slice 3 (Kd.int .i64))).sz = 1 from rfl, Nat.mul_one] at hv1015_0
                                replace hv1015_0 := Option.some.inj (hv1015_0.symm.trans hx1015_0)
                                rw [hv1015_0] at ge1015_0
                                have HL1015_0 := Aside0.mk (show Kd.R (Kd.int .i64) 3 _ _ _ _ (rd_L4 x5_2 x6_1) from ge1015_0)
                                clear hv1015_0 ge1015_0
                                have HX1015_0 := Aside0.mk hx1015_0
                                clear hcc1015 hce1015
                                (first | simp only [add_plain] at hx1015_0 | simp only [add_at] at hx1015_0 | simp only [Addr.add, Nat.zero_add] at hx1015_0 | skip)
                                have HR1015_0 := Aside0.mk hi1015_0
                                have HC1015_0 := Aside0.mk hl1015_0
                                clear hi1015_0 hl1015_0
                                replace p1015 := eq_true p1015
                                replace q1015 := eq_true q1015
                                have p1016 : 0 ≤ ((ji37) : Int) := oda
                                have q1016 : (ji37) < ((rd_L4 x5_2 x6_1).length : Int) := oda
                                obtain ⟨ad1016, e1016, hx1016_0⟩ := Kd.at_int (by repeat (first | (with_reducible exact HR1015_0.out) | (with_reducible refine Kd.C_alloc ?_ _) | (with_reducible refine Kd.C_drewN ?_ _) | (with_reducible refine Kd.C_drew ?_) | exact HR1015_0.out)) (ji37) p1016 q1016
                                cases e1016
                                replace p1016 := eq_true p1016
                                replace q1016 := eq_true q1016
                                have p1037 : 0 ≤ (x6_1 : Int) := oda
                                have q1037 : x6_1 < (l0.length : Int) := oda
                                obtain ⟨ad1037, e1037, hx1037_0⟩ := Kd.at_string (Kd.C_below HR0.out HB.out) x6_1 p1037 q1037
                                cases e1037
                                replace p1037 := eq_true p1037
                                replace q1037 := eq_true q1037
                                have p1038 : 0 ≤ (x7_2 : Int) := oda
                                have q1038 : x7_2 < (l1.length : Int) := oda
                                obtain ⟨ad1038, e1038, hx1038_0⟩ := Kd.at_string (Kd.C_below HR1.out HB.out) x7_2 p1038 q1038
                                cases e1038
                                replace p1038 := eq_true p1038
                                replace q1038 := eq_true q1038
                                have p1039 : 0 ≤ ((ji30) : Int) := oda
                                have q1039 : (ji30) < (x5_2.length : Int) := oda
                                obtain ⟨ad1039, A1039_0, c1039_0, e1039, hx1039_0, hl1039_0, hi1039_0⟩ := at_L4 (Kd.S_reads' HO_5.out).2.2 (ji30) p1039 q1039
                                obtain rfl : (⟨go11, 0, none⟩ : Addr) = ad1039 := (by injection e1039)
                                obtain ⟨ce1039, hce1039, hMe1039, hcc1039⟩ := Kd.S_get HO_5.out [] (ji30) p1039 (by first | exact q1039 | exact oda | (have e_ := (Kd.S_reads' HO_5.out).1; omega))
                                obtain ⟨ve1039_0, rfl, ge1039_0⟩ := hMe1039
                                have hv1039_0 := hcc1039 0 _ rfl
                                rw [Nat.add_zero, show ((Kd.slice 3 (Kd.int .i64))).sz = 1 from rfl, Nat.mul_one] at hv1039_0
                                replace hv1039_0 := Option.some.inj (hv1039_0.symm.trans hx1039_0)
                                rw [hv1039_0] at ge1039_0
                                have HL1039_0 := Aside0.mk (show Kd.R (Kd.int .i64) 3 _ _ _ _ (rd_L4 x5_2 (ji30)) from ge1039_0)
                                clear hv1039_0 ge1039_0
                                have HX1039_0 := Aside0.mk hx1039_0
                                clear hcc1039 hce1039
                                (first | simp only [add_plain] at hx1039_0 | simp only [add_at] at hx1039_0 | simp only [Addr.add, Nat.zero_add] at hx1039_0 | skip)
                                have HR1039_0 := Aside0.mk hi1039_0
                                have HC1039_0 := Aside0.mk hl1039_0
                                clear hi1039_0 hl1039_0
                                replace p1039 := eq_true p1039
                                replace q1039 := eq_true q1039
                                have ea_ := Option.some.inj (hx1013_0.symm.trans hx1039_0)
                                injection ea_ with ea_ en_ ec_
                                subst ea_
                                subst ec_
                                clear en_
                                have p1040 : 0 ≤ ((ji37) : Int) := oda
                                have q1040 : (ji37) < ((rd_L4 x5_2 (ji30)).length : Int) := oda
                                obtain ⟨ad1040, e1040, hx1040_0⟩ := Kd.at_int (by repeat (first | (with_reducible exact HR1039_0.out) | (with_reducible refine Kd.C_alloc ?_ _) | (with_reducible refine Kd.C_drewN ?_ _) | (with_reducible refine Kd.C_drew ?_) | exact HR1039_0.out)) (ji37) p1040 q1040
                                cases e1040
                                replace p1040 := eq_true p1040
                                replace q1040 := eq_true q1040
                                have p1047 : 0 ≤ (x6_1 : Int) := oda
                                have q1047 : x6_1 < (x5_2.length : Int) := oda
                                obtain ⟨ad1047, A1047_0, c1047_0, e1047, hx1047_0, hl1047_0, hi1047_0⟩ := at_L4 (Kd.S_reads' HO_5.out).2.2 x6_1 p1047 q1047
                                obtain rfl : (⟨go11, 0, none⟩ : Addr) = ad1047 := (by injection e1047)
                                obtain ⟨ce1047, hce1047, hMe1047, hcc1047⟩ := Kd.S_get HO_5.out [] x6_1 p1047 (by first | exact q1047 | exact oda | (have e_ := (Kd.S_reads' HO_5.out).1; omega))
                                obtain ⟨ve1047_0, rfl, ge1047_0⟩ := hMe1047
                                have hv1047_0 := hcc1047 0 _ rfl
                                rw [Nat.add_zero, show ((Kd.slice 3 (Kd.int .i64))).sz = 1 from rfl, Nat.mul_one] at hv1047_0
                                replace hv1047_0 := Option.some.inj (hv1047_0.symm.trans hx1047_0)
                                rw [hv1047_0] at ge1047_0
                                have HL1047_0 := Aside0.mk (show Kd.R (Kd.int .i64) 3 _ _ _ _ (rd_L4 x5_2 x6_1) from ge1047_0)
                                clear hv1047_0 ge1047_0
                                have HX1047_0 := Aside0.mk hx1047_0
                                clear hcc1047 hce1047
                                (first | simp only [add_plain] at hx1047_0 | simp only [add_at] at hx1047_0 | simp only [Addr.add, Nat.zero_add] at hx1047_0 | skip)
                                have HR1047_0 := Aside0.mk hi1047_0
                                have HC1047_0 := Aside0.mk hl1047_0
                                clear hi1047_0 hl1047_0
                                replace p1047 := eq_true p1047
                                replace q1047 := eq_true q1047
                                have ea_ := Option.some.inj (hx1015_0.symm.trans hx1047_0)
                                injection ea_ with ea_ en_ ec_
                                subst ea_
                                subst ec_
                                clear en_
                                have p68 : 0 ≤ (x7_2 : Int) := oda
                                have q68 : (x7_2 : Int) < (((rd_L4 x5_2 x6_1).length : Int) : Int) := oda
                                obtain ⟨go68, co68, eo68, gb68, gl68, cl68, HG68⟩ := Kd.R_form HL1047_0.out (by omega)
                                (first | cases eo68 | (injection eo68 with ea_ en_ ec_; (first | subst ea_ | (injection ea_ with ea_; subst ea_)); subst ec_; clear en_))
                                have GB68 := Aside0.mk gb68
                                have GG68 := Aside0.mk HG68
                                clear gb68 gl68 HG68
                                (first | simp only [add_plain] at hx1016_0 | skip)
                                obtain ⟨hx68_0, hf68_0⟩ := Kd.R_celln 0 HL1047_0.out (x7_2 : Int) p68 q68
                                replace p68 := eq_true p68
                                replace q68 := eq_true q68
                                have hq69 : (x6_1 : Int) < (x5_2.length : Int) := (by have h_ : (x6_1 : Int) < ((x5_2.length : Int) : Int) := oda; first | exact h_ | (have e_ := (Kd.S_reads' HO_5.out).1; omega) | simpa only [List.length_set, List.length_set] using h_)
                                obtain ⟨oki69, ce69, hcl69, hM69, hcc69, hok69, hbk69⟩ := Kd.S_borrow HO_5.out [] (x6_1 : Int) (oda) hq69
                                obtain ⟨ve69_0, rfl, ge69_0⟩ := hM69
                                have hv69 := hcc69 0 _ rfl
                                rw [Nat.add_zero, show ((Kd.slice 3 (Kd.int .i64))).sz = 1 from rfl, Nat.mul_one] at hv69
                                replace hv69 := Option.some.inj (hv69.symm.trans HX1047_0.out)
                                subst hv69
                                clear hcc69 hcl69
                                replace ge69_0 := (show Kd.R (Kd.int .i64) 3 _ _ _ _ (rd_L4 x5_2 x6_1) from ge69_0)
                                have HP69 := Kd.R_putg ge69_0 (x7_2 : Int) (rd (rd_L4 x5_2 (ji30)) x7_2)
                                go_wp2
                                repeat (go_quiet (fail); try go_wp2)
                                (try simp only [← hl5_2])
                                go_roundg k2
                                case measure => have := HK1.out; have := HK2.out; omega
                                case rel => exact ⟨(y1050), (wrap64 (x7_2 - 1)), Ye1, H', ⟨by have := HK1.out; have := HK2.out; omega⟩, ⟨by (try simp only [hl5_1]); (try simp only [hl5_2]); rw [Ny1050.out, Ny1048.out]; exact Kd.S_drewN (hbk69 HP69.2 (fun k_ e_ => by cases e_; exact ge69_0.1 _ rfl) ⟨_, rfl, HP69.1⟩) nq⟩, ⟨below_set (pw_below_drewN HB.out _) GB68.out⟩⟩
                               ·rw [if_neg c67] at H
                                exact absurd H (by simp)
                             ·rw [if_neg c61] at H
                              exact absurd H (by simp)
                            ·rw [if_neg c60] at H
                             have c60b0 : ((rdOf ByteArray.empty l0 x6_1).toList == (rdOf ByteArray.empty l1 x7_2).toList) = false := beq_eq_false_iff_ne.mpr c60
                             have c60b1 : ((rdOf ByteArray.empty l0 x6_1).toList != (rdOf ByteArray.empty l1 x7_2).toList) = true := bne_iff_ne.mpr c60
                             by_cases c71 : x7_2 < ((rd_L4 x5_2 x6_1).length : Int)
                             ·rw [if_pos c71] at H
                              have c71b0 : decide (x7_2 < ((rd_L4 x5_2 x6_1).length : Int)) = true := decide_eq_true c71
                              clear c71
                              obtain ⟨y1052, hy1052⟩ : ∃ y_ : List Int, y_ = ((rd_L4 x5_2 x6_1).set (x7_2 : Int).toNat (rd (rd_L4 x5_2 (ji30)) x7_2)) := ⟨_, rfl⟩
                              replace H : (spec_l7Table.l1 k2 l0 l1 (x5_2.set (x6_1 : Int).toNat y1052) x6_1 (wrap64 (x7_2 - 1))) = some r := by first | (rw [hy1052]; with_reducible exact H) | (have H2_ := (Option.bind_some _ _).symm.trans H; rw [hy1052]; with_reducible exact H2_) | (have H2_ := (Option.bind_some _ _).symm.trans H; with_reducible exact H2_) | with_reducible exact H | (rw [hy1052]; exact H) | exact H
                              have Ny1052 := Aside0.mk hy1052
                              clear hy1052
                              obtain ⟨y1054, hy1054⟩ : ∃ y_ : List (List Int), y_ = (x5_2.set (x6_1 : Int).toNat y1052) := ⟨_, rfl⟩
                              replace H : (spec_l7Table.l1 k2 l0 l1 y1054 x6_1 (wrap64 (x7_2 - 1))) = some r := by first | (rw [hy1054]; with_reducible exact H) | (have H2_ := (Option.bind_some _ _).symm.trans H; rw [hy1054]; with_reducible exact H2_) | (have H2_ := (Option.bind_some _ _).symm.trans H; with_reducible exact H2_) | with_reducible exact H | (rw [hy1054]; exact H) | exact H
                              have Ny1054 := Aside0.mk hy1054
                              clear hy1054
                              have H' := Aside0.mk H
                              clear H
                              have p1013 : 0 ≤ ((ji30) : Int) := oda
                              have q1013 : (ji30) < (x5_2.length : Int) := oda
                              obtain ⟨ad1013, A1013_0, c1013_0, e1013, hx1013_0, hl1013_0, hi1013_0⟩ := at_L4 (Kd.S_reads' HO_5.out).2.2 (ji30) p1013 q1013
                              obtain rfl : (⟨go11, 0, none⟩ : Addr) = ad1013 := (by injection e1013)
                              obtain ⟨ce1013, hce1013, hMe1013, hcc1013⟩ := Kd.S_get HO_5.out [] (ji30) p1013 (by first | exact q1013 | exact oda | (have e_ := (Kd.S_reads' HO_5.out).1; omega))
                              obtain ⟨ve1013_0, rfl, ge1013_0⟩ := hMe1013
                              have hv1013_0 := hcc1013 0 _ rfl
                              rw [Nat.add_zero, show ((Kd.slice 3 (Kd.int .i64))).sz = 1 from rfl, Nat.mul_one] at hv1013_0
                              replace hv1013_0 := Option.some.inj (hv1013_0.symm.trans hx1013_0)
                              rw [hv1013_0] at ge1013_0
                              have HL1013_0 := Aside0.mk (show Kd.R (Kd.int .i64) 3 _ _ _ _ (rd_L4 x5_2 (ji30)) from ge1013_0)
                              clear hv1013_0 ge1013_0
                              have HX1013_0 := Aside0.mk hx1013_0
                              clear hcc1013 hce1013
                              (first | simp only [add_plain] at hx1013_0 | simp only [add_at] at hx1013_0 | simp only [Addr.add, Nat.zero_add] at hx1013_0 | skip)
                              have HR1013_0 := Aside0.mk hi1013_0
                              have HC1013_0 := Aside0.mk hl1013_0
                              clear hi1013_0 hl1013_0
                              replace p1013 := eq_true p1013
                              replace q1013 := eq_true q1013
                              have p1014 : 0 ≤ (x7_2 : Int) := oda
                              have q1014 : x7_2 < ((rd_L4 x5_2 (ji30)).length : Int) := oda
                              obtain ⟨ad1014, e1014, hx1014_0⟩ := Kd.at_int (by repeat (first | (with_reducible exact HR1013_0.out) | (with_reducible refine Kd.C_alloc ?_ _) | (with_reducible refine Kd.C_drewN ?_ _) | (with_reducible refine Kd.C_drew ?_) | exact HR1013_0.out)) x7_2 p1014 q1014
                              cases e1014
                              replace p1014 := eq_true p1014
                              replace q1014 := eq_true q1014
                              have p1015 : 0 ≤ (x6_1 : Int) := oda
                              have q1015 : x6_1 < (x5_2.length : Int) := oda
                              obtain ⟨ad1015, A1015_0, c1015_0, e1015, hx1015_0, hl1015_0, hi1015_0⟩ := at_L4 (Kd.S_reads' HO_5.out).2.2 x6_1 p1015 q1015
                              obtain rfl : (⟨go11, 0, none⟩ : Addr) = ad1015 := (by injection e1015)
                              obtain ⟨ce1015, hce1015, hMe1015, hcc1015⟩ := Kd.S_get HO_5.out [] x6_1 p1015 (by first | exact q1015 | exact oda | (have e_ := (Kd.S_reads' HO_5.out).1; omega))
                              obtain ⟨ve1015_0, rfl, ge1015_0⟩ := hMe1015
                              have hv1015_0 := hcc1015 0 _ rfl
                              rw [Nat.add_zero, show ((Kd.slice 3 (Kd.int .i64))).sz = 1 from rfl, Nat.mul_one] at hv1015_0
                              replace hv1015_0 := Option.some.inj (hv1015_0.symm.trans hx1015_0)
                              rw [hv1015_0] at ge1015_0
                              have HL1015_0 := Aside0.mk (show Kd.R (Kd.int .i64) 3 _ _ _ _ (rd_L4 x5_2 x6_1) from ge1015_0)
                              clear hv1015_0 ge1015_0
                              have HX1015_0 := Aside0.mk hx1015_0
                              clear hcc1015 hce1015
                              (first | simp only [add_plain] at hx1015_0 | simp only [add_at] at hx1015_0 | simp only [Addr.add, Nat.zero_add] at hx1015_0 | skip)
                              have HR1015_0 := Aside0.mk hi1015_0
                              have HC1015_0 := Aside0.mk hl1015_0
                              clear hi1015_0 hl1015_0
                              replace p1015 := eq_true p1015
                              replace q1015 := eq_true q1015
                              have p1016 : 0 ≤ ((ji37) : Int) := oda
                              have q1016 : (ji37) < ((rd_L4 x5_2 x6_1).length : Int) := oda
                              obtain ⟨ad1016, e1016, hx1016_0⟩ := Kd.at_int (by repeat (first | (with_reducible exact HR1015_0.out) | (with_reducible refine Kd.C_alloc ?_ _) | (with_reducible refine Kd.C_drewN ?_ _) | (with_reducible refine Kd.C_drew ?_) | exact HR1015_0.out)) (ji37) p1016 q1016
                              cases e1016
                              replace p1016 := eq_true p1016
                              replace q1016 := eq_true q1016
                              have p1037 : 0 ≤ (x6_1 : Int) := oda
                              have q1037 : x6_1 < (l0.length : Int) := oda
                              obtain ⟨ad1037, e1037, hx1037_0⟩ := Kd.at_string (Kd.C_below HR0.out HB.out) x6_1 p1037 q1037
                              cases e1037
                              replace p1037 := eq_true p1037
                              replace q1037 := eq_true q1037
                              have p1038 : 0 ≤ (x7_2 : Int) := oda
                              have q1038 : x7_2 < (l1.length : Int) := oda
                              obtain ⟨ad1038, e1038, hx1038_0⟩ := Kd.at_string (Kd.C_below HR1.out HB.out) x7_2 p1038 q1038
                              cases e1038
                              replace p1038 := eq_true p1038
                              replace q1038 := eq_true q1038
                              have p1051 : 0 ≤ (x6_1 : Int) := oda
                              have q1051 : x6_1 < (x5_2.length : Int) := oda
                              obtain ⟨ad1051, A1051_0, c1051_0, e1051, hx1051_0, hl1051_0, hi1051_0⟩ := at_L4 (Kd.S_reads' HO_5.out).2.2 x6_1 p1051 q1051
                              obtain rfl : (⟨go11, 0, none⟩ : Addr) = ad1051 := (by injection e1051)
                              obtain ⟨ce1051, hce1051, hMe1051, hcc1051⟩ := Kd.S_get HO_5.out [] x6_1 p1051 (by first | exact q1051 | exact oda | (have e_ := (Kd.S_reads' HO_5.out).1; omega))
                              obtain ⟨ve1051_0, rfl, ge1051_0⟩ := hMe1051
                              have hv1051_0 := hcc1051 0 _ rfl
                              rw [Nat.add_zero, show ((Kd.slice 3 (Kd.int .i64))).sz = 1 from rfl, Nat.mul_one] at hv1051_0
                              replace hv1051_0 := Option.some.inj (hv1051_0.symm.trans hx1051_0)
                              rw [hv1051_0] at ge1051_0
                              have HL1051_0 := Aside0.mk (show Kd.R (Kd.int .i64) 3 _ _ _ _ (rd_L4 x5_2 x6_1) from ge1051_0)
                              clear hv1051_0 ge1051_0
                              have HX1051_0 := Aside0.mk hx1051_0
                              clear hcc1051 hce1051
                              (first | simp only [add_plain] at hx1051_0 | simp only [add_at] at hx1051_0 | simp only [Addr.add, Nat.zero_add] at hx1051_0 | skip)
                              have HR1051_0 := Aside0.mk hi1051_0
                              have HC1051_0 := Aside0.mk hl1051_0
                              clear hi1051_0 hl1051_0
                              replace p1051 := eq_true p1051
                              replace q1051 := eq_true q1051
                              have ea_ := Option.some.inj (hx1015_0.symm.trans hx1051_0)
                              injection ea_ with ea_ en_ ec_
                              subst ea_
                              subst ec_
                              clear en_
                              have p72 : 0 ≤ (x7_2 : Int) := oda
                              have q72 : (x7_2 : Int) < (((rd_L4 x5_2 x6_1).length : Int) : Int) := oda
                              obtain ⟨go72, co72, eo72, gb72, gl72, cl72, HG72⟩ := Kd.R_form HL1051_0.out (by omega)
                              (first | cases eo72 | (injection eo72 with ea_ en_ ec_; (first | subst ea_ | (injection ea_ with ea_; subst ea_)); subst ec_; clear en_))
                              have GB72 := Aside0.mk gb72
                              have GG72 := Aside0.mk HG72
                              clear gb72 gl72 HG72
                              (first | simp only [add_plain] at hx1016_0 | skip)
                              obtain ⟨hx72_0, hf72_0⟩ := Kd.R_celln 0 HL1051_0.out (x7_2 : Int) p72 q72
                              replace p72 := eq_true p72
                              replace q72 := eq_true q72
                              have hq73 : (x6_1 : Int) < (x5_2.length : Int) := (by have h_ : (x6_1 : Int) < ((x5_2.length : Int) : Int) := oda; first | exact h_ | (have e_ := (Kd.S_reads' HO_5.out).1; omega) | simpa only [List.length_set, List.length_set] using h_)
                              obtain ⟨oki73, ce73, hcl73, hM73, hcc73, hok73, hbk73⟩ := Kd.S_borrow HO_5.out [] (x6_1 : Int) (oda) hq73
                              obtain ⟨ve73_0, rfl, ge73_0⟩ := hM73
                              have hv73 := hcc73 0 _ rfl
                              rw [Nat.add_zero, show ((Kd.slice 3 (Kd.int .i64))).sz = 1 from rfl, Nat.mul_one] at hv73
                              replace hv73 := Option.some.inj (hv73.symm.trans HX1051_0.out)
                              subst hv73
                              clear hcc73 hcl73
                              replace ge73_0 := (show Kd.R (Kd.int .i64) 3 _ _ _ _ (rd_L4 x5_2 x6_1) from ge73_0)
                              have HP73 := Kd.R_putg ge73_0 (x7_2 : Int) (rd (rd_L4 x5_2 (ji30)) x7_2)
                              go_wp2
                              repeat (go_quiet (fail); try go_wp2)
                              (try simp only [← hl5_2])
                              go_roundg k2
                              case measure => have := HK1.out; have := HK2.out; omega
                              case rel => exact ⟨(y1054), (wrap64 (x7_2 - 1)), Ye1, H', ⟨by have := HK1.out; have := HK2.out; omega⟩, ⟨by (try simp only [hl5_1]); (try simp only [hl5_2]); rw [Ny1054.out, Ny1052.out]; exact Kd.S_drewN (hbk73 HP73.2 (fun k_ e_ => by cases e_; exact ge73_0.1 _ rfl) ⟨_, rfl, HP73.1⟩) nq⟩, ⟨below_set (pw_below_drewN HB.out _) GB72.out⟩⟩
                             ·rw [if_neg c71] at H
                              exact absurd H (by simp)
                           ·rw [if_neg c59] at H
                            exact absurd H (by simp)
                          ·rw [if_neg c58] at H
                           exact absurd H (by simp)
                        ·rw [if_neg c39] at H
                         exact absurd H (by simp)
                       ·rw [if_neg c38] at H
                        exact absurd H (by simp)
                      ·rw [if_neg c36] at H
                       exact absurd H (by simp)
                     ·rw [if_neg c35] at H
                      exact absurd H (by simp)
                    ·rw [if_neg c34] at H
                     exact absurd H (by simp)
                   ·rw [if_neg c33] at H
                    exact absurd H (by simp)
                  ·rw [if_neg c32] at H
                   exact absurd H (by simp)
                 ·rw [if_neg c31] at H
                  exact absurd H (by simp)
                ·rw [if_neg c29] at H
                 have c29b0 : decide (0 ≤ x7_2) = false := decide_eq_false c29
                 clear c29
                 have H' := Aside0.mk H
                 clear H
                 go_wp2
                 repeat (go_quiet (fail); try go_wp2)
                 (try simp only [← hl5_1, ← hl5_2])
                 go_roundg k2
                 case measure => have := HK1.out; have := HK2.out; omega
                 case rel => exact ⟨(x5_2), (wrap64 (x6_1 - 1)), Ye1, H', ⟨by have := HK1.out; have := HK2.out; omega⟩, ⟨by (try simp only [hl5_1]); (try simp only [hl5_2]); (with_reducible repeat (first | apply Kd.S_alloc | apply Kd.S_drewN | apply Kd.S_drew)); exact HO_5.out⟩, ⟨be HB.out⟩⟩
             ·rw [if_neg c23] at H
              exact absurd H (by simp)
            ·rw [if_neg c22] at H
             exact absurd H (by simp)
           ·rw [if_neg c21] at H
            exact absurd H (by simp)
          ·rw [if_neg c20] at H
           exact absurd H (by simp)
         ·rw [if_neg c18] at H
          have c18b0 : decide (0 ≤ x6_1) = false := decide_eq_false c18
          clear c18
          obtain rfl := Option.some.inj H
          go_wp2
          repeat (go_quiet (fail); try go_wp2)
          go_ret
          exact ⟨_, by first | rfl | (simp [errW_none, errW_some] <;> rfl) | (simp only [← hji3, ← hji6]; first | rfl | (simp [errW_none, errW_some] <;> rfl)) | (simp [*, errW_none, errW_some] <;> rfl), by (with_reducible repeat (first | apply Kd.S_alloc | apply Kd.S_drewN | apply Kd.S_drew)); exact HO_5.out, be HB.out⟩
      ·rw [if_neg c10] at H
       exact absurd H (by simp)
     ·rw [if_neg c9] at H
      exact absurd H (by simp)
    ·rw [if_neg c8] at H
     exact absurd H (by simp)
   ·rw [if_neg c7] at H
    exact absurd H (by simp)
  ·rw [if_neg c5] at H
   exact absurd H (by simp)
 ·rw [if_neg c4] at H
  exact absurd H (by simp)

end Go.Proofs.Ytnndpbkcldkbgaa.P
