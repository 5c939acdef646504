/- Several texts of this claim in one file: YtkdghhkpmkfjhaaDoorPSpecL4PartOk, YtkdghhkpmkfjhaaDoorPSpecL4Parts, YtkdghhkpmkfjhaaDoorPSpecL4Ok, YtkdghhkpmkfjhaaDoorPSpecValidPath, YtkdghhkpmkfjhaaDoorPSpecValidTree, YtkdghhkpmkfjhaaDoorPSpecMount, YtkdghhkpmkfjhaaDoorPImplFind. -/
import Derived.Test.YtkdghhkpmkfjhaaDoorM2
import Derived.Test.YtkdghhkpmkfjhaaDoorM3
import Derived.Test.YtkdghhkpmkfjhaaDoorM4
import Derived.Deep.QuietTactic
namespace Go.Proofs.YtkdghhkpmkfjhaaDoor.P
open Go.RowKit Go.Proofs.YtkdghhkpmkfjhaaDoorW.PrintWords Go.Proofs.YtkdghhkpmkfjhaaDoorW.PrintLast Go.Proofs.YtkdghhkpmkfjhaaDoorW.PrintMore
attribute [local go_sem] max2_int min2_int max_two min_two max_three min_three max_four min_four
set_option linter.unusedVariables false
set_option linter.unusedSimpArgs false

/-! ### spec_l4PartOk: function 92 -/
mutual
def spec_l4PartOk.j0 : Nat → ByteArray → Bool → Bool → Option (Bool)
 | 0, _, _, _ => none
 | k + 1, x0, x1, x17 => if x17 = true then (some false) else (spec_l4PartOk.l0 k x0 x1 0)
def spec_l4PartOk.l0 : Nat → ByteArray → Bool → Int → Option (Bool)
 | 0, _, _, _ => none
 | k + 1, x0, x1, x5 => if x5 < (x0.size : Int) then (if 0 ≤ x5 then (if (bt x0 x5) < 33 then (some false) else (if (bt x0 x5) > 126 then (some false) else (if (bt x0 x5) = 47 then (some false) else (if (bt x0 x5) = 34 then (some false) else (if x1 = true then (spec_l4PartOk.l0 k x0 x1 (wrap64 (x5 + 1))) else (if (bt x0 x5) = 42 then (some false) else (if (bt x0 x5) = 63 then (some false) else (spec_l4PartOk.l0 k x0 x1 (wrap64 (x5 + 1)))))))))) else (none)) else (some true)
end
def spec_l4PartOk.f (k : Nat) (a0 : ByteArray) (a1 : Bool) : Option (Bool) := (spec_l1In.f (a0.size : Int) 1 20).bind fun t115 => (if t115 = true then (if a0.toList = ([46] : List UInt8) then (spec_l4PartOk.j0 k a0 a1 true) else (spec_l4PartOk.j0 k a0 a1 (a0.toList == ([46, 46] : List UInt8)))) else (spec_l4PartOk.j0 k a0 a1 true))
theorem spec_l4PartOk.mono_l : ∀ k, (∀ y0 y1 y2, LeO (spec_l4PartOk.j0 k y0 y1 y2) (spec_l4PartOk.j0 (k + 1) y0 y1 y2)) ∧ (∀ y0 y1 y2, LeO (spec_l4PartOk.l0 k y0 y1 y2) (spec_l4PartOk.l0 (k + 1) y0 y1 y2))
 | 0 => ⟨fun _ _ _ r h => by simp [spec_l4PartOk.j0] at h, fun _ _ _ r h => by simp [spec_l4PartOk.l0] at h⟩
 | k + 1 => by
  obtain ⟨ih0, ih1⟩ := spec_l4PartOk.mono_l k; refine ⟨?_, ?_⟩
  ·intro y0 y1 y2
   unfold spec_l4PartOk.j0
   repeat' first
   | (with_reducible exact ih0 _ _ _)
   | (with_reducible exact ih1 _ _ _)
   | (with_reducible exact LeO.refl _)
   | (with_reducible exact LeO.none _)
   | (with_reducible refine LeO.ite ?_ ?_)
   | (with_reducible refine LeO.bind ?_ (fun _ => ?_))
   | exact ih0 _ _ _
   | exact ih1 _ _ _
   | exact LeO.none _
   | refine LeO.ite ?_ ?_
   | refine LeO.bind ?_ (fun _ => ?_)
  ·intro y0 y1 y2
   unfold spec_l4PartOk.l0
   repeat' first
   | (with_reducible exact ih0 _ _ _)
   | (with_reducible exact ih1 _ _ _)
   | (with_reducible exact LeO.refl _)
   | (with_reducible exact LeO.none _)
   | (with_reducible refine LeO.ite ?_ ?_)
   | (with_reducible refine LeO.bind ?_ (fun _ => ?_))
   | exact ih0 _ _ _
   | exact ih1 _ _ _
   | exact LeO.none _
   | refine LeO.ite ?_ ?_
   | refine LeO.bind ?_ (fun _ => ?_)
theorem spec_l4PartOk.mono : ∀ a0 a1 k, LeO (spec_l4PartOk.f k a0 a1) (spec_l4PartOk.f (k + 1) a0 a1) := by
 intro a0 a1 k; obtain ⟨ih0, ih1⟩ := spec_l4PartOk.mono_l k
 unfold spec_l4PartOk.f
 repeat' first
   | (with_reducible exact ih0 _ _ _)
   | (with_reducible exact ih1 _ _ _)
   | (with_reducible exact LeO.refl _)
   | (with_reducible exact LeO.none _)
   | (with_reducible refine LeO.ite ?_ ?_)
   | (with_reducible refine LeO.bind ?_ (fun _ => ?_))
   | exact ih0 _ _ _
   | exact ih1 _ _ _
   | exact LeO.none _
   | refine LeO.ite ?_ ?_
   | refine LeO.bind ?_ (fun _ => ?_)
set_option maxHeartbeats 8000000 in
set_option maxRecDepth 100000 in
theorem spec_l4PartOk.calls (k : Nat) (a0 : ByteArray) (a1 : Bool) (r : Bool) (w : World) (h : spec_l4PartOk.f k a0 a1 = some r) :
  Calls Tryd.prog 92 #[.string a0, .bool a1] w fun e w' => e = .returned (.bool r) ∧ Drawn0 w w' := by
 have H : ((spec_l1In.f (a0.size : Int) 1 20).bind fun t115 => (if t115 = true then (if a0.toList = ([46] : List UInt8) then (spec_l4PartOk.j0 k a0 a1 true) else (spec_l4PartOk.j0 k a0 a1 (a0.toList == ([46, 46] : List UInt8)))) else (spec_l4PartOk.j0 k a0 a1 true))) = some r := h; clear h; have HC3 := Aside0.mk H; clear H
 go_enter Tryd.func92, Tryd.ntmps92
 go_upto_region 1 with (fail)
 go_cut [17] (fun v17 wc => ∃ (kq : Nat) (x17_2 : Bool), v17 = .bool x17_2 ∧ Aside0 (spec_l4PartOk.j0 kq a0 a1 x17_2 = some r) ∧ Aside0 (kq ≤ k) ∧ Drawn0 w wc)
 case first =>
  have H := HC3.out; clear HC3; replace H := Option.bind_eq_some_iff.mp H; obtain ⟨t115, A40, H⟩ := H; replace H : (if t115 = true then (if a0.toList = ([46] : List UInt8) then (spec_l4PartOk.j0 k a0 a1 true) else (spec_l4PartOk.j0 k a0 a1 (a0.toList == ([46, 46] : List UInt8)))) else (spec_l4PartOk.j0 k a0 a1 true)) = some r := H; have A4 := Aside0.mk A40; clear A40
  by_cases c5 : t115 = true
  ·subst c5
   have H1 : (if a0.toList = ([46] : List UInt8) then (spec_l4PartOk.j0 k a0 a1 true) else (spec_l4PartOk.j0 k a0 a1 (a0.toList == ([46, 46] : List UInt8)))) = some r := by rw [if_pos rfl] at H; exact H
   clear H; have H := H1; clear H1
   by_cases c6 : a0.toList = ([46] : List UInt8)
   ·rw [if_pos c6] at H
    have c6b0 : (a0.toList == ([46] : List UInt8)) = true := beq_iff_eq.mpr c6; have c6b1 : (a0.toList != ([46] : List UInt8)) = false := bne_eq_false_iff_eq.mpr c6; clear c6; (first | rw [c6b0] | (simp only [i64_w, i32_w]; rw [c6b0]) | skip); have H' := Aside0.mk H; clear H
    go_wp2_with (first | ((with_reducible refine gc 107 rfl ?_); refine gl (some 8) _ (#[.int .i64 (a0.size : Int), .int .i64 1, .int .i64 20]) Tryd.func107 ?_; (with_reducible refine (spec_l1In.calls (a0.size : Int) 1 20 true _ A4.out).mono ?_); rintro e w' ⟨rfl, ⟨nd, rfl⟩⟩; refine ⟨_, rfl, ?_⟩))
    go_meet
    case rel => exact ⟨_, (true), Ye1, H', ⟨by first | omega | exact Nat.le_refl _⟩, dz⟩
   ·rw [if_neg c6] at H
    have c6b0 : (a0.toList == ([46] : List UInt8)) = false := beq_eq_false_iff_ne.mpr c6; have c6b1 : (a0.toList != ([46] : List UInt8)) = true := bne_iff_ne.mpr c6; (first | rw [c6b0] | (simp only [i64_w, i32_w]; rw [c6b0]) | skip); have H' := Aside0.mk H; clear H
    go_wp2_with (first | ((with_reducible refine gc 107 rfl ?_); refine gl (some 8) _ (#[.int .i64 (a0.size : Int), .int .i64 1, .int .i64 20]) Tryd.func107 ?_; (with_reducible refine (spec_l1In.calls (a0.size : Int) 1 20 true _ A4.out).mono ?_); rintro e w' ⟨rfl, ⟨nd, rfl⟩⟩; refine ⟨_, rfl, ?_⟩))
    go_meet
    case rel => exact ⟨_, ((a0.toList == ([46, 46] : List UInt8))), Ye1, H', ⟨by first | omega | exact Nat.le_refl _⟩, dz⟩
  ·replace c5 := Bool.eq_false_iff.mpr c5; subst c5
   have H1 : (spec_l4PartOk.j0 k a0 a1 true) = some r := by rw [if_neg (show ¬ (false = true) by decide)] at H; exact H
   clear H; have H := H1; clear H1; have H' := Aside0.mk H; clear H
   go_wp2_with (first | ((with_reducible refine gc 107 rfl ?_); refine gl (some 8) _ (#[.int .i64 (a0.size : Int), .int .i64 1, .int .i64 20]) Tryd.func107 ?_; (with_reducible refine (spec_l1In.calls (a0.size : Int) 1 20 false _ A4.out).mono ?_); rintro e w' ⟨rfl, ⟨nd, rfl⟩⟩; refine ⟨_, rfl, ?_⟩))
   go_meet
   case rel => exact ⟨_, (true), Ye1, H', ⟨by first | omega | exact Nat.le_refl _⟩, dz⟩
 case rest =>
  clear HC3; (try clear c1); (try clear p2); (try clear c5); (try clear c6); (try clear c6b0); (try clear c6b1); obtain ⟨kq, x17_2, rfl, HA, HJ2, ⟨mc2, rfl⟩⟩ := hcut
  cases kq with
  | zero => exact absurd HA.out (by simp [spec_l4PartOk.j0])
  | succ kj2 =>
   have H := HA.out; clear HA; simp only [spec_l4PartOk.j0] at H
   by_cases c7 : x17_2 = true
   ·subst c7
    have H1 : (some false) = some r := by rw [if_pos rfl] at H; exact H
    clear H; have H := H1; clear H1; obtain rfl := Option.some.inj H
    go_wp2
    go_ret
    exact ⟨Ye1, dz⟩
   ·replace c7 := Bool.eq_false_iff.mpr c7; subst c7
    have H1 : (spec_l4PartOk.l0 kj2 a0 a1 0) = some r := by rw [if_neg (show ¬ (false = true) by decide)] at H; exact H
    clear H; have H := H1; clear H1; have H' := Aside0.mk H; clear H
    go_wp2
    go_loopg [5] kj2 (fun kq v5 w' => ∃ (qa : Int), v5 = .int .i64 qa ∧ Aside0 (spec_l4PartOk.l0 kq a0 a1 qa = some r) ∧ Aside0 (kq ≤ kj2) ∧ Drawn0 w w')
    case atStart => exact ⟨(0), Ye1, H', ⟨Nat.le_refl _⟩, dz⟩
    case round =>
     clear H'; (try clear c1); (try clear c2); (try clear p2); (try clear c5); (try clear c6); (try clear c6b0); (try clear c6b1); (try clear c7); (try clear p2); obtain ⟨qa, rfl, HA, HK2, ⟨m2, rfl⟩⟩ := hrel
     cases gk with
     | zero => exact absurd HA.out (by simp [spec_l4PartOk.l0])
     | succ k2 =>
      have H := HA.out; clear HA; simp only [spec_l4PartOk.l0] at H
      by_cases c8 : qa < (a0.size : Int)
      ·rw [if_pos c8] at H
       have c8b0 : decide (qa < (a0.size : Int)) = true := decide_eq_true c8; clear c8
       by_cases c9 : 0 ≤ qa
       ·rw [if_pos c9] at H
        have c9b0 : decide (0 ≤ qa) = true := decide_eq_true c9; clear c9
        by_cases c11 : (bt a0 qa) < 33
        ·rw [if_pos c11] at H
         have c11b0 : decide ((bt a0 qa) < 33) = true := decide_eq_true c11; clear c11; obtain rfl := Option.some.inj H; have p10 : 0 ≤ (qa : Int) := oda; have q10 : qa < (a0.size : Int) := oda; have hx10 := bt_at a0 qa; replace p10 := eq_true p10; replace q10 := eq_true q10
         go_wp2
         go_ret
         exact ⟨Ye1, dz⟩
        ·rw [if_neg c11] at H
         have c11b0 : decide ((bt a0 qa) < 33) = false := decide_eq_false c11; clear c11
         by_cases c13 : (bt a0 qa) > 126
         ·rw [if_pos c13] at H
          have c13b0 : decide (126 < (bt a0 qa)) = true := decide_eq_true c13; clear c13; obtain rfl := Option.some.inj H; have p10 : 0 ≤ (qa : Int) := oda; have q10 : qa < (a0.size : Int) := oda; have hx10 := bt_at a0 qa; replace p10 := eq_true p10; replace q10 := eq_true q10; have p12 : 0 ≤ (qa : Int) := oda; have q12 : qa < (a0.size : Int) := oda; have hx12 := bt_at a0 qa; replace p12 := eq_true p12; replace q12 := eq_true q12
          go_wp2
          go_ret
          exact ⟨Ye1, dz⟩
         ·rw [if_neg c13] at H
          have c13b0 : decide (126 < (bt a0 qa)) = false := decide_eq_false c13; clear c13
          by_cases c15 : (bt a0 qa) = 47
          ·rw [if_pos c15] at H
           have c15b0 : ((bt a0 qa) == 47) = true := beq_iff_eq.mpr c15; have c15b1 : ((bt a0 qa) != 47) = false := bne_eq_false_iff_eq.mpr c15; clear c15; obtain rfl := Option.some.inj H; have p10 : 0 ≤ (qa : Int) := oda; have q10 : qa < (a0.size : Int) := oda; have hx10 := bt_at a0 qa; replace p10 := eq_true p10; replace q10 := eq_true q10; have p12 : 0 ≤ (qa : Int) := oda; have q12 : qa < (a0.size : Int) := oda; have hx12 := bt_at a0 qa; replace p12 := eq_true p12; replace q12 := eq_true q12; have p14 : 0 ≤ (qa : Int) := oda; have q14 : qa < (a0.size : Int) := oda; have hx14 := bt_at a0 qa; replace p14 := eq_true p14; replace q14 := eq_true q14
           go_wp2
           go_ret
           exact ⟨Ye1, dz⟩
          ·rw [if_neg c15] at H
           have c15b0 : ((bt a0 qa) == 47) = false := beq_eq_false_iff_ne.mpr c15; have c15b1 : ((bt a0 qa) != 47) = true := bne_iff_ne.mpr c15
           by_cases c17 : (bt a0 qa) = 34
           ·rw [if_pos c17] at H
            have c17b0 : ((bt a0 qa) == 34) = true := beq_iff_eq.mpr c17; have c17b1 : ((bt a0 qa) != 34) = false := bne_eq_false_iff_eq.mpr c17; clear c17; obtain rfl := Option.some.inj H; have p10 : 0 ≤ (qa : Int) := oda; have q10 : qa < (a0.size : Int) := oda; have hx10 := bt_at a0 qa; replace p10 := eq_true p10; replace q10 := eq_true q10; have p12 : 0 ≤ (qa : Int) := oda; have q12 : qa < (a0.size : Int) := oda; have hx12 := bt_at a0 qa; replace p12 := eq_true p12; replace q12 := eq_true q12; have p14 : 0 ≤ (qa : Int) := oda; have q14 : qa < (a0.size : Int) := oda; have hx14 := bt_at a0 qa; replace p14 := eq_true p14; replace q14 := eq_true q14; have p16 : 0 ≤ (qa : Int) := oda; have q16 : qa < (a0.size : Int) := oda; have hx16 := bt_at a0 qa; replace p16 := eq_true p16; replace q16 := eq_true q16
            go_wp2
            go_ret
            exact ⟨Ye1, dz⟩
           ·rw [if_neg c17] at H
            have c17b0 : ((bt a0 qa) == 34) = false := beq_eq_false_iff_ne.mpr c17; have c17b1 : ((bt a0 qa) != 34) = true := bne_iff_ne.mpr c17
            by_cases c18 : a1 = true
            ·subst c18
             have H1 : (spec_l4PartOk.l0 k2 a0 true (wrap64 (qa + 1))) = some r := by rw [if_pos rfl] at H; exact H
             clear H; have H := H1; clear H1; have H' := Aside0.mk H; clear H; have p10 : 0 ≤ (qa : Int) := oda; have q10 : qa < (a0.size : Int) := oda; have hx10 := bt_at a0 qa; replace p10 := eq_true p10; replace q10 := eq_true q10; have p12 : 0 ≤ (qa : Int) := oda; have q12 : qa < (a0.size : Int) := oda; have hx12 := bt_at a0 qa; replace p12 := eq_true p12; replace q12 := eq_true q12; have p14 : 0 ≤ (qa : Int) := oda; have q14 : qa < (a0.size : Int) := oda; have hx14 := bt_at a0 qa; replace p14 := eq_true p14; replace q14 := eq_true q14; have p16 : 0 ≤ (qa : Int) := oda; have q16 : qa < (a0.size : Int) := oda; have hx16 := bt_at a0 qa; replace p16 := eq_true p16; replace q16 := eq_true q16
             go_wp2
             go_roundg k2
             case measure => have := HJ2.out; have := HK2.out; omega
             case rel => exact ⟨(wrap64 (qa + 1)), Ye1, H', ⟨by have := HJ2.out; have := HK2.out; omega⟩, dz⟩
            ·replace c18 := Bool.eq_false_iff.mpr c18; subst c18
             have H1 : (if (bt a0 qa) = 42 then (some false) else (if (bt a0 qa) = 63 then (some false) else (spec_l4PartOk.l0 k2 a0 false (wrap64 (qa + 1))))) = some r := by rw [if_neg (show ¬ (false = true) by decide)] at H; exact H
             clear H; have H := H1; clear H1
             by_cases c20 : (bt a0 qa) = 42
             ·rw [if_pos c20] at H
              have c20b0 : ((bt a0 qa) == 42) = true := beq_iff_eq.mpr c20; have c20b1 : ((bt a0 qa) != 42) = false := bne_eq_false_iff_eq.mpr c20; clear c20; obtain rfl := Option.some.inj H; have p10 : 0 ≤ (qa : Int) := oda; have q10 : qa < (a0.size : Int) := oda; have hx10 := bt_at a0 qa; replace p10 := eq_true p10; replace q10 := eq_true q10; have p12 : 0 ≤ (qa : Int) := oda; have q12 : qa < (a0.size : Int) := oda; have hx12 := bt_at a0 qa; replace p12 := eq_true p12; replace q12 := eq_true q12; have p14 : 0 ≤ (qa : Int) := oda; have q14 : qa < (a0.size : Int) := oda; have hx14 := bt_at a0 qa; replace p14 := eq_true p14; replace q14 := eq_true q14; have p16 : 0 ≤ (qa : Int) := oda; have q16 : qa < (a0.size : Int) := oda; have hx16 := bt_at a0 qa; replace p16 := eq_true p16; replace q16 := eq_true q16; have p19 : 0 ≤ (qa : Int) := oda; have q19 : qa < (a0.size : Int) := oda; have hx19 := bt_at a0 qa; replace p19 := eq_true p19; replace q19 := eq_true q19
              go_wp2
              go_ret
              exact ⟨Ye1, dz⟩
             ·rw [if_neg c20] at H
              have c20b0 : ((bt a0 qa) == 42) = false := beq_eq_false_iff_ne.mpr c20; have c20b1 : ((bt a0 qa) != 42) = true := bne_iff_ne.mpr c20
              by_cases c22 : (bt a0 qa) = 63
              ·rw [if_pos c22] at H
               have c22b0 : ((bt a0 qa) == 63) = true := beq_iff_eq.mpr c22; have c22b1 : ((bt a0 qa) != 63) = false := bne_eq_false_iff_eq.mpr c22; clear c22; obtain rfl := Option.some.inj H; have p10 : 0 ≤ (qa : Int) := oda; have q10 : qa < (a0.size : Int) := oda; have hx10 := bt_at a0 qa; replace p10 := eq_true p10; replace q10 := eq_true q10; have p12 : 0 ≤ (qa : Int) := oda; have q12 : qa < (a0.size : Int) := oda; have hx12 := bt_at a0 qa; replace p12 := eq_true p12; replace q12 := eq_true q12; have p14 : 0 ≤ (qa : Int) := oda; have q14 : qa < (a0.size : Int) := oda; have hx14 := bt_at a0 qa; replace p14 := eq_true p14; replace q14 := eq_true q14; have p16 : 0 ≤ (qa : Int) := oda; have q16 : qa < (a0.size : Int) := oda; have hx16 := bt_at a0 qa; replace p16 := eq_true p16; replace q16 := eq_true q16; have p19 : 0 ≤ (qa : Int) := oda; have q19 : qa < (a0.size : Int) := oda; have hx19 := bt_at a0 qa; replace p19 := eq_true p19; replace q19 := eq_true q19; have p21 : 0 ≤ (qa : Int) := oda; have q21 : qa < (a0.size : Int) := oda; have hx21 := bt_at a0 qa; replace p21 := eq_true p21; replace q21 := eq_true q21
               go_wp2
               go_ret
               exact ⟨Ye1, dz⟩
              ·rw [if_neg c22] at H
               have c22b0 : ((bt a0 qa) == 63) = false := beq_eq_false_iff_ne.mpr c22; have c22b1 : ((bt a0 qa) != 63) = true := bne_iff_ne.mpr c22; have H' := Aside0.mk H; clear H; have p10 : 0 ≤ (qa : Int) := oda; have q10 : qa < (a0.size : Int) := oda; have hx10 := bt_at a0 qa; replace p10 := eq_true p10; replace q10 := eq_true q10; have p12 : 0 ≤ (qa : Int) := oda; have q12 : qa < (a0.size : Int) := oda; have hx12 := bt_at a0 qa; replace p12 := eq_true p12; replace q12 := eq_true q12; have p14 : 0 ≤ (qa : Int) := oda; have q14 : qa < (a0.size : Int) := oda; have hx14 := bt_at a0 qa; replace p14 := eq_true p14; replace q14 := eq_true q14; have p16 : 0 ≤ (qa : Int) := oda; have q16 : qa < (a0.size : Int) := oda; have hx16 := bt_at a0 qa; replace p16 := eq_true p16; replace q16 := eq_true q16; have p19 : 0 ≤ (qa : Int) := oda; have q19 : qa < (a0.size : Int) := oda; have hx19 := bt_at a0 qa; replace p19 := eq_true p19; replace q19 := eq_true q19; have p21 : 0 ≤ (qa : Int) := oda; have q21 : qa < (a0.size : Int) := oda; have hx21 := bt_at a0 qa; replace p21 := eq_true p21; replace q21 := eq_true q21
               go_wp2
               go_roundg k2
               case measure => have := HJ2.out; have := HK2.out; omega
               case rel => exact ⟨(wrap64 (qa + 1)), Ye1, H', ⟨by have := HJ2.out; have := HK2.out; omega⟩, dz⟩
       ·rw [if_neg c9] at H
        exact absurd H (by simp)
      ·rw [if_neg c8] at H
       have c8b0 : decide (qa < (a0.size : Int)) = false := decide_eq_false c8; clear c8; obtain rfl := Option.some.inj H
       go_wp2
       go_ret
       exact ⟨Ye1, dz⟩

end Go.Proofs.YtkdghhkpmkfjhaaDoor.P


namespace Go.Proofs.YtkdghhkpmkfjhaaDoor.P
open Go.RowKit Go.Proofs.YtkdghhkpmkfjhaaDoorW.PrintWords Go.Proofs.YtkdghhkpmkfjhaaDoorW.PrintLast Go.Proofs.YtkdghhkpmkfjhaaDoorW.PrintMore
attribute [local go_sem] max2_int min2_int max_two min_two max_three min_three max_four min_four
set_option linter.unusedVariables false
set_option linter.unusedSimpArgs false

/-! ### spec_l4Parts: function 85 -/
def spec_l4Parts.l0 : Nat → ByteArray → List ByteArray → Int → Int → Option (List ByteArray)
 | 0, _, _, _, _ => none
 | k + 1, x0, x3, x4, x5 => if x5 < (x0.size : Int) then (if 0 ≤ x5 then (if (bt x0 x5) = 47 then (if 0 ≤ x4 then (if x4 ≤ x5 then (if x5 ≤ (x0.size : Int) then (if x3.length < 8796093022208 then (spec_l4Parts.l0 k x0 (x3 ++ [x0.extract (x4 : Int).toNat (x5 : Int).toNat]) (wrap64 (x5 + 1)) (wrap64 (x5 + 1))) else (none)) else (none)) else (none)) else (none)) else (spec_l4Parts.l0 k x0 x3 x4 (wrap64 (x5 + 1)))) else (none)) else (if 0 ≤ x4 then (if x4 ≤ (x0.size : Int) then (if x3.length < 8796093022208 then (some (x3 ++ [x0.extract (x4 : Int).toNat x0.size])) else (none)) else (none)) else (none))
def spec_l4Parts.f (k : Nat) (a0 : ByteArray) : Option (List ByteArray) := spec_l4Parts.l0 k a0 (([] : List ByteArray)) 0 0
theorem spec_l4Parts.mono_l : ∀ k, (∀ y0 y1 y2 y3, LeO (spec_l4Parts.l0 k y0 y1 y2 y3) (spec_l4Parts.l0 (k + 1) y0 y1 y2 y3))
 | 0 => fun _ _ _ _ r h => by simp [spec_l4Parts.l0] at h
 | k + 1 => by
  have ih0 := spec_l4Parts.mono_l k
  ·intro y0 y1 y2 y3
   unfold spec_l4Parts.l0
   repeat' first
   | (with_reducible exact ih0 _ _ _ _)
   | (with_reducible exact LeO.refl _)
   | (with_reducible exact LeO.none _)
   | (with_reducible refine LeO.ite ?_ ?_)
   | (with_reducible refine LeO.bind ?_ (fun _ => ?_))
   | exact ih0 _ _ _ _
   | exact LeO.none _
   | refine LeO.ite ?_ ?_
   | refine LeO.bind ?_ (fun _ => ?_)
theorem spec_l4Parts.mono : ∀ a0 k, LeO (spec_l4Parts.f k a0) (spec_l4Parts.f (k + 1) a0) := by
 intro a0 k; have ih0 := spec_l4Parts.mono_l k
 unfold spec_l4Parts.f
 repeat' first
   | (with_reducible exact ih0 _ _ _ _)
   | (with_reducible exact LeO.refl _)
   | (with_reducible exact LeO.none _)
   | (with_reducible refine LeO.ite ?_ ?_)
   | (with_reducible refine LeO.bind ?_ (fun _ => ?_))
   | exact ih0 _ _ _ _
   | exact LeO.none _
   | refine LeO.ite ?_ ?_
   | refine LeO.bind ?_ (fun _ => ?_)
set_option maxHeartbeats 8000000 in
set_option maxRecDepth 100000 in
theorem spec_l4Parts.calls (k : Nat) (a0 : ByteArray) (r : List ByteArray) (w : World) (h : spec_l4Parts.f k a0 = some r) :
  Calls Tryd.prog 85 #[.string a0] w fun e w' => ∃ v0_ : Value, e = .returned (v0_) ∧ Kd.R Kd.string 9 w' w.heap.size (fun _ => True) v0_ r ∧ Below w.heap.size w w' := by
 have HB := Aside0.mk (Below.refl w.heap.size w); have H : (spec_l4Parts.l0 k a0 (([] : List ByteArray)) 0 0) = some r := h; clear h
 obtain ⟨y106, hy106⟩ : ∃ y_ : List ByteArray, y_ = (([] : List ByteArray)) := ⟨_, rfl⟩
 replace H : (spec_l4Parts.l0 k a0 y106 0 0) = some r := by first | (rw [hy106]; with_reducible exact H) | (have H2_ := (Option.bind_some _ _).symm.trans H; rw [hy106]; with_reducible exact H2_) | (have H2_ := (Option.bind_some _ _).symm.trans H; with_reducible exact H2_) | with_reducible exact H | (rw [hy106]; exact H) | exact H
 have Ny106 := Aside0.mk hy106; clear hy106; have H' := Aside0.mk H; clear H
 go_enter Tryd.func85, Tryd.ntmps85
 go_wp2_with (first | ((with_reducible refine gd 6 rfl ?_); refine Kd.R_lit Kd.string _ 9 ?hg (N := 6) ?hd (xs := ([] : List ByteArray)) (inner := []) (ok := fun _ => True) (okp := fun _ => True) ?hr ?hp (fun _ hk => hk) trivial (Below.refl _ _) (Nat.le_refl _) (by simp) ?_; (case hd => rfl); (case hg => rfl); (case hr => first | (go_simp; done) | (go_simp; rfl)); (case hp => exact (Reps.none _ _)); intro v107 w2 ho3 hb hg_ hnew_; clear hg_ hnew_; (first | rw [← Ny106.out] at ho3 | (simp only [Int.reduceToNat] at ho3; rw [← Ny106.out] at ho3)); refine Ya2 (Kd.R_lower ho3 (below_size (be HB.out))) (below_step (be HB.out) hb) ?_; clear HB; intro HO108 HB; clear hb ho3))
 go_loopg [3, 4, 5] k (fun kq v3 v4 v5 w' => ∃ (x3_1 : List ByteArray) (x4_1 : Int) (qa : Int), v4 = .int .i64 x4_1 ∧ v5 = .int .i64 qa ∧ Aside0 (spec_l4Parts.l0 kq a0 x3_1 x4_1 qa = some r) ∧ Aside0 (kq ≤ k) ∧ Aside0 (Kd.R Kd.string 9 w' w.heap.size (fun _ => True) v3 x3_1) ∧ Aside0 (Below w.heap.size w w'))
 case atStart => exact ⟨(y106), (0), (0), Ye1, Ye1, H', ⟨Nat.le_refl _⟩, ⟨kr HO108.out⟩, ⟨be HB.out⟩⟩
 case round =>
  clear H'; (try clear p2); obtain ⟨x3_1, x4_1, qa, rfl, rfl, HA, HK1, HO_3, HB⟩ := hrel
  cases gk with
  | zero => exact absurd HA.out (by simp [spec_l4Parts.l0])
  | succ k1 =>
   have H := HA.out; clear HA; simp only [spec_l4Parts.l0] at H
   by_cases c4 : qa < (a0.size : Int)
   ·rw [if_pos c4] at H
    have c4b0 : decide (qa < (a0.size : Int)) = true := decide_eq_true c4; clear c4
    by_cases c5 : 0 ≤ qa
    ·rw [if_pos c5] at H
     have c5b0 : decide (0 ≤ qa) = true := decide_eq_true c5; clear c5
     by_cases c7 : (bt a0 qa) = 47
     ·rw [if_pos c7] at H
      have c7b0 : ((bt a0 qa) == 47) = true := beq_iff_eq.mpr c7; have c7b1 : ((bt a0 qa) != 47) = false := bne_eq_false_iff_eq.mpr c7; clear c7
      by_cases c8 : 0 ≤ x4_1
      ·rw [if_pos c8] at H
       have c8b0 := eq_true c8; have c8b1 : decide (0 ≤ x4_1) = true := decide_eq_true c8; clear c8
       by_cases c9 : x4_1 ≤ qa
       ·rw [if_pos c9] at H
        have c9b0 := eq_true c9; have c9b1 : decide (x4_1 ≤ qa) = true := decide_eq_true c9; clear c9
        by_cases c10 : qa ≤ (a0.size : Int)
        ·rw [if_pos c10] at H
         have c10b0 := eq_true c10; have c10b1 : decide (qa ≤ (a0.size : Int)) = true := decide_eq_true c10; clear c10
         by_cases c11 : x3_1.length < 8796093022208
         ·rw [if_pos c11] at H
          have LMc11 := Aside0.mk c11; clear c11
          obtain ⟨y109, hy109⟩ : ∃ y_ : List ByteArray, y_ = (x3_1 ++ [a0.extract (x4_1 : Int).toNat (qa : Int).toNat]) := ⟨_, rfl⟩
          replace H : (spec_l4Parts.l0 k1 a0 y109 (wrap64 (qa + 1)) (wrap64 (qa + 1))) = some r := by first | (rw [hy109]; with_reducible exact H) | (have H2_ := (Option.bind_some _ _).symm.trans H; rw [hy109]; with_reducible exact H2_) | (have H2_ := (Option.bind_some _ _).symm.trans H; with_reducible exact H2_) | with_reducible exact H | (rw [hy109]; exact H) | exact H
          have Ny109 := Aside0.mk hy109; clear hy109; have H' := Aside0.mk H; clear H; have p6 : 0 ≤ (qa : Int) := oda; have q6 : qa < (a0.size : Int) := oda; have hx6 := bt_at a0 qa; replace p6 := eq_true p6; replace q6 := eq_true q6
          go_wp2_with (first | ((with_reducible refine gate_builtin (b := .append) (xs := #[.tmp 17, .tmp 22]) rfl ?_); at_builtin; refine Kd.R_append Kd.string (w0 := w) w.heap.size rfl (.tmp 17) (.tmp 22) 56 9 (.string ⟨#[]⟩) 16 rfl Tryd.underlying56 info9 rfl (by decide) (by omega) u3 x3_1 (a0.extract (x4_1 : Int).toNat (qa : Int).toNat) [.string (a0.extract (x4_1 : Int).toNat (qa : Int).toNat)] (fun _ => True) (fun _ => False) rfl rfl ?aP (fun _ hk => hk.elim) ?aF ?aO ?aB ?aS ?aL ?_; (case aP => exact rfl); (case aB => exact (be HB.out)); (case aF => exact (fun _ _ => trivial)); (case aO => exact (kr HO_3.out)); (case aS => exact (below_size (be HB.out))); (case aL => have := LMc11.out; omega); intro v110 w12 ho hb hg hat; rw [← Ny109.out] at ho; refine Ya2 (hb) (ho) ?_; clear HB HO_3; intro HB HO111; clear ho hb hg hat))
          go_roundg k1
          case measure => have := HK1.out; omega
          case rel => exact ⟨(y109), (wrap64 (qa + 1)), (wrap64 (qa + 1)), Ye1, Ye1, H', ⟨by have := HK1.out; omega⟩, ⟨kr HO111.out⟩, ⟨be HB.out⟩⟩
         ·rw [if_neg c11] at H
          exact absurd H (by simp)
        ·rw [if_neg c10] at H
         exact absurd H (by simp)
       ·rw [if_neg c9] at H
        exact absurd H (by simp)
      ·rw [if_neg c8] at H
       exact absurd H (by simp)
     ·rw [if_neg c7] at H
      have c7b0 : ((bt a0 qa) == 47) = false := beq_eq_false_iff_ne.mpr c7; have c7b1 : ((bt a0 qa) != 47) = true := bne_iff_ne.mpr c7; have H' := Aside0.mk H; clear H; have p6 : 0 ≤ (qa : Int) := oda; have q6 : qa < (a0.size : Int) := oda; have hx6 := bt_at a0 qa; replace p6 := eq_true p6; replace q6 := eq_true q6
      go_wp2
      go_roundg k1
      case measure => have := HK1.out; omega
      case rel => exact ⟨(x3_1), (x4_1), (wrap64 (qa + 1)), Ye1, Ye1, H', ⟨by have := HK1.out; omega⟩, ⟨kr HO_3.out⟩, ⟨be HB.out⟩⟩
    ·rw [if_neg c5] at H
     exact absurd H (by simp)
   ·rw [if_neg c4] at H
    have c4b0 : decide (qa < (a0.size : Int)) = false := decide_eq_false c4; clear c4
    by_cases c13 : 0 ≤ x4_1
    ·rw [if_pos c13] at H
     have c13b0 := eq_true c13; have c13b1 : decide (0 ≤ x4_1) = true := decide_eq_true c13; clear c13
     by_cases c14 : x4_1 ≤ (a0.size : Int)
     ·rw [if_pos c14] at H
      have c14b0 := eq_true c14; have c14b1 : decide (x4_1 ≤ (a0.size : Int)) = true := decide_eq_true c14; clear c14
      by_cases c15 : x3_1.length < 8796093022208
      ·rw [if_pos c15] at H
       have LMc15 := Aside0.mk c15; clear c15
       obtain ⟨y112, hy112⟩ : ∃ y_ : List ByteArray, y_ = (x3_1 ++ [a0.extract (x4_1 : Int).toNat a0.size]) := ⟨_, rfl⟩
       replace H : (some y112) = some r := by first | (rw [hy112]; with_reducible exact H) | (have H2_ := (Option.bind_some _ _).symm.trans H; rw [hy112]; with_reducible exact H2_) | (have H2_ := (Option.bind_some _ _).symm.trans H; with_reducible exact H2_) | with_reducible exact H | (rw [hy112]; exact H) | exact H
       have Ny112 := Aside0.mk hy112; clear hy112; obtain rfl := Option.some.inj H
       go_wp2_with (first | ((with_reducible refine gate_builtin (b := .append) (xs := #[.tmp 26, .tmp 30]) rfl ?_); at_builtin; refine Kd.R_append Kd.string (w0 := w) w.heap.size rfl (.tmp 26) (.tmp 30) 56 9 (.string ⟨#[]⟩) 16 rfl Tryd.underlying56 info9 rfl (by decide) (by omega) u3 x3_1 (a0.extract (x4_1 : Int).toNat a0.size) [.string (a0.extract (x4_1 : Int).toNat a0.size)] (fun _ => True) (fun _ => False) rfl rfl ?aP (fun _ hk => hk.elim) ?aF ?aO ?aB ?aS ?aL ?_; (case aP => exact rfl); (case aB => exact (be HB.out)); (case aF => exact (fun _ _ => trivial)); (case aO => exact (kr HO_3.out)); (case aS => exact (below_size (be HB.out))); (case aL => have := LMc15.out; omega); intro v113 w16 ho hb hg hat; rw [← Ny112.out] at ho; refine Ya2 (hb) (ho) ?_; clear HB HO_3; intro HB HO114; clear ho hb hg hat))
       go_ret
       exact ⟨_, Ye2, kr HO114.out, be HB.out⟩
      ·rw [if_neg c15] at H
       exact absurd H (by simp)
     ·rw [if_neg c14] at H
      exact absurd H (by simp)
    ·rw [if_neg c13] at H
     exact absurd H (by simp)

end Go.Proofs.YtkdghhkpmkfjhaaDoor.P


namespace Go.Proofs.YtkdghhkpmkfjhaaDoor.P
open Go.RowKit Go.Proofs.YtkdghhkpmkfjhaaDoorW.PrintWords Go.Proofs.YtkdghhkpmkfjhaaDoorW.PrintLast Go.Proofs.YtkdghhkpmkfjhaaDoorW.PrintMore
attribute [local go_sem] max2_int min2_int max_two min_two max_three min_three max_four min_four
set_option linter.unusedVariables false
set_option linter.unusedSimpArgs false

/-! ### spec_l4Ok: function 74 -/
def spec_l4Ok.l0 : Nat → Bool → List ByteArray → Int → Option (Bool)
 | 0, _, _, _ => none
 | k + 1, x1, x5, x6 => if x6 < (x5.length : Int) then (if 0 ≤ x6 then ((spec_l4PartOk.f k (rdOf ByteArray.empty x5 x6) x1).bind fun t120 => (if t120 = true then (spec_l4Ok.l0 k x1 x5 (wrap64 (x6 + 1))) else (some false))) else (none)) else (some true)
def spec_l4Ok.f (k : Nat) (a0 : ByteArray) (a1 : Bool) : Option (Bool) := if (a0.size : Int) > 126 then (some false) else ((spec_l4Parts.f k a0).bind fun t116 => (if (t116.length : Int) > 6 then (some false) else (spec_l4Ok.l0 k a1 t116 0)))
theorem spec_l4Ok.mono_l : ∀ k, (∀ y0 y1 y2, LeO (spec_l4Ok.l0 k y0 y1 y2) (spec_l4Ok.l0 (k + 1) y0 y1 y2))
 | 0 => fun _ _ _ r h => by simp [spec_l4Ok.l0] at h
 | k + 1 => by
  have ih0 := spec_l4Ok.mono_l k
  ·intro y0 y1 y2
   unfold spec_l4Ok.l0
   repeat' first
   | (with_reducible exact ih0 _ _ _)
   | (with_reducible exact spec_l4PartOk.mono _ _ _)
   | (with_reducible exact spec_l4Parts.mono _ _)
   | (with_reducible exact LeO.refl _)
   | (with_reducible exact LeO.none _)
   | (with_reducible refine LeO.ite ?_ ?_)
   | (with_reducible refine LeO.bind ?_ (fun _ => ?_))
   | exact ih0 _ _ _
   | exact spec_l4PartOk.mono _ _ _
   | exact spec_l4Parts.mono _ _
   | exact LeO.none _
   | refine LeO.ite ?_ ?_
   | refine LeO.bind ?_ (fun _ => ?_)
theorem spec_l4Ok.mono : ∀ a0 a1 k, LeO (spec_l4Ok.f k a0 a1) (spec_l4Ok.f (k + 1) a0 a1) := by
 intro a0 a1 k; have ih0 := spec_l4Ok.mono_l k
 unfold spec_l4Ok.f
 repeat' first
   | (with_reducible exact ih0 _ _ _)
   | (with_reducible exact spec_l4PartOk.mono _ _ _)
   | (with_reducible exact spec_l4Parts.mono _ _)
   | (with_reducible exact LeO.refl _)
   | (with_reducible exact LeO.none _)
   | (with_reducible refine LeO.ite ?_ ?_)
   | (with_reducible refine LeO.bind ?_ (fun _ => ?_))
   | exact ih0 _ _ _
   | exact spec_l4PartOk.mono _ _ _
   | exact spec_l4Parts.mono _ _
   | exact LeO.none _
   | refine LeO.ite ?_ ?_
   | refine LeO.bind ?_ (fun _ => ?_)
set_option maxHeartbeats 8000000 in
set_option maxRecDepth 100000 in
theorem spec_l4Ok.calls (k : Nat) (a0 : ByteArray) (a1 : Bool) (r : Bool) (w : World) (h : spec_l4Ok.f k a0 a1 = some r) :
  Calls Tryd.prog 74 #[.string a0, .bool a1] w fun e w' => e = .returned (.bool r) ∧ Below w.heap.size w w' := by
 have HB := Aside0.mk (Below.refl w.heap.size w); have H : (if (a0.size : Int) > 126 then (some false) else ((spec_l4Parts.f k a0).bind fun t116 => (if (t116.length : Int) > 6 then (some false) else (spec_l4Ok.l0 k a1 t116 0)))) = some r := h; clear h
 by_cases c3 : (a0.size : Int) > 126
 ·rw [if_pos c3] at H
  have c3b0 : decide (126 < (a0.size : Int)) = true := decide_eq_true c3; have c3b1 : decide (126 < a0.size) = true := decide_eq_true (by omega); clear c3; obtain rfl := Option.some.inj H
  go_enter Tryd.func74, Tryd.ntmps74
  go_wp2
  go_ret
  exact ⟨Ye2, be HB.out⟩
 ·rw [if_neg c3] at H
  have c3b0 : decide (126 < (a0.size : Int)) = false := decide_eq_false c3; have c3b1 : decide (126 < a0.size) = false := decide_eq_false (by omega); clear c3; replace H := Option.bind_eq_some_iff.mp H; obtain ⟨t116, A40, H⟩ := H; replace H : (if (t116.length : Int) > 6 then (some false) else (spec_l4Ok.l0 k a1 t116 0)) = some r := H; have A4 := Aside0.mk A40; clear A40
  by_cases c5 : (t116.length : Int) > 6
  ·rw [if_pos c5] at H
   have c5b0 : decide (6 < (t116.length : Int)) = true := decide_eq_true c5; have c5b1 : decide (6 < t116.length) = true := decide_eq_true (by omega); clear c5; obtain rfl := Option.some.inj H
   go_enter Tryd.func74, Tryd.ntmps74
   go_wp2_with (first | ((with_reducible refine gc 85 rfl ?_); refine gl (some 11) _ (#[.string a0]) Tryd.func85 ?_; (with_reducible refine (spec_l4Parts.calls k a0 t116 _ A4.out).mono ?_); rintro e w6 ⟨v117, rfl, ho0, hb⟩; refine ⟨_, rfl, ?_⟩; refine Ya2 (Kd.R_lower ho0 (below_size (be HB.out))) (below_step (be HB.out) hb) ?_; clear HB; intro HO118 HB; (try clear hb); (try clear hb2); (try clear hk); (try clear hi); (try clear ho0); obtain ⟨Ao7, co7, eo7⟩ := Kd.R_slice HO118.out; subst eo7))
   go_ret
   exact ⟨Ye2, be HB.out⟩
  ·rw [if_neg c5] at H
   have c5b0 : decide (6 < (t116.length : Int)) = false := decide_eq_false c5; have c5b1 : decide (6 < t116.length) = false := decide_eq_false (by omega); clear c5; have H' := Aside0.mk H; clear H
   go_enter Tryd.func74, Tryd.ntmps74
   go_wp2_with (first | ((with_reducible refine gc 85 rfl ?_); refine gl (some 11) _ (#[.string a0]) Tryd.func85 ?_; (with_reducible refine (spec_l4Parts.calls k a0 t116 _ A4.out).mono ?_); rintro e w8 ⟨v117, rfl, ho0, hb⟩; refine ⟨_, rfl, ?_⟩; refine Ya2 (Kd.R_lower ho0 (below_size (be HB.out))) (below_step (be HB.out) hb) ?_; clear HB; intro HO118 HB; (try clear hb); (try clear hb2); (try clear hk); (try clear hi); (try clear ho0); obtain ⟨Ao9, co9, eo9⟩ := Kd.R_slice HO118.out; subst eo9))
   go_loopg [6] k (fun kq v6 w' => ∃ (qa : Int), v6 = .int .i64 qa ∧ Aside0 (spec_l4Ok.l0 kq a1 t116 qa = some r) ∧ Aside0 (kq ≤ k) ∧ Aside0 (Kd.R Kd.string 9 w' w.heap.size (fun _ => True) (.slice Ao9 t116.length co9) t116) ∧ Aside0 (Below w.heap.size w w'))
   case atStart => exact ⟨(0), Ye1, H', ⟨Nat.le_refl _⟩, ⟨kr HO118.out⟩, ⟨be HB.out⟩⟩
   case round =>
    clear H'; (try clear p2); (try clear c3); (try clear c3b0); (try clear c3b1); (try clear c5); (try clear c5b0); (try clear c5b1); (try clear c7); (try clear c8); obtain ⟨qa, rfl, HA, HK1, HO_5, HB⟩ := hrel
    cases gk with
    | zero => exact absurd HA.out (by simp [spec_l4Ok.l0])
    | succ k1 =>
     have H := HA.out; clear HA; simp only [spec_l4Ok.l0] at H
     by_cases c10 : qa < (t116.length : Int)
     ·rw [if_pos c10] at H
      have c10b0 : decide (qa < (t116.length : Int)) = true := decide_eq_true c10; clear c10
      by_cases c11 : 0 ≤ qa
      ·rw [if_pos c11] at H
       have c11b0 : decide (0 ≤ qa) = true := decide_eq_true c11; clear c11; replace H := Option.bind_eq_some_iff.mp H; obtain ⟨t120, A120, H⟩ := H; replace H : (if t120 = true then (spec_l4Ok.l0 k1 a1 t116 (wrap64 (qa + 1))) else (some false)) = some r := H; have A12 := Aside0.mk A120; clear A120
       by_cases c13 : t120 = true
       ·subst c13
        have H1 : (spec_l4Ok.l0 k1 a1 t116 (wrap64 (qa + 1))) = some r := by rw [if_pos rfl] at H; exact H
        clear H; have H := H1; clear H1; have H' := Aside0.mk H; clear H; have p119 : 0 ≤ (qa : Int) := oda; have q119 : qa < (t116.length : Int) := oda; obtain ⟨ad119, e119, hx119_0⟩ := Kd.at_string (Kd.R_reads' HO_5.out).2.2 qa p119 q119
        cases e119
        replace p119 := eq_true p119; replace q119 := eq_true q119
        go_wp2_with (first | ((with_reducible refine gc 92 rfl ?_); refine gl (some 26) _ (#[.string (rdOf ByteArray.empty t116 qa), .bool a1]) Tryd.func92 ?_; (with_reducible refine (spec_l4PartOk.calls k1 (rdOf ByteArray.empty t116 qa) a1 true _ A12.out).mono ?_); rintro e w' ⟨rfl, ⟨nd, rfl⟩⟩; refine ⟨_, rfl, ?_⟩))
        go_roundg k1
        case measure => have := HK1.out; omega
        case rel => exact ⟨(wrap64 (qa + 1)), Ye1, H', ⟨by have := HK1.out; omega⟩, ⟨kr HO_5.out⟩, ⟨be HB.out⟩⟩
       ·replace c13 := Bool.eq_false_iff.mpr c13; subst c13
        have H1 : (some false) = some r := by rw [if_neg (show ¬ (false = true) by decide)] at H; exact H
        clear H; have H := H1; clear H1; obtain rfl := Option.some.inj H; have p119 : 0 ≤ (qa : Int) := oda; have q119 : qa < (t116.length : Int) := oda; obtain ⟨ad119, e119, hx119_0⟩ := Kd.at_string (Kd.R_reads' HO_5.out).2.2 qa p119 q119
        cases e119
        replace p119 := eq_true p119; replace q119 := eq_true q119
        go_wp2_with (first | ((with_reducible refine gc 92 rfl ?_); refine gl (some 26) _ (#[.string (rdOf ByteArray.empty t116 qa), .bool a1]) Tryd.func92 ?_; (with_reducible refine (spec_l4PartOk.calls k1 (rdOf ByteArray.empty t116 qa) a1 false _ A12.out).mono ?_); rintro e w' ⟨rfl, ⟨nd, rfl⟩⟩; refine ⟨_, rfl, ?_⟩))
        go_ret
        exact ⟨Ye2, be HB.out⟩
      ·rw [if_neg c11] at H
       exact absurd H (by simp)
     ·rw [if_neg c10] at H
      have c10b0 : decide (qa < (t116.length : Int)) = false := decide_eq_false c10; clear c10; obtain rfl := Option.some.inj H
      go_wp2
      go_ret
      exact ⟨Ye2, be HB.out⟩

end Go.Proofs.YtkdghhkpmkfjhaaDoor.P


namespace Go.Proofs.YtkdghhkpmkfjhaaDoor.P
open Go.RowKit Go.Proofs.YtkdghhkpmkfjhaaDoorW.PrintWords Go.Proofs.YtkdghhkpmkfjhaaDoorW.PrintLast Go.Proofs.YtkdghhkpmkfjhaaDoorW.PrintMore
attribute [local go_sem] max2_int min2_int max_two min_two max_three min_three max_four min_four
set_option linter.unusedVariables false
set_option linter.unusedSimpArgs false

/-! ### spec_ValidPath: function 48 -/
def spec_ValidPath.f (k : Nat) (a0 : ByteArray) : Option (Bool) := (spec_l4Ok.f k a0 false).bind fun t121 => (some t121)
theorem spec_ValidPath.mono : ∀ a0 k, LeO (spec_ValidPath.f k a0) (spec_ValidPath.f (k + 1) a0) := by
 intro a0 k
 unfold spec_ValidPath.f
 repeat' first
   | (with_reducible exact spec_l4Ok.mono _ _ _)
   | (with_reducible exact LeO.refl _)
   | (with_reducible exact LeO.none _)
   | (with_reducible refine LeO.ite ?_ ?_)
   | (with_reducible refine LeO.bind ?_ (fun _ => ?_))
   | exact spec_l4Ok.mono _ _ _
   | exact LeO.none _
   | refine LeO.ite ?_ ?_
   | refine LeO.bind ?_ (fun _ => ?_)
set_option maxHeartbeats 8000000 in
set_option maxRecDepth 100000 in
theorem spec_ValidPath.calls (k : Nat) (a0 : ByteArray) (r : Bool) (w : World) (h : spec_ValidPath.f k a0 = some r) :
  Calls Tryd.prog 48 #[.string a0] w fun e w' => e = .returned (.bool r) ∧ Below w.heap.size w w' := by
 have HB := Aside0.mk (Below.refl w.heap.size w); have H : ((spec_l4Ok.f k a0 false).bind fun t121 => (some t121)) = some r := h; clear h; replace H := Option.bind_eq_some_iff.mp H; obtain ⟨t121, A20, H⟩ := H; replace H : (some t121) = some r := H; have A2 := Aside0.mk A20; clear A20; obtain rfl := Option.some.inj H
 go_enter Tryd.func48, Tryd.ntmps48
 go_wp2_with (first | ((with_reducible refine gc 74 rfl ?_); refine gl (some 4) _ (#[.string a0, .bool false]) Tryd.func74 ?_; (with_reducible refine (spec_l4Ok.calls k a0 false t121 _ A2.out).mono ?_); rintro e w3 ⟨rfl, hb⟩; refine ⟨_, rfl, ?_⟩; refine Ya1 (below_step (be HB.out) hb) ?_; clear HB; intro HB; (try clear hb); (try clear hb2); (try clear hk); (try clear hi)))
 go_ret
 exact ⟨Ye2, be HB.out⟩

end Go.Proofs.YtkdghhkpmkfjhaaDoor.P


namespace Go.Proofs.YtkdghhkpmkfjhaaDoor.P
open Go.RowKit Go.Proofs.YtkdghhkpmkfjhaaDoorW.PrintWords Go.Proofs.YtkdghhkpmkfjhaaDoorW.PrintLast Go.Proofs.YtkdghhkpmkfjhaaDoorW.PrintMore
attribute [local go_sem] max2_int min2_int max_two min_two max_three min_three max_four min_four
set_option linter.unusedVariables false
set_option linter.unusedSimpArgs false

/-! ### spec_ValidTree: function 13 -/
mutual
def spec_ValidTree.l0 : Nat → Int → List (S45) → Option (Bool)
 | 0, _, _ => none
 | k + 1, x3, x123000 => if x3 < (x123000.length : Int) then (if 0 ≤ x3 then ((spec_ValidPath.f k ((rd_T45 x123000 x3).f0)).bind fun t125 => (if t125 = true then (if (((rd_T45 x123000 x3).f1).size : Int) > 1500 then (spec_ValidTree.j1 k x3 true x123000 ((rd_T45 x123000 x3).f0) ((rd_T45 x123000 x3).f1) ((rd_T45 x123000 x3).f2)) else (if x3 > 0 then (if 0 ≤ (wrap64 (x3 - 1)) then (if (wrap64 (x3 - 1)) < (x123000.length : Int) then (spec_ValidTree.j1 k x3 (!(Op.bytesLess (((rd_T45 x123000 (wrap64 (x3 - 1))).f0).toList) (((rd_T45 x123000 x3).f0).toList))) x123000 ((rd_T45 x123000 x3).f0) ((rd_T45 x123000 x3).f1) ((rd_T45 x123000 x3).f2)) else (none)) else (none)) else (spec_ValidTree.j1 k x3 false x123000 ((rd_T45 x123000 x3).f0) ((rd_T45 x123000 x3).f1) ((rd_T45 x123000 x3).f2)))) else (spec_ValidTree.j1 k x3 true x123000 ((rd_T45 x123000 x3).f0) ((rd_T45 x123000 x3).f1) ((rd_T45 x123000 x3).f2)))) else (none)) else (some true)
def spec_ValidTree.j1 : Nat → Int → Bool → List (S45) → ByteArray → ByteArray → Bool → Option (Bool)
 | 0, _, _, _, _, _, _ => none
 | k + 1, x3, x47, x123000, x125000, x125001, x125002 => if x47 = true then (some false) else (spec_ValidTree.l1 k x3 0 x123000 x125000 x125001 x125002)
def spec_ValidTree.l1 : Nat → Int → Int → List (S45) → ByteArray → ByteArray → Bool → Option (Bool)
 | 0, _, _, _, _, _, _ => none
 | k + 1, x3, x5, x123000, x125000, x125001, x125002 => if x5 < x3 then (if 0 ≤ x5 then (if x5 < (x123000.length : Int) then ((spec_l5Begins.f ((rd_T45 x123000 x5).f0) x125000).bind fun t128 => (if t128 = true then (some false) else (spec_ValidTree.l1 k x3 (wrap64 (x5 + 1)) x123000 x125000 x125001 x125002))) else (none)) else (none)) else (spec_ValidTree.l0 k (wrap64 (x3 + 1)) x123000)
end
def spec_ValidTree.f (k : Nat) (qa : List (S45)) : Option (Bool) := if (qa.length : Int) > 100 then (some false) else (spec_ValidTree.l0 k 0 qa)
theorem spec_ValidTree.mono_l : ∀ k, (∀ y0 y1, LeO (spec_ValidTree.l0 k y0 y1) (spec_ValidTree.l0 (k + 1) y0 y1)) ∧ (∀ y0 y1 y2 y3 y4 y5, LeO (spec_ValidTree.j1 k y0 y1 y2 y3 y4 y5) (spec_ValidTree.j1 (k + 1) y0 y1 y2 y3 y4 y5)) ∧ (∀ y0 y1 y2 y3 y4 y5, LeO (spec_ValidTree.l1 k y0 y1 y2 y3 y4 y5) (spec_ValidTree.l1 (k + 1) y0 y1 y2 y3 y4 y5))
 | 0 => ⟨fun _ _ r h => by simp [spec_ValidTree.l0] at h, fun _ _ _ _ _ _ r h => by simp [spec_ValidTree.j1] at h, fun _ _ _ _ _ _ r h => by simp [spec_ValidTree.l1] at h⟩
 | k + 1 => by
  obtain ⟨ih0, ih1, ih2⟩ := spec_ValidTree.mono_l k; refine ⟨?_, ?_, ?_⟩
  ·intro y0 y1
   unfold spec_ValidTree.l0
   repeat' first
   | (with_reducible exact ih0 _ _)
   | (with_reducible exact ih1 _ _ _ _ _ _)
   | (with_reducible exact ih2 _ _ _ _ _ _)
   | (with_reducible exact spec_ValidPath.mono _ _)
   | (with_reducible exact LeO.refl _)
   | (with_reducible exact LeO.none _)
   | (with_reducible refine LeO.ite ?_ ?_)
   | (with_reducible refine LeO.bind ?_ (fun _ => ?_))
   | exact ih0 _ _
   | exact ih1 _ _ _ _ _ _
   | exact ih2 _ _ _ _ _ _
   | exact spec_ValidPath.mono _ _
   | exact LeO.none _
   | refine LeO.ite ?_ ?_
   | refine LeO.bind ?_ (fun _ => ?_)
  ·intro y0 y1 y2 y3 y4 y5
   unfold spec_ValidTree.j1
   repeat' first
   | (with_reducible exact ih0 _ _)
   | (with_reducible exact ih1 _ _ _ _ _ _)
   | (with_reducible exact ih2 _ _ _ _ _ _)
   | (with_reducible exact spec_ValidPath.mono _ _)
   | (with_reducible exact LeO.refl _)
   | (with_reducible exact LeO.none _)
   | (with_reducible refine LeO.ite ?_ ?_)
   | (with_reducible refine LeO.bind ?_ (fun _ => ?_))
   | exact ih0 _ _
   | exact ih1 _ _ _ _ _ _
   | exact ih2 _ _ _ _ _ _
   | exact spec_ValidPath.mono _ _
   | exact LeO.none _
   | refine LeO.ite ?_ ?_
   | refine LeO.bind ?_ (fun _ => ?_)
  ·intro y0 y1 y2 y3 y4 y5
   unfold spec_ValidTree.l1
   repeat' first
   | (with_reducible exact ih0 _ _)
   | (with_reducible exact ih1 _ _ _ _ _ _)
   | (with_reducible exact ih2 _ _ _ _ _ _)
   | (with_reducible exact spec_ValidPath.mono _ _)
   | (with_reducible exact LeO.refl _)
   | (with_reducible exact LeO.none _)
   | (with_reducible refine LeO.ite ?_ ?_)
   | (with_reducible refine LeO.bind ?_ (fun _ => ?_))
   | exact ih0 _ _
   | exact ih1 _ _ _ _ _ _
   | exact ih2 _ _ _ _ _ _
   | exact spec_ValidPath.mono _ _
   | exact LeO.none _
   | refine LeO.ite ?_ ?_
   | refine LeO.bind ?_ (fun _ => ?_)
theorem spec_ValidTree.mono : ∀ a0 k, LeO (spec_ValidTree.f k a0) (spec_ValidTree.f (k + 1) a0) := by
 intro a0 k; obtain ⟨ih0, ih1, ih2⟩ := spec_ValidTree.mono_l k
 unfold spec_ValidTree.f
 repeat' first
   | (with_reducible exact ih0 _ _)
   | (with_reducible exact ih1 _ _ _ _ _ _)
   | (with_reducible exact ih2 _ _ _ _ _ _)
   | (with_reducible exact spec_ValidPath.mono _ _)
   | (with_reducible exact LeO.refl _)
   | (with_reducible exact LeO.none _)
   | (with_reducible refine LeO.ite ?_ ?_)
   | (with_reducible refine LeO.bind ?_ (fun _ => ?_))
   | exact ih0 _ _
   | exact ih1 _ _ _ _ _ _
   | exact ih2 _ _ _ _ _ _
   | exact spec_ValidPath.mono _ _
   | exact LeO.none _
   | refine LeO.ite ?_ ?_
   | refine LeO.bind ?_ (fun _ => ?_)
def spec_ValidTree.T7 : Bool × List (List Nat × List Nat) := (true, [([], []), ([0], [0]), ([1], [1]), ([2], [2]), ([3, 2], [3]), ([4], [4]), ([5, 4], [4, 5]), ([6, 4], [4, 6]), ([7, 4], [4, 7]), ([4, 8], [4, 8]), ([9, 4], [9]), ([10], [10]), ([11, 10], [10, 11]), ([12, 10, 10], [10, 12]), ([13], [13]), ([14, 13], [13, 14]), ([13], [13]), ([16, 13], [13, 16]), ([15, 17, 13], [13, 15, 17]), ([18, 13], [13, 18]), ([19, 13], [13, 19]), ([13], [13]), ([21, 13], [13, 21]), ([20, 22, 13], [13, 20, 22]), ([13, 23, 10], [10, 13, 23]), ([10, 24], [10, 24])])
def spec_ValidTree.B7 : List Nat := [0, 1, 3, 7, 15, 31, 63, 127, 255, 511, 1023, 2047, 4095, 8191, 16383, 32767, 16383, 81919, 262143, 524287, 1048575, 16383, 2113535, 8388607, 16777215, 33554431]
theorem spec_ValidTree.tab7 : rtab .any (opsOf Tryd.f13 7) = spec_ValidTree.T7 := by kernel_rfl
theorem spec_ValidTree.bits7 : waitsOk spec_ValidTree.T7.2 spec_ValidTree.B7 = true := by kernel_rfl
def spec_ValidTree.T12 : Bool × List (List Nat × List Nat) := (true, [([], []), ([0], [0]), ([], []), ([1, 2], [1, 2]), ([3], [3]), ([4], [4]), ([], []), ([6], [6]), ([5, 7], [5, 7])])
def spec_ValidTree.B12 : List Nat := [0, 1, 0, 7, 15, 31, 0, 64, 255]
theorem spec_ValidTree.tab12 : rtab .any (opsOf Tryd.f13 12) = spec_ValidTree.T12 := by kernel_rfl
theorem spec_ValidTree.bits12 : waitsOk spec_ValidTree.T12.2 spec_ValidTree.B12 = true := by kernel_rfl
set_option maxHeartbeats 8000000 in
set_option maxRecDepth 100000 in
theorem spec_ValidTree.calls (k : Nat) (A0_0 : Option Addr) (c0_0 : Nat) (qa : List (S45)) (r : Bool) (w : World) (hr0_0 : Kd.C k45 w A0_0 qa.length qa) (hc0_0 : qa.length ≤ c0_0) (h : spec_ValidTree.f k qa = some r) :
  Calls Tryd.prog 13 #[.agg #[.slice A0_0 qa.length c0_0]] w fun e w' => e = .returned (.bool r) ∧ Below w.heap.size w w' := by
 have hu29 := Tryd.underlying29; have hu45 := Tryd.underlying45; have HR0_0 := Aside0.mk hr0_0; have HC0_0 := Aside0.mk hc0_0; clear hr0_0 hc0_0; have HB := Aside0.mk (Below.refl w.heap.size w); have H : (if (qa.length : Int) > 100 then (some false) else (spec_ValidTree.l0 k 0 qa)) = some r := h; clear h
 by_cases c2 : (qa.length : Int) > 100
 ·rw [if_pos c2] at H
  have c2b0 : decide (100 < (qa.length : Int)) = true := decide_eq_true c2; have c2b1 : decide (100 < qa.length) = true := decide_eq_true (by omega); clear c2; obtain rfl := Option.some.inj H
  go_enter Tryd.func13, Tryd.ntmps13
  go_wp2_with (first | ((with_reducible refine gd 1 rfl ?_); (try (refine gate_guard (by rfl) ?_; dsimp only)); refine bx 1 29 (#[.slice A0_0 qa.length c0_0]) ?_; intro gb122 hg w3 hbox hb; refine Ya4 (below_step (be HB.out) hb) (hbox) (bs hg (be HB.out)) (bs hg (be HB.out)) ?_; clear HB; intro HB qd GW122 qg; clear hb hbox hg; have ⟨hcz4_0, hfz4_0⟩ := Yc1 qd.out))
  go_ret
  exact ⟨Ye2, (by first | exact be1 HB.out qg.out | exact be HB.out)⟩
 ·rw [if_neg c2] at H
  have c2b0 : decide (100 < (qa.length : Int)) = false := decide_eq_false c2; have c2b1 : decide (100 < qa.length) = false := decide_eq_false (by omega); clear c2; have H' := Aside0.mk H; clear H
  go_enter Tryd.func13, Tryd.ntmps13
  go_wp2_with (first | ((with_reducible refine gd 1 rfl ?_); (try (refine gate_guard (by rfl) ?_; dsimp only)); refine bx 1 29 (#[.slice A0_0 qa.length c0_0]) ?_; intro gb122 hg w5 hbox hb; refine Ya4 (below_step (be HB.out) hb) (hbox) (bs hg (be HB.out)) (bs hg (be HB.out)) ?_; clear HB; intro HB qd GW122 qg; clear hb hbox hg; have ⟨hcz6_0, hfz6_0⟩ := Yc1 qd.out))
  go_loopg [3] k (fun kq v3 w' => ∃ (qb : Int), v3 = .int .i64 qb ∧ Aside0 (spec_ValidTree.l0 kq qb qa = some r) ∧ Aside0 (kq ≤ k) ∧ Aside0 (w'.heap[gb122]? = some (.cells #[(.slice A0_0 qa.length c0_0)] 29 (0, 0))) ∧ Aside0 (Below w.heap.size w w'))
  case atStart => exact ⟨(0), Ye1, H', ⟨Nat.le_refl _⟩, ⟨bk qd.out⟩, ⟨be1 HB.out qg.out⟩⟩
  case round =>
   clear H'; (try clear c1); (try clear c2); (try clear c2b0); (try clear c2b1); (try clear p2); (try clear hcz4_0); (try clear hcz6_0); (try clear hfz4_0); (try clear hfz6_0); obtain ⟨qb, rfl, HA, HK1, qd, HB⟩ := hrel
   cases gk with
   | zero => exact absurd HA.out (by simp [spec_ValidTree.l0])
   | succ k1 =>
    have H := HA.out; clear HA; simp only [spec_ValidTree.l0] at H
    by_cases c7 : qb < (qa.length : Int)
    ·rw [if_pos c7] at H
     have c7b0 : decide (qb < (qa.length : Int)) = true := decide_eq_true c7; clear c7
     by_cases c8 : 0 ≤ qb
     ·rw [if_pos c8] at H
      have c8b0 : decide (0 ≤ qb) = true := decide_eq_true c8; clear c8; have HC9 := Aside0.mk H; clear H; have ⟨hcz10_0, hfz10_0⟩ := Yc1 qd.out; have p123 : 0 ≤ (qb : Int) := oda; have q123 : qb < (qa.length : Int) := oda; obtain ⟨ad123, e123, hx123_0, hx123_1, hx123_2⟩ := at_T45 (Kd.C_below HR0_0.out HB.out) qb p123 q123
      cases e123
      replace p123 := eq_true p123; replace q123 := eq_true q123
      go_upto_region 7 with (first | ((with_reducible refine gd 4 rfl ?_); (try (refine gate_guard (by rfl) ?_; dsimp only)); refine bx 4 45 (#[.string (⟨#[]⟩ : ByteArray), .string (⟨#[]⟩ : ByteArray), .bool false]) ?_; intro qe hg w11 hbox hb; refine Ya7 (bb qd hb) (below_step (be1 HB.out qg.out) hb) (hbox) (bs hg (be1 HB.out qg.out)) (bs hg (be1 HB.out qg.out)) (bl hg qd) (br hg qd) ?_; clear qd HB; intro qd HB qc GW124 qi qj NB124_122; clear hb hbox hg; have hnb12 := NB124_122.out; have hnc12 := qj.out; have ⟨hcz13_0, hcz13_1, hcz13_2, hfz13_0, hfz13_1, hfz13_2⟩ := Yc3 qc.out))
      (try simp only [Act.put, List.setIfInBounds_toArray, List.set_cons_zero, List.set_cons_succ])
      go_cut [47] (fun v47 wc => ∃ (kq : Nat) (x47_8 : Bool), v47 = .bool x47_8 ∧ Aside0 (spec_ValidTree.j1 kq qb x47_8 qa ((rd_T45 qa qb).f0) ((rd_T45 qa qb).f1) ((rd_T45 qa qb).f2) = some r) ∧ Aside0 (kq ≤ k1) ∧ Aside0 (wc.heap[gb122]? = some (.cells #[(.slice (some ad123) qa.length c0_0)] 29 (0, 0))) ∧ Aside0 (wc.heap[qe]? = some (.cells #[.string ((rd_T45 qa qb).f0), .string ((rd_T45 qa qb).f1), .bool ((rd_T45 qa qb).f2)] 45 (0, 0))) ∧ Aside0 (Below w.heap.size w wc))
      case first =>
       have H := HC9.out; clear HC9; replace H := Option.bind_eq_some_iff.mp H; obtain ⟨t125, A140, H⟩ := H; replace H : (if t125 = true then (if (((rd_T45 qa qb).f1).size : Int) > 1500 then (spec_ValidTree.j1 k1 qb true qa ((rd_T45 qa qb).f0) ((rd_T45 qa qb).f1) ((rd_T45 qa qb).f2)) else (if qb > 0 then (if 0 ≤ (wrap64 (qb - 1)) then (if (wrap64 (qb - 1)) < (qa.length : Int) then (spec_ValidTree.j1 k1 qb (!(Op.bytesLess (((rd_T45 qa (wrap64 (qb - 1))).f0).toList) (((rd_T45 qa qb).f0).toList))) qa ((rd_T45 qa qb).f0) ((rd_T45 qa qb).f1) ((rd_T45 qa qb).f2)) else (none)) else (none)) else (spec_ValidTree.j1 k1 qb false qa ((rd_T45 qa qb).f0) ((rd_T45 qa qb).f1) ((rd_T45 qa qb).f2)))) else (spec_ValidTree.j1 k1 qb true qa ((rd_T45 qa qb).f0) ((rd_T45 qa qb).f1) ((rd_T45 qa qb).f2))) = some r := H; have A14 := Aside0.mk A140; clear A140
       by_cases c15 : t125 = true
       ·subst c15
        have H1 : (if (((rd_T45 qa qb).f1).size : Int) > 1500 then (spec_ValidTree.j1 k1 qb true qa ((rd_T45 qa qb).f0) ((rd_T45 qa qb).f1) ((rd_T45 qa qb).f2)) else (if qb > 0 then (if 0 ≤ (wrap64 (qb - 1)) then (if (wrap64 (qb - 1)) < (qa.length : Int) then (spec_ValidTree.j1 k1 qb (!(Op.bytesLess (((rd_T45 qa (wrap64 (qb - 1))).f0).toList) (((rd_T45 qa qb).f0).toList))) qa ((rd_T45 qa qb).f0) ((rd_T45 qa qb).f1) ((rd_T45 qa qb).f2)) else (none)) else (none)) else (spec_ValidTree.j1 k1 qb false qa ((rd_T45 qa qb).f0) ((rd_T45 qa qb).f1) ((rd_T45 qa qb).f2)))) = some r := by rw [if_pos rfl] at H; exact H
        clear H; have H := H1; clear H1
        by_cases c16 : (((rd_T45 qa qb).f1).size : Int) > 1500
        ·rw [if_pos c16] at H
         have c16b0 : decide (1500 < (((rd_T45 qa qb).f1).size : Int)) = true := decide_eq_true c16; have c16b1 : decide (1500 < ((rd_T45 qa qb).f1).size) = true := decide_eq_true (by omega); clear c16; (first | rw [c16b0] | (simp only [i64_w, i32_w]; rw [c16b0]) | skip); have H' := Aside0.mk H; clear H
         try go_wp2
         have n0_ : Aside0 ((((w11.setCell ⟨qe, 0, none⟩ (.string ((rd_T45 qa qb).f0))).setCell ⟨qe, 1, none⟩ (.string ((rd_T45 qa qb).f1))).setCell ⟨qe, 2, none⟩ (.bool ((rd_T45 qa qb).f2))).heap[gb122]? = some (.cells #[.slice (some ad123) qa.length c0_0] 29 (0, 0))) := ⟨bkf qd.out qj.out⟩
         have n1_ : Aside0 ((((w11.setCell ⟨qe, 0, none⟩ (.string ((rd_T45 qa qb).f0))).setCell ⟨qe, 1, none⟩ (.string ((rd_T45 qa qb).f1))).setCell ⟨qe, 2, none⟩ (.bool ((rd_T45 qa qb).f2))).heap[qe]? = some (.cells #[.string ((rd_T45 qa qb).f0), .string ((rd_T45 qa qb).f1), .bool ((rd_T45 qa qb).f2)] 45 (0, 0))) := ⟨by (with_reducible repeat (first | apply blk_drewN | apply blk_drew | apply blk_alloc)); refine blk_put (cs := #[.string ((rd_T45 qa qb).f0), .string ((rd_T45 qa qb).f1), .bool false]) ?_ 2 _ rfl; (with_reducible repeat (first | apply blk_drewN | apply blk_drew | apply blk_alloc)); refine blk_put (cs := #[.string ((rd_T45 qa qb).f0), .string (⟨#[]⟩ : ByteArray), .bool false]) ?_ 1 _ rfl; (with_reducible repeat (first | apply blk_drewN | apply blk_drew | apply blk_alloc)); refine blk_put (cs := #[.string (⟨#[]⟩ : ByteArray), .string (⟨#[]⟩ : ByteArray), .bool false]) ?_ 0 _ rfl; (with_reducible repeat (first | apply blk_drewN | apply blk_drew | apply blk_alloc)); exact qc.out⟩
         have n2_ : Aside0 (Below w.heap.size w (((w11.setCell ⟨qe, 0, none⟩ (.string ((rd_T45 qa qb).f0))).setCell ⟨qe, 1, none⟩ (.string ((rd_T45 qa qb).f1))).setCell ⟨qe, 2, none⟩ (.bool ((rd_T45 qa qb).f2)))) := ⟨be2 HB.out qg.out qi.out⟩
         (try clear qd); (try clear qc); (try clear HB); generalize (((w11.setCell ⟨qe, 0, none⟩ (.string ((rd_T45 qa qb).f0))).setCell ⟨qe, 1, none⟩ (.string ((rd_T45 qa qb).f1))).setCell ⟨qe, 2, none⟩ (.bool ((rd_T45 qa qb).f2))) = w17 at n0_ n1_ n2_ ⊢; have qd := n0_; have qc := n1_; have HB := n2_; clear n0_ n1_ n2_; refine Ya3 (blk_drew qd.out) (blk_drew qc.out) (below_drew1 HB.out) ?_; clear qd qc HB; intro qd qc HB; refine start_ (n := 26) (S := fun w' => w'.cell? ⟨qe, 0, none⟩ = some (.string ((rd_T45 qa qb).f0)) ∧ w'.cell? ⟨qe, 1, none⟩ = some (.string ((rd_T45 qa qb).f1)) ∧ w'.cell? ⟨qe, 2, none⟩ = some (.bool ((rd_T45 qa qb).f2))) (ds := []) (fb 26 0) (by kernel_rfl) rfl rfl ⟨(blk_cell qc.out 0).trans rfl, (blk_cell qc.out 1).trans rfl, (blk_cell qc.out 2).trans rfl⟩ (fun hHeld => ?_); refine with_tabW spec_ValidTree.tab7 spec_ValidTree.bits7 (fun HT_ HW_ => ?_); generalize w17.drew = w18 at qd qc HB hHeld ⊢; refine pu 0 22 (fb 26 1) HT_ ?_; refine tk 1 23 (fb 26 3) HT_ HW_ hHeld ?_; refine one_ (i := 2) (N := some 24) (fb 26 7) rfl rfl (one_of HT_.out (by kernel_rfl)) (by decide) (fun K hK => ?_); refine gs _ (#[.string ((rd_T45 qa qb).f0)]) Tryd.func48 ?_; (with_reducible refine (spec_ValidPath.calls k1 ((rd_T45 qa qb).f0) true _ A14.out).mono ?_); rintro e w19 ⟨rfl, hb⟩; refine ⟨_, rfl, ?_⟩; refine Ya3 (bb qd hb) (bb qc hb) (below_step (be2 HB.out qg.out qi.out) hb) ?_; clear qd qc HB; intro qd qc HB; (try clear hb); (try clear hb2); (try clear hk); (try clear hi); refine hK.out _ _ ⟨(blk_cell qc.out 0).trans rfl, (blk_cell qc.out 1).trans rfl, (blk_cell qc.out 2).trans rfl⟩ (fun hHeld => ?_); clear hK K; refine norm_ (a' := ?_) ?_ ?_; rotate_left
         ·show Act.put _ (some 24) _ = _
          simp only [Act.put, List.setIfInBounds_toArray, List.set_cons_zero, List.set_cons_succ, i64_w, i32_w]; rfl
         refine pu 3 25 (fb 26 15) HT_ ?_; refine pu 4 26 (fb 26 31) HT_ ?_; refine pu 5 27 (fb 26 63) HT_ ?_; refine tk 6 28 (fb 26 127) HT_ HW_ hHeld ?_; refine pu 7 29 (fb 26 255) HT_ ?_; refine pu 8 30 (fb 26 511) HT_ ?_; refine pu 9 31 (fb 26 1023) HT_ ?_; refine pu 10 32 (fb 26 2047) HT_ ?_; refine pn 11 33 (fb 26 4095) HT_ ?_; refine pn 12 34 (fb 26 8191) HT_ ?_; refine pn 13 35 (fb 26 16383) HT_ ?_; refine pn 14 36 (fb 26 32767) HT_ ?_; refine pn 15 37 (fb 26 65535) HT_ ?_; refine pn 16 38 (fb 26 131071) HT_ ?_; refine pn 17 39 (fb 26 262143) HT_ ?_; refine pn 18 40 (fb 26 524287) HT_ ?_; refine pn 19 41 (fb 26 1048575) HT_ ?_; refine pn 20 42 (fb 26 2097151) HT_ ?_; refine pn 21 43 (fb 26 4194303) HT_ ?_; refine pn 22 44 (fb 26 8388607) HT_ ?_; refine pn 23 45 (fb 26 16777215) HT_ ?_; refine pn 24 46 (fb 26 33554431) HT_ ?_; refine pu 25 47 (fb 26 67108863) HT_ ?_; refine done_ (done_of HT_.out (by kernel_rfl)) ?_
         try go_wp2
         go_meet
         case rel => exact ⟨_, (true), Ye1, H', ⟨by have := HK1.out; first | omega | exact Nat.le_refl _⟩, ⟨bk qd.out⟩, ⟨bk qc.out⟩, ⟨be2 HB.out qg.out qi.out⟩⟩
        ·rw [if_neg c16] at H
         have c16b0 : decide (1500 < (((rd_T45 qa qb).f1).size : Int)) = false := decide_eq_false c16; have c16b1 : decide (1500 < ((rd_T45 qa qb).f1).size) = false := decide_eq_false (by omega); clear c16; (first | rw [c16b0] | (simp only [i64_w, i32_w]; rw [c16b0]) | skip)
         by_cases c20 : qb > 0
         ·rw [if_pos c20] at H
          have c20b0 : decide (0 < qb) = true := decide_eq_true c20; clear c20
          obtain ⟨qh, hji21⟩ : ∃ j_ : Int, (wrap64 (qb - 1)) = j_ := ⟨_, rfl⟩
          replace H : (if 0 ≤ (qh) then (if (qh) < (qa.length : Int) then (spec_ValidTree.j1 k1 qb (!(Op.bytesLess (((rd_T45 qa (qh)).f0).toList) (((rd_T45 qa qb).f0).toList))) qa ((rd_T45 qa qb).f0) ((rd_T45 qa qb).f1) ((rd_T45 qa qb).f2)) else (none)) else (none)) = some r := by first | (rw [hji21] at H; exact H) | (simp only [hji21] at H ⊢; exact H)
          (try rw [hji21] at A14); have hji21w : (IntKind.i64.wrap (qb - 1)) = qh := (i64_w _).trans hji21
          by_cases c22 : 0 ≤ (qh)
          ·rw [if_pos c22] at H
           have c22b0 : decide (0 ≤ (qh)) = true := decide_eq_true c22; clear c22
           by_cases c23 : (qh) < (qa.length : Int)
           ·rw [if_pos c23] at H
            have c23b0 : decide ((qh) < (qa.length : Int)) = true := decide_eq_true c23; clear c23; have H' := Aside0.mk H; clear H
            try go_wp2
            have n0_ : Aside0 ((((w11.setCell ⟨qe, 0, none⟩ (.string ((rd_T45 qa qb).f0))).setCell ⟨qe, 1, none⟩ (.string ((rd_T45 qa qb).f1))).setCell ⟨qe, 2, none⟩ (.bool ((rd_T45 qa qb).f2))).heap[gb122]? = some (.cells #[.slice (some ad123) qa.length c0_0] 29 (0, 0))) := ⟨bkf qd.out qj.out⟩
            have n1_ : Aside0 ((((w11.setCell ⟨qe, 0, none⟩ (.string ((rd_T45 qa qb).f0))).setCell ⟨qe, 1, none⟩ (.string ((rd_T45 qa qb).f1))).setCell ⟨qe, 2, none⟩ (.bool ((rd_T45 qa qb).f2))).heap[qe]? = some (.cells #[.string ((rd_T45 qa qb).f0), .string ((rd_T45 qa qb).f1), .bool ((rd_T45 qa qb).f2)] 45 (0, 0))) := ⟨by (with_reducible repeat (first | apply blk_drewN | apply blk_drew | apply blk_alloc)); refine blk_put (cs := #[.string ((rd_T45 qa qb).f0), .string ((rd_T45 qa qb).f1), .bool false]) ?_ 2 _ rfl; (with_reducible repeat (first | apply blk_drewN | apply blk_drew | apply blk_alloc)); refine blk_put (cs := #[.string ((rd_T45 qa qb).f0), .string (⟨#[]⟩ : ByteArray), .bool false]) ?_ 1 _ rfl; (with_reducible repeat (first | apply blk_drewN | apply blk_drew | apply blk_alloc)); refine blk_put (cs := #[.string (⟨#[]⟩ : ByteArray), .string (⟨#[]⟩ : ByteArray), .bool false]) ?_ 0 _ rfl; (with_reducible repeat (first | apply blk_drewN | apply blk_drew | apply blk_alloc)); exact qc.out⟩
            have n2_ : Aside0 (Below w.heap.size w (((w11.setCell ⟨qe, 0, none⟩ (.string ((rd_T45 qa qb).f0))).setCell ⟨qe, 1, none⟩ (.string ((rd_T45 qa qb).f1))).setCell ⟨qe, 2, none⟩ (.bool ((rd_T45 qa qb).f2)))) := ⟨be2 HB.out qg.out qi.out⟩
            (try clear qd); (try clear qc); (try clear HB); generalize (((w11.setCell ⟨qe, 0, none⟩ (.string ((rd_T45 qa qb).f0))).setCell ⟨qe, 1, none⟩ (.string ((rd_T45 qa qb).f1))).setCell ⟨qe, 2, none⟩ (.bool ((rd_T45 qa qb).f2))) = w24 at n0_ n1_ n2_ ⊢; have qd := n0_; have qc := n1_; have HB := n2_; clear n0_ n1_ n2_; refine Ya3 (blk_drew qd.out) (blk_drew qc.out) (below_drew1 HB.out) ?_; clear qd qc HB; intro qd qc HB; have p126 : 0 ≤ ((qh) : Int) := oda; have q126 : (qh) < (qa.length : Int) := oda; obtain ⟨ad126, e126, hx126_0, hx126_1, hx126_2⟩ := at_T45 HR0_0.out (qh) p126 q126; have hw126_2 := hx126_2; have hw126_1 := hx126_1; have hw126_0 := hx126_0
            obtain rfl : ad123 = ad126 := (by injection e126)
            replace hx126_0 := pw_cell_below HB.out hx126_0; replace hx126_1 := pw_cell_below HB.out hx126_1; replace hx126_2 := pw_cell_below HB.out hx126_2; replace p126 := eq_true p126; replace q126 := eq_true q126; refine start_ (n := 26) (S := fun w' => w'.cell? ⟨qe, 0, none⟩ = some (.string ((rd_T45 qa qb).f0)) ∧ w'.cell? ⟨qe, 1, none⟩ = some (.string ((rd_T45 qa qb).f1)) ∧ w'.cell? ⟨qe, 2, none⟩ = some (.bool ((rd_T45 qa qb).f2)) ∧ w'.cell? ⟨gb122, 0, none⟩ = some (.slice (some ad123) qa.length c0_0) ∧ w'.cell? (ad123.add (((qh)).toNat * 3)) = some (.string ((rd_T45 qa (qh)).f0)) ∧ w'.cell? ⟨(ad123.add (((qh)).toNat * 3)).block, (ad123.add (((qh)).toNat * 3)).off + 1, none⟩ = some (.string ((rd_T45 qa (qh)).f1)) ∧ w'.cell? ⟨(ad123.add (((qh)).toNat * 3)).block, (ad123.add (((qh)).toNat * 3)).off + 2, none⟩ = some (.bool ((rd_T45 qa (qh)).f2))) (ds := []) (fb 26 0) (by kernel_rfl) rfl rfl ⟨(blk_cell qc.out 0).trans rfl, (blk_cell qc.out 1).trans rfl, (blk_cell qc.out 2).trans rfl, (blk_cell qd.out 0).trans rfl, (pw_cell_below HB.out hw126_0), (pw_cell_below HB.out hw126_1), (pw_cell_below HB.out hw126_2)⟩ (fun hHeld => ?_); refine with_tabW spec_ValidTree.tab7 spec_ValidTree.bits7 (fun HT_ HW_ => ?_); generalize w24.drew = w25 at qd qc HB hx126_0 hx126_1 hx126_2 hHeld ⊢; refine pu 0 22 (fb 26 1) HT_ ?_; refine tk 1 23 (fb 26 3) HT_ HW_ hHeld ?_; refine one_ (i := 2) (N := some 24) (fb 26 7) rfl rfl (one_of HT_.out (by kernel_rfl)) (by decide) (fun K hK => ?_); refine gs _ (#[.string ((rd_T45 qa qb).f0)]) Tryd.func48 ?_; (with_reducible refine (spec_ValidPath.calls k1 ((rd_T45 qa qb).f0) true _ A14.out).mono ?_); rintro e w26 ⟨rfl, hb⟩; refine ⟨_, rfl, ?_⟩; refine Ya3 (bb qd hb) (bb qc hb) (below_step (be2 HB.out qg.out qi.out) hb) ?_; clear qd qc HB; intro qd qc HB; (try clear hb); (try clear hb2); (try clear hk); (try clear hi); refine hK.out _ _ ⟨(blk_cell qc.out 0).trans rfl, (blk_cell qc.out 1).trans rfl, (blk_cell qc.out 2).trans rfl, (blk_cell qd.out 0).trans rfl, (pw_cell_below HB.out hw126_0), (pw_cell_below HB.out hw126_1), (pw_cell_below HB.out hw126_2)⟩ (fun hHeld => ?_); clear hK K; refine norm_ (a' := ?_) ?_ ?_; rotate_left
            ·show Act.put _ (some 24) _ = _
             simp only [Act.put, List.setIfInBounds_toArray, List.set_cons_zero, List.set_cons_succ, i64_w, i32_w]; rfl
            refine pu 3 25 (fb 26 15) HT_ ?_; refine pu 4 26 (fb 26 31) HT_ ?_; refine pu 5 27 (fb 26 63) HT_ ?_; refine tk 6 28 (fb 26 127) HT_ HW_ hHeld ?_; refine pu 7 29 (fb 26 255) HT_ ?_; refine pu 8 30 (fb 26 511) HT_ ?_; refine pu 9 31 (fb 26 1023) HT_ ?_; refine pu 10 32 (fb 26 2047) HT_ ?_; refine pu 11 33 (fb 26 4095) HT_ ?_; refine pu 12 34 (fb 26 8191) HT_ ?_; refine pu 13 35 (fb 26 16383) HT_ ?_; refine pu 14 36 (fb 26 32767) HT_ ?_; refine pu 16 38 (fb 26 98303) HT_ ?_; refine pu 17 39 (fb 26 229375) HT_ ?_; refine pu 21 43 (fb 26 2326527) HT_ ?_; refine tk 15 37 (fb 26 2359295) HT_ HW_ hHeld ?_; refine pu 18 40 (fb 26 2621439) HT_ ?_; refine pu 19 41 (fb 26 3145727) HT_ ?_; refine tk 20 42 (fb 26 4194303) HT_ HW_ hHeld ?_; refine tk 22 44 (fb 26 8388607) HT_ HW_ hHeld ?_; refine pu 23 45 (fb 26 16777215) HT_ ?_; refine pu 24 46 (fb 26 33554431) HT_ ?_; refine pu 25 47 (fb 26 67108863) HT_ ?_; refine done_ (done_of HT_.out (by kernel_rfl)) ?_
            try go_wp2
            go_meet
            case rel => exact ⟨_, (!(Op.bytesLess (((rd_T45 qa (qh)).f0).toList) (((rd_T45 qa qb).f0).toList))), (by first | rfl | (simp; done) | (simp only [← hji21] <;> (first | rfl | simp)) | (simp [*]; done)), (by first | exact H' | (subst hji21; exact H') | (simp only [← hji21] at H' ⊢; exact H')), ⟨by have := HK1.out; first | omega | exact Nat.le_refl _⟩, ⟨bk qd.out⟩, ⟨bk qc.out⟩, ⟨be2 HB.out qg.out qi.out⟩⟩
           ·rw [if_neg c23] at H
            exact absurd H (by simp)
          ·rw [if_neg c22] at H
           exact absurd H (by simp)
         ·rw [if_neg c20] at H
          have c20b0 : decide (0 < qb) = false := decide_eq_false c20; clear c20; have H' := Aside0.mk H; clear H
          try go_wp2
          have n0_ : Aside0 ((((w11.setCell ⟨qe, 0, none⟩ (.string ((rd_T45 qa qb).f0))).setCell ⟨qe, 1, none⟩ (.string ((rd_T45 qa qb).f1))).setCell ⟨qe, 2, none⟩ (.bool ((rd_T45 qa qb).f2))).heap[gb122]? = some (.cells #[.slice (some ad123) qa.length c0_0] 29 (0, 0))) := ⟨bkf qd.out qj.out⟩
          have n1_ : Aside0 ((((w11.setCell ⟨qe, 0, none⟩ (.string ((rd_T45 qa qb).f0))).setCell ⟨qe, 1, none⟩ (.string ((rd_T45 qa qb).f1))).setCell ⟨qe, 2, none⟩ (.bool ((rd_T45 qa qb).f2))).heap[qe]? = some (.cells #[.string ((rd_T45 qa qb).f0), .string ((rd_T45 qa qb).f1), .bool ((rd_T45 qa qb).f2)] 45 (0, 0))) := ⟨by (with_reducible repeat (first | apply blk_drewN | apply blk_drew | apply blk_alloc)); refine blk_put (cs := #[.string ((rd_T45 qa qb).f0), .string ((rd_T45 qa qb).f1), .bool false]) ?_ 2 _ rfl; (with_reducible repeat (first | apply blk_drewN | apply blk_drew | apply blk_alloc)); refine blk_put (cs := #[.string ((rd_T45 qa qb).f0), .string (⟨#[]⟩ : ByteArray), .bool false]) ?_ 1 _ rfl; (with_reducible repeat (first | apply blk_drewN | apply blk_drew | apply blk_alloc)); refine blk_put (cs := #[.string (⟨#[]⟩ : ByteArray), .string (⟨#[]⟩ : ByteArray), .bool false]) ?_ 0 _ rfl; (with_reducible repeat (first | apply blk_drewN | apply blk_drew | apply blk_alloc)); exact qc.out⟩
          have n2_ : Aside0 (Below w.heap.size w (((w11.setCell ⟨qe, 0, none⟩ (.string ((rd_T45 qa qb).f0))).setCell ⟨qe, 1, none⟩ (.string ((rd_T45 qa qb).f1))).setCell ⟨qe, 2, none⟩ (.bool ((rd_T45 qa qb).f2)))) := ⟨be2 HB.out qg.out qi.out⟩
          (try clear qd); (try clear qc); (try clear HB); generalize (((w11.setCell ⟨qe, 0, none⟩ (.string ((rd_T45 qa qb).f0))).setCell ⟨qe, 1, none⟩ (.string ((rd_T45 qa qb).f1))).setCell ⟨qe, 2, none⟩ (.bool ((rd_T45 qa qb).f2))) = w27 at n0_ n1_ n2_ ⊢; have qd := n0_; have qc := n1_; have HB := n2_; clear n0_ n1_ n2_; refine Ya3 (blk_drew qd.out) (blk_drew qc.out) (below_drew1 HB.out) ?_; clear qd qc HB; intro qd qc HB; refine start_ (n := 26) (S := fun w' => w'.cell? ⟨qe, 0, none⟩ = some (.string ((rd_T45 qa qb).f0)) ∧ w'.cell? ⟨qe, 1, none⟩ = some (.string ((rd_T45 qa qb).f1)) ∧ w'.cell? ⟨qe, 2, none⟩ = some (.bool ((rd_T45 qa qb).f2))) (ds := []) (fb 26 0) (by kernel_rfl) rfl rfl ⟨(blk_cell qc.out 0).trans rfl, (blk_cell qc.out 1).trans rfl, (blk_cell qc.out 2).trans rfl⟩ (fun hHeld => ?_); refine with_tabW spec_ValidTree.tab7 spec_ValidTree.bits7 (fun HT_ HW_ => ?_); generalize w27.drew = w28 at qd qc HB hHeld ⊢; refine pu 0 22 (fb 26 1) HT_ ?_; refine tk 1 23 (fb 26 3) HT_ HW_ hHeld ?_; refine one_ (i := 2) (N := some 24) (fb 26 7) rfl rfl (one_of HT_.out (by kernel_rfl)) (by decide) (fun K hK => ?_); refine gs _ (#[.string ((rd_T45 qa qb).f0)]) Tryd.func48 ?_; (with_reducible refine (spec_ValidPath.calls k1 ((rd_T45 qa qb).f0) true _ A14.out).mono ?_); rintro e w29 ⟨rfl, hb⟩; refine ⟨_, rfl, ?_⟩; refine Ya3 (bb qd hb) (bb qc hb) (below_step (be2 HB.out qg.out qi.out) hb) ?_; clear qd qc HB; intro qd qc HB; (try clear hb); (try clear hb2); (try clear hk); (try clear hi); refine hK.out _ _ ⟨(blk_cell qc.out 0).trans rfl, (blk_cell qc.out 1).trans rfl, (blk_cell qc.out 2).trans rfl⟩ (fun hHeld => ?_); clear hK K; refine norm_ (a' := ?_) ?_ ?_; rotate_left
          ·show Act.put _ (some 24) _ = _
           simp only [Act.put, List.setIfInBounds_toArray, List.set_cons_zero, List.set_cons_succ, i64_w, i32_w]; rfl
          refine pu 3 25 (fb 26 15) HT_ ?_; refine pu 4 26 (fb 26 31) HT_ ?_; refine pu 5 27 (fb 26 63) HT_ ?_; refine tk 6 28 (fb 26 127) HT_ HW_ hHeld ?_; refine pu 7 29 (fb 26 255) HT_ ?_; refine pu 8 30 (fb 26 511) HT_ ?_; refine pu 9 31 (fb 26 1023) HT_ ?_; refine pu 10 32 (fb 26 2047) HT_ ?_; refine pu 11 33 (fb 26 4095) HT_ ?_; refine pu 12 34 (fb 26 8191) HT_ ?_; refine pu 13 35 (fb 26 16383) HT_ ?_; refine pn 14 36 (fb 26 32767) HT_ ?_; refine pn 15 37 (fb 26 65535) HT_ ?_; refine pn 16 38 (fb 26 131071) HT_ ?_; refine pn 17 39 (fb 26 262143) HT_ ?_; refine pn 18 40 (fb 26 524287) HT_ ?_; refine pn 19 41 (fb 26 1048575) HT_ ?_; refine pn 20 42 (fb 26 2097151) HT_ ?_; refine pn 21 43 (fb 26 4194303) HT_ ?_; refine pn 22 44 (fb 26 8388607) HT_ ?_; refine pn 23 45 (fb 26 16777215) HT_ ?_; refine pu 24 46 (fb 26 33554431) HT_ ?_; refine pu 25 47 (fb 26 67108863) HT_ ?_; refine done_ (done_of HT_.out (by kernel_rfl)) ?_
          try go_wp2
          go_meet
          case rel => exact ⟨_, (false), Ye1, H', ⟨by have := HK1.out; first | omega | exact Nat.le_refl _⟩, ⟨bk qd.out⟩, ⟨bk qc.out⟩, ⟨be2 HB.out qg.out qi.out⟩⟩
       ·replace c15 := Bool.eq_false_iff.mpr c15; subst c15
        have H1 : (spec_ValidTree.j1 k1 qb true qa ((rd_T45 qa qb).f0) ((rd_T45 qa qb).f1) ((rd_T45 qa qb).f2)) = some r := by rw [if_neg (show ¬ (false = true) by decide)] at H; exact H
        clear H; have H := H1; clear H1; have H' := Aside0.mk H; clear H
        try go_wp2
        have n0_ : Aside0 ((((w11.setCell ⟨qe, 0, none⟩ (.string ((rd_T45 qa qb).f0))).setCell ⟨qe, 1, none⟩ (.string ((rd_T45 qa qb).f1))).setCell ⟨qe, 2, none⟩ (.bool ((rd_T45 qa qb).f2))).heap[gb122]? = some (.cells #[.slice (some ad123) qa.length c0_0] 29 (0, 0))) := ⟨bkf qd.out qj.out⟩
        have n1_ : Aside0 ((((w11.setCell ⟨qe, 0, none⟩ (.string ((rd_T45 qa qb).f0))).setCell ⟨qe, 1, none⟩ (.string ((rd_T45 qa qb).f1))).setCell ⟨qe, 2, none⟩ (.bool ((rd_T45 qa qb).f2))).heap[qe]? = some (.cells #[.string ((rd_T45 qa qb).f0), .string ((rd_T45 qa qb).f1), .bool ((rd_T45 qa qb).f2)] 45 (0, 0))) := ⟨by (with_reducible repeat (first | apply blk_drewN | apply blk_drew | apply blk_alloc)); refine blk_put (cs := #[.string ((rd_T45 qa qb).f0), .string ((rd_T45 qa qb).f1), .bool false]) ?_ 2 _ rfl; (with_reducible repeat (first | apply blk_drewN | apply blk_drew | apply blk_alloc)); refine blk_put (cs := #[.string ((rd_T45 qa qb).f0), .string (⟨#[]⟩ : ByteArray), .bool false]) ?_ 1 _ rfl; (with_reducible repeat (first | apply blk_drewN | apply blk_drew | apply blk_alloc)); refine blk_put (cs := #[.string (⟨#[]⟩ : ByteArray), .string (⟨#[]⟩ : ByteArray), .bool false]) ?_ 0 _ rfl; (with_reducible repeat (first | apply blk_drewN | apply blk_drew | apply blk_alloc)); exact qc.out⟩
        have n2_ : Aside0 (Below w.heap.size w (((w11.setCell ⟨qe, 0, none⟩ (.string ((rd_T45 qa qb).f0))).setCell ⟨qe, 1, none⟩ (.string ((rd_T45 qa qb).f1))).setCell ⟨qe, 2, none⟩ (.bool ((rd_T45 qa qb).f2)))) := ⟨be2 HB.out qg.out qi.out⟩
        (try clear qd); (try clear qc); (try clear HB); generalize (((w11.setCell ⟨qe, 0, none⟩ (.string ((rd_T45 qa qb).f0))).setCell ⟨qe, 1, none⟩ (.string ((rd_T45 qa qb).f1))).setCell ⟨qe, 2, none⟩ (.bool ((rd_T45 qa qb).f2))) = w30 at n0_ n1_ n2_ ⊢; have qd := n0_; have qc := n1_; have HB := n2_; clear n0_ n1_ n2_; refine Ya3 (blk_drew qd.out) (blk_drew qc.out) (below_drew1 HB.out) ?_; clear qd qc HB; intro qd qc HB; refine start_ (n := 26) (S := fun w' => w'.cell? ⟨qe, 0, none⟩ = some (.string ((rd_T45 qa qb).f0)) ∧ w'.cell? ⟨qe, 1, none⟩ = some (.string ((rd_T45 qa qb).f1)) ∧ w'.cell? ⟨qe, 2, none⟩ = some (.bool ((rd_T45 qa qb).f2))) (ds := []) (fb 26 0) (by kernel_rfl) rfl rfl ⟨(blk_cell qc.out 0).trans rfl, (blk_cell qc.out 1).trans rfl, (blk_cell qc.out 2).trans rfl⟩ (fun hHeld => ?_); refine with_tabW spec_ValidTree.tab7 spec_ValidTree.bits7 (fun HT_ HW_ => ?_); generalize w30.drew = w31 at qd qc HB hHeld ⊢; refine pu 0 22 (fb 26 1) HT_ ?_; refine tk 1 23 (fb 26 3) HT_ HW_ hHeld ?_; refine one_ (i := 2) (N := some 24) (fb 26 7) rfl rfl (one_of HT_.out (by kernel_rfl)) (by decide) (fun K hK => ?_); refine gs _ (#[.string ((rd_T45 qa qb).f0)]) Tryd.func48 ?_; (with_reducible refine (spec_ValidPath.calls k1 ((rd_T45 qa qb).f0) false _ A14.out).mono ?_); rintro e w32 ⟨rfl, hb⟩; refine ⟨_, rfl, ?_⟩; refine Ya3 (bb qd hb) (bb qc hb) (below_step (be2 HB.out qg.out qi.out) hb) ?_; clear qd qc HB; intro qd qc HB; (try clear hb); (try clear hb2); (try clear hk); (try clear hi); refine hK.out _ _ ⟨(blk_cell qc.out 0).trans rfl, (blk_cell qc.out 1).trans rfl, (blk_cell qc.out 2).trans rfl⟩ (fun hHeld => ?_); clear hK K; refine norm_ (a' := ?_) ?_ ?_; rotate_left
        ·show Act.put _ (some 24) _ = _
         simp only [Act.put, List.setIfInBounds_toArray, List.set_cons_zero, List.set_cons_succ, i64_w, i32_w]; rfl
        refine pu 3 25 (fb 26 15) HT_ ?_; refine pu 4 26 (fb 26 31) HT_ ?_; refine pn 5 27 (fb 26 63) HT_ ?_; refine pn 6 28 (fb 26 127) HT_ ?_; refine pn 7 29 (fb 26 255) HT_ ?_; refine pn 8 30 (fb 26 511) HT_ ?_; refine pu 9 31 (fb 26 1023) HT_ ?_; refine pu 10 32 (fb 26 2047) HT_ ?_; refine pn 11 33 (fb 26 4095) HT_ ?_; refine pn 12 34 (fb 26 8191) HT_ ?_; refine pn 13 35 (fb 26 16383) HT_ ?_; refine pn 14 36 (fb 26 32767) HT_ ?_; refine pn 15 37 (fb 26 65535) HT_ ?_; refine pn 16 38 (fb 26 131071) HT_ ?_; refine pn 17 39 (fb 26 262143) HT_ ?_; refine pn 18 40 (fb 26 524287) HT_ ?_; refine pn 19 41 (fb 26 1048575) HT_ ?_; refine pn 20 42 (fb 26 2097151) HT_ ?_; refine pn 21 43 (fb 26 4194303) HT_ ?_; refine pn 22 44 (fb 26 8388607) HT_ ?_; refine pn 23 45 (fb 26 16777215) HT_ ?_; refine pn 24 46 (fb 26 33554431) HT_ ?_; refine pu 25 47 (fb 26 67108863) HT_ ?_; refine done_ (done_of HT_.out (by kernel_rfl)) ?_
        try go_wp2
        go_meet
        case rel => exact ⟨_, (true), Ye1, H', ⟨by have := HK1.out; first | omega | exact Nat.le_refl _⟩, ⟨bk qd.out⟩, ⟨bk qc.out⟩, ⟨be2 HB.out qg.out qi.out⟩⟩
      case rest =>
       clear HC9; (try clear c1); (try clear c2); (try clear p2); (try clear c4); (try clear c15); (try clear c20); (try clear c20b0); (try clear c22); (try clear c23); obtain ⟨kq, x47_8, rfl, HA, HJ8, qd, qc, HB⟩ := hcut
       cases kq with
       | zero => exact absurd HA.out (by simp [spec_ValidTree.j1])
       | succ kj8 =>
        have H := HA.out; clear HA; simp only [spec_ValidTree.j1] at H
        by_cases c33 : x47_8 = true
        ·subst c33
         have H1 : (some false) = some r := by rw [if_pos rfl] at H; exact H
         clear H; have H := H1; clear H1; obtain rfl := Option.some.inj H
         go_wp2
         go_ret
         exact ⟨Ye2, (by first | exact be2 HB.out qg.out qi.out | exact be1 HB.out qg.out | exact be HB.out)⟩
        ·replace c33 := Bool.eq_false_iff.mpr c33; subst c33
         have H1 : (spec_ValidTree.l1 kj8 qb 0 qa ((rd_T45 qa qb).f0) ((rd_T45 qa qb).f1) ((rd_T45 qa qb).f2)) = some r := by rw [if_neg (show ¬ (false = true) by decide)] at H; exact H
         clear H; have H := H1; clear H1; have H' := Aside0.mk H; clear H
         go_wp2
         go_loopg [5] kj8 (fun kq v5 w' => ∃ (qf : Int), v5 = .int .i64 qf ∧ Aside0 (spec_ValidTree.l1 kq qb qf qa ((rd_T45 qa qb).f0) ((rd_T45 qa qb).f1) ((rd_T45 qa qb).f2) = some r) ∧ Aside0 (kq ≤ kj8) ∧ Aside0 (w'.heap[gb122]? = some (.cells #[(.slice (some ad123) qa.length c0_0)] 29 (0, 0))) ∧ Aside0 (w'.heap[qe]? = some (.cells #[.string ((rd_T45 qa qb).f0), .string ((rd_T45 qa qb).f1), .bool ((rd_T45 qa qb).f2)] 45 (0, 0))) ∧ Aside0 (Below w.heap.size w w'))
         case atStart => exact ⟨(0), Ye1, H', ⟨Nat.le_refl _⟩, ⟨bk qd.out⟩, ⟨bk qc.out⟩, ⟨be2 HB.out qg.out qi.out⟩⟩
         case round =>
          clear H'; (try clear c1); (try clear c2); (try clear p2); (try clear c3); (try clear c4); (try clear c15); (try clear c20); (try clear c20b0); (try clear c22); (try clear c23); (try clear c33); (try clear p2); obtain ⟨qf, rfl, HA, HK3, qd, qc, HB⟩ := hrel
          cases gk with
          | zero => exact absurd HA.out (by simp [spec_ValidTree.l1])
          | succ k3 =>
           have H := HA.out; clear HA; simp only [spec_ValidTree.l1] at H
           by_cases c34 : qf < qb
           ·rw [if_pos c34] at H
            have c34b0 : decide (qf < qb) = true := decide_eq_true c34; clear c34
            by_cases c35 : 0 ≤ qf
            ·rw [if_pos c35] at H
             have c35b0 : decide (0 ≤ qf) = true := decide_eq_true c35; clear c35
             by_cases c36 : qf < (qa.length : Int)
             ·rw [if_pos c36] at H
              have c36b0 : decide (qf < (qa.length : Int)) = true := decide_eq_true c36; clear c36; replace H := Option.bind_eq_some_iff.mp H; obtain ⟨t128, A370, H⟩ := H; replace H : (if t128 = true then (some false) else (spec_ValidTree.l1 k3 qb (wrap64 (qf + 1)) qa ((rd_T45 qa qb).f0) ((rd_T45 qa qb).f1) ((rd_T45 qa qb).f2))) = some r := H; have A37 := Aside0.mk A370; clear A370
              by_cases c38 : t128 = true
              ·subst c38
               have H1 : (some false) = some r := by rw [if_pos rfl] at H; exact H
               clear H; have H := H1; clear H1; obtain rfl := Option.some.inj H
               try go_wp2
               refine Ya3 (blk_drew qd.out) (blk_drew qc.out) (below_drew1 HB.out) ?_; clear qd qc HB; intro qd qc HB; have p127 : 0 ≤ (qf : Int) := oda; have q127 : qf < (qa.length : Int) := oda; obtain ⟨ad127, e127, hx127_0, hx127_1, hx127_2⟩ := at_T45 HR0_0.out qf p127 q127; have hw127_2 := hx127_2; have hw127_1 := hx127_1; have hw127_0 := hx127_0
               obtain rfl : ad123 = ad127 := (by injection e127)
               replace hx127_0 := pw_cell_below HB.out hx127_0; replace hx127_1 := pw_cell_below HB.out hx127_1; replace hx127_2 := pw_cell_below HB.out hx127_2; replace p127 := eq_true p127; replace q127 := eq_true q127; refine start_ (n := 9) (S := fun w' => w'.cell? ⟨gb122, 0, none⟩ = some (.slice (some ad123) qa.length c0_0) ∧ w'.cell? ⟨qe, 0, none⟩ = some (.string ((rd_T45 qa qb).f0)) ∧ w'.cell? ⟨qe, 1, none⟩ = some (.string ((rd_T45 qa qb).f1)) ∧ w'.cell? ⟨qe, 2, none⟩ = some (.bool ((rd_T45 qa qb).f2)) ∧ w'.cell? (ad123.add ((qf).toNat * 3)) = some (.string ((rd_T45 qa qf).f0)) ∧ w'.cell? ⟨(ad123.add ((qf).toNat * 3)).block, (ad123.add ((qf).toNat * 3)).off + 1, none⟩ = some (.string ((rd_T45 qa qf).f1)) ∧ w'.cell? ⟨(ad123.add ((qf).toNat * 3)).block, (ad123.add ((qf).toNat * 3)).off + 2, none⟩ = some (.bool ((rd_T45 qa qf).f2))) (ds := []) (fb 9 0) (by kernel_rfl) rfl rfl ⟨(blk_cell qd.out 0).trans rfl, (blk_cell qc.out 0).trans rfl, (blk_cell qc.out 1).trans rfl, (blk_cell qc.out 2).trans rfl, (pw_cell_below HB.out hw127_0), (pw_cell_below HB.out hw127_1), (pw_cell_below HB.out hw127_2)⟩ (fun hHeld => ?_); refine with_tabW spec_ValidTree.tab12 spec_ValidTree.bits12 (fun HT_ HW_ => ?_); generalize wr.drew = w39 at qd qc HB hx127_0 hx127_1 hx127_2 hHeld ⊢; refine pu 0 53 (fb 9 1) HT_ ?_; refine pu 2 55 (fb 9 5) HT_ ?_; refine pu 6 59 (fb 9 69) HT_ ?_; refine tk 1 54 (fb 9 71) HT_ HW_ hHeld ?_; refine pu 3 56 (fb 9 79) HT_ ?_; refine pu 4 57 (fb 9 95) HT_ ?_; refine tk 5 58 (fb 9 127) HT_ HW_ hHeld ?_; refine tk 7 60 (fb 9 255) HT_ HW_ hHeld ?_; refine one_ (i := 8) (N := some 61) (fb 9 511) rfl rfl (one_of HT_.out (by kernel_rfl)) (by decide) (fun K hK => ?_); refine gs _ (#[.string ((rd_T45 qa qf).f0), .string ((rd_T45 qa qb).f0)]) Tryd.func49 ?_; (with_reducible refine (spec_l5Begins.calls ((rd_T45 qa qf).f0) ((rd_T45 qa qb).f0) true _ A37.out).mono ?_); rintro e w' ⟨rfl, ⟨nd, rfl⟩⟩; refine ⟨_, rfl, ?_⟩; refine hK.out _ _ ⟨(blk_cell qd.out 0).trans rfl, (blk_cell qc.out 0).trans rfl, (blk_cell qc.out 1).trans rfl, (blk_cell qc.out 2).trans rfl, (pw_cell_below HB.out hw127_0), (pw_cell_below HB.out hw127_1), (pw_cell_below HB.out hw127_2)⟩ (fun hHeld => ?_); clear hK K; refine norm_ (a' := ?_) ?_ ?_; rotate_left
               ·show Act.put _ (some 61) _ = _
                simp only [Act.put, List.setIfInBounds_toArray, List.set_cons_zero, List.set_cons_succ, i64_w, i32_w]; rfl
               refine done_ (done_of HT_.out (by kernel_rfl)) ?_
               try go_wp2
               go_ret
               exact ⟨Ye2, (by first | exact be2 HB.out qg.out qi.out | exact be1 HB.out qg.out | exact be HB.out)⟩
              ·replace c38 := Bool.eq_false_iff.mpr c38; subst c38
               have H1 : (spec_ValidTree.l1 k3 qb (wrap64 (qf + 1)) qa ((rd_T45 qa qb).f0) ((rd_T45 qa qb).f1) ((rd_T45 qa qb).f2)) = some r := by rw [if_neg (show ¬ (false = true) by decide)] at H; exact H
               clear H; have H := H1; clear H1; have H' := Aside0.mk H; clear H
               try go_wp2
               refine Ya3 (blk_drew qd.out) (blk_drew qc.out) (below_drew1 HB.out) ?_; clear qd qc HB; intro qd qc HB; have p127 : 0 ≤ (qf : Int) := oda; have q127 : qf < (qa.length : Int) := oda; obtain ⟨ad127, e127, hx127_0, hx127_1, hx127_2⟩ := at_T45 HR0_0.out qf p127 q127; have hw127_2 := hx127_2; have hw127_1 := hx127_1; have hw127_0 := hx127_0
               obtain rfl : ad123 = ad127 := (by injection e127)
               replace hx127_0 := pw_cell_below HB.out hx127_0; replace hx127_1 := pw_cell_below HB.out hx127_1; replace hx127_2 := pw_cell_below HB.out hx127_2; replace p127 := eq_true p127; replace q127 := eq_true q127; refine start_ (n := 9) (S := fun w' => w'.cell? ⟨gb122, 0, none⟩ = some (.slice (some ad123) qa.length c0_0) ∧ w'.cell? ⟨qe, 0, none⟩ = some (.string ((rd_T45 qa qb).f0)) ∧ w'.cell? ⟨qe, 1, none⟩ = some (.string ((rd_T45 qa qb).f1)) ∧ w'.cell? ⟨qe, 2, none⟩ = some (.bool ((rd_T45 qa qb).f2)) ∧ w'.cell? (ad123.add ((qf).toNat * 3)) = some (.string ((rd_T45 qa qf).f0)) ∧ w'.cell? ⟨(ad123.add ((qf).toNat * 3)).block, (ad123.add ((qf).toNat * 3)).off + 1, none⟩ = some (.string ((rd_T45 qa qf).f1)) ∧ w'.cell? ⟨(ad123.add ((qf).toNat * 3)).block, (ad123.add ((qf).toNat * 3)).off + 2, none⟩ = some (.bool ((rd_T45 qa qf).f2))) (ds := []) (fb 9 0) (by kernel_rfl) rfl rfl ⟨(blk_cell qd.out 0).trans rfl, (blk_cell qc.out 0).trans rfl, (blk_cell qc.out 1).trans rfl, (blk_cell qc.out 2).trans rfl, (pw_cell_below HB.out hw127_0), (pw_cell_below HB.out hw127_1), (pw_cell_below HB.out hw127_2)⟩ (fun hHeld => ?_); refine with_tabW spec_ValidTree.tab12 spec_ValidTree.bits12 (fun HT_ HW_ => ?_); generalize wr.drew = w40 at qd qc HB hx127_0 hx127_1 hx127_2 hHeld ⊢; refine pu 0 53 (fb 9 1) HT_ ?_; refine pu 2 55 (fb 9 5) HT_ ?_; refine pu 6 59 (fb 9 69) HT_ ?_; refine tk 1 54 (fb 9 71) HT_ HW_ hHeld ?_; refine pu 3 56 (fb 9 79) HT_ ?_; refine pu 4 57 (fb 9 95) HT_ ?_; refine tk 5 58 (fb 9 127) HT_ HW_ hHeld ?_; refine tk 7 60 (fb 9 255) HT_ HW_ hHeld ?_; refine one_ (i := 8) (N := some 61) (fb 9 511) rfl rfl (one_of HT_.out (by kernel_rfl)) (by decide) (fun K hK => ?_); refine gs _ (#[.string ((rd_T45 qa qf).f0), .string ((rd_T45 qa qb).f0)]) Tryd.func49 ?_; (with_reducible refine (spec_l5Begins.calls ((rd_T45 qa qf).f0) ((rd_T45 qa qb).f0) false _ A37.out).mono ?_); rintro e w' ⟨rfl, ⟨nd, rfl⟩⟩; refine ⟨_, rfl, ?_⟩; refine hK.out _ _ ⟨(blk_cell qd.out 0).trans rfl, (blk_cell qc.out 0).trans rfl, (blk_cell qc.out 1).trans rfl, (blk_cell qc.out 2).trans rfl, (pw_cell_below HB.out hw127_0), (pw_cell_below HB.out hw127_1), (pw_cell_below HB.out hw127_2)⟩ (fun hHeld => ?_); clear hK K; refine norm_ (a' := ?_) ?_ ?_; rotate_left
               ·show Act.put _ (some 61) _ = _
                simp only [Act.put, List.setIfInBounds_toArray, List.set_cons_zero, List.set_cons_succ, i64_w, i32_w]; rfl
               refine done_ (done_of HT_.out (by kernel_rfl)) ?_
               try go_wp2
               go_roundg k3
               case measure => have := HK1.out; have := HJ8.out; have := HK3.out; omega
               case rel => exact ⟨(wrap64 (qf + 1)), Ye1, H', ⟨by have := HK1.out; have := HJ8.out; have := HK3.out; omega⟩, ⟨bk qd.out⟩, ⟨bk qc.out⟩, ⟨be2 HB.out qg.out qi.out⟩⟩
             ·rw [if_neg c36] at H
              exact absurd H (by simp)
            ·rw [if_neg c35] at H
             exact absurd H (by simp)
           ·rw [if_neg c34] at H
            have c34b0 : decide (qf < qb) = false := decide_eq_false c34; clear c34; have H' := Aside0.mk H; clear H
            go_wp2
            go_roundg k3
            case measure => have := HK1.out; have := HJ8.out; have := HK3.out; omega
            case rel => exact ⟨(wrap64 (qb + 1)), Ye1, H', ⟨by have := HK1.out; have := HJ8.out; have := HK3.out; omega⟩, ⟨bk qd.out⟩, ⟨be2 HB.out qg.out qi.out⟩⟩
     ·rw [if_neg c8] at H
      exact absurd H (by simp)
    ·rw [if_neg c7] at H
     have c7b0 : decide (qb < (qa.length : Int)) = false := decide_eq_false c7; clear c7; obtain rfl := Option.some.inj H; have ⟨hcz41_0, hfz41_0⟩ := Yc1 qd.out
     go_wp2
     go_ret
     exact ⟨Ye2, (by first | exact be1 HB.out qg.out | exact be HB.out)⟩

end Go.Proofs.YtkdghhkpmkfjhaaDoor.P


namespace Go.Proofs.YtkdghhkpmkfjhaaDoor.P
open Go.RowKit Go.Proofs.YtkdghhkpmkfjhaaDoorW.PrintWords Go.Proofs.YtkdghhkpmkfjhaaDoorW.PrintLast Go.Proofs.YtkdghhkpmkfjhaaDoorW.PrintMore
attribute [local go_sem] max2_int min2_int max_two min_two max_three min_three max_four min_four
set_option linter.unusedVariables false
set_option linter.unusedSimpArgs false

/-! ### spec_Mount: function 45 -/
mutual
def spec_Mount.j0 : Nat → ByteArray → Bool → List (S45) → List (S45) → Option ((List (S45)) × Int)
 | 0, _, _, _, _ => none
 | k + 1, x1, x26, x707000, x708000 => if x26 = true then (some (([] : List (S45)), 1)) else (spec_Mount.l0 k x1 0 x707000 x708000)
def spec_Mount.l0 : Nat → ByteArray → Int → List (S45) → List (S45) → Option ((List (S45)) × Int)
 | 0, _, _, _, _ => none
 | k + 1, x1, x8, x707000, x708000 => if x8 < (x708000.length : Int) then (if x1.size + 1 ≤ 9223372036854775807 then (if 0 ≤ x8 then (if (x1 ++ (⟨#[47]⟩ : ByteArray)).size + ((rd_T45 x708000 x8).f0).size ≤ 9223372036854775807 then ((spec_ValidPath.f k ((x1 ++ (⟨#[47]⟩ : ByteArray)) ++ ((rd_T45 x708000 x8).f0))).bind fun t713 => (if t713 = true then (spec_Mount.l0 k x1 (wrap64 (x8 + 1)) x707000 x708000) else (some (([] : List (S45)), 2)))) else (none)) else (none)) else (none)) else (spec_Mount.l1 k x1 0 x707000 x708000 ([] : List (S45)))
def spec_Mount.l1 : Nat → ByteArray → Int → List (S45) → List (S45) → List (S45) → Option ((List (S45)) × Int)
 | 0, _, _, _, _, _ => none
 | k + 1, x1, x10, x707000, x708000, x715000 => if x10 < (x707000.length : Int) then (if 0 ≤ x10 then (if ((rd_T45 x707000 x10).f0).toList = x1.toList then (spec_Mount.j3 k x1 x10 ((rd_T45 x707000 x10).f0) true x707000 x708000 x715000) else ((spec_l5Begins.f ((rd_T45 x707000 x10).f0) x1).bind fun t716 => (spec_Mount.j3 k x1 x10 ((rd_T45 x707000 x10).f0) t716 x707000 x708000 x715000))) else (none)) else (spec_Mount.l2 k x1 0 x708000 x715000)
def spec_Mount.j3 : Nat → ByteArray → Int → ByteArray → Bool → List (S45) → List (S45) → List (S45) → Option ((List (S45)) × Int)
 | 0, _, _, _, _, _, _, _ => none
 | k + 1, x1, x10, x11, x68, x707000, x708000, x715000 => if x68 = true then (some (([] : List (S45)), 3)) else ((spec_l5Begins.f x1 x11).bind fun t717 => (if t717 = true then (spec_Mount.l1 k x1 (wrap64 (x10 + 1)) x707000 x708000 x715000) else (if 0 ≤ x10 then (if x10 < (x707000.length : Int) then (if x715000.length < 3518437208883 then (spec_Mount.l1 k x1 (wrap64 (x10 + 1)) x707000 x708000 (x715000 ++ [(⟨(rd_T45 x707000 x10).f0, (rd_T45 x707000 x10).f1, (rd_T45 x707000 x10).f2⟩ : S45)])) else (none)) else (none)) else (none))))
def spec_Mount.l2 : Nat → ByteArray → Int → List (S45) → List (S45) → Option ((List (S45)) × Int)
 | 0, _, _, _, _ => none
 | k + 1, x1, x12, x708000, x715000 => if x12 < (x708000.length : Int) then (if 0 ≤ x12 then (if x1.size + 1 ≤ 9223372036854775807 then (if (x1 ++ (⟨#[47]⟩ : ByteArray)).size + ((rd_T45 x708000 x12).f0).size ≤ 9223372036854775807 then ((spec_l5Set.f k x715000 ((x1 ++ (⟨#[47]⟩ : ByteArray)) ++ ((rd_T45 x708000 x12).f0)) ((rd_T45 x708000 x12).f1) ((rd_T45 x708000 x12).f2)).bind fun t724 => (spec_Mount.l2 k x1 (wrap64 (x12 + 1)) x708000 t724)) else (none)) else (none)) else (none)) else (if (x715000.length : Int) > 100 then (some (([] : List (S45)), 4)) else (some (x715000, 0)))
end
def spec_Mount.f (k : Nat) (qb : List (S45)) (a1 : ByteArray) (qa : List (S45)) : Option ((List (S45)) × Int) := (spec_ValidTree.f k qb).bind fun t709 => (if t709 = true then ((spec_ValidTree.f k qa).bind fun t710 => (if t710 = true then ((spec_ValidPath.f k a1).bind fun t711 => (spec_Mount.j0 k a1 (!t711) qb qa)) else (spec_Mount.j0 k a1 true qb qa))) else (spec_Mount.j0 k a1 true qb qa))
theorem spec_Mount.mono_l : ∀ k, (∀ y0 y1 y2 y3, LeO (spec_Mount.j0 k y0 y1 y2 y3) (spec_Mount.j0 (k + 1) y0 y1 y2 y3)) ∧ (∀ y0 y1 y2 y3, LeO (spec_Mount.l0 k y0 y1 y2 y3) (spec_Mount.l0 (k + 1) y0 y1 y2 y3)) ∧ (∀ y0 y1 y2 y3 y4, LeO (spec_Mount.l1 k y0 y1 y2 y3 y4) (spec_Mount.l1 (k + 1) y0 y1 y2 y3 y4)) ∧ (∀ y0 y1 y2 y3 y4 y5 y6, LeO (spec_Mount.j3 k y0 y1 y2 y3 y4 y5 y6) (spec_Mount.j3 (k + 1) y0 y1 y2 y3 y4 y5 y6)) ∧ (∀ y0 y1 y2 y3, LeO (spec_Mount.l2 k y0 y1 y2 y3) (spec_Mount.l2 (k + 1) y0 y1 y2 y3))
 | 0 => ⟨fun _ _ _ _ r h => by simp [spec_Mount.j0] at h, fun _ _ _ _ r h => by simp [spec_Mount.l0] at h, fun _ _ _ _ _ r h => by simp [spec_Mount.l1] at h, fun _ _ _ _ _ _ _ r h => by simp [spec_Mount.j3] at h, fun _ _ _ _ r h => by simp [spec_Mount.l2] at h⟩
 | k + 1 => by
  obtain ⟨ih0, ih1, ih2, ih3, ih4⟩ := spec_Mount.mono_l k; refine ⟨?_, ?_, ?_, ?_, ?_⟩
  ·intro y0 y1 y2 y3
   unfold spec_Mount.j0
   repeat' first
   | (with_reducible exact ih0 _ _ _ _)
   | (with_reducible exact ih1 _ _ _ _)
   | (with_reducible exact ih2 _ _ _ _ _)
   | (with_reducible exact ih3 _ _ _ _ _ _ _)
   | (with_reducible exact ih4 _ _ _ _)
   | (with_reducible exact spec_ValidPath.mono _ _)
   | (with_reducible exact spec_ValidTree.mono _ _)
   | (with_reducible exact spec_l5Set.mono _ _ _ _ _)
   | (with_reducible exact LeO.refl _)
   | (with_reducible exact LeO.none _)
   | (with_reducible refine LeO.ite ?_ ?_)
   | (with_reducible refine LeO.bind ?_ (fun _ => ?_))
   | exact ih0 _ _ _ _
   | exact ih1 _ _ _ _
   | exact ih2 _ _ _ _ _
   | exact ih3 _ _ _ _ _ _ _
   | exact ih4 _ _ _ _
   | exact spec_ValidPath.mono _ _
   | exact spec_ValidTree.mono _ _
   | exact spec_l5Set.mono _ _ _ _ _
   | exact LeO.none _
   | refine LeO.ite ?_ ?_
   | refine LeO.bind ?_ (fun _ => ?_)
  ·intro y0 y1 y2 y3
   unfold spec_Mount.l0
   repeat' first
   | (with_reducible exact ih0 _ _ _ _)
   | (with_reducible exact ih1 _ _ _ _)
   | (with_reducible exact ih2 _ _ _ _ _)
   | (with_reducible exact ih3 _ _ _ _ _ _ _)
   | (with_reducible exact ih4 _ _ _ _)
   | (with_reducible exact spec_ValidPath.mono _ _)
   | (with_reducible exact spec_ValidTree.mono _ _)
   | (with_reducible exact spec_l5Set.mono _ _ _ _ _)
   | (with_reducible exact LeO.refl _)
   | (with_reducible exact LeO.none _)
   | (with_reducible refine LeO.ite ?_ ?_)
   | (with_reducible refine LeO.bind ?_ (fun _ => ?_))
   | exact ih0 _ _ _ _
   | exact ih1 _ _ _ _
   | exact ih2 _ _ _ _ _
   | exact ih3 _ _ _ _ _ _ _
   | exact ih4 _ _ _ _
   | exact spec_ValidPath.mono _ _
   | exact spec_ValidTree.mono _ _
   | exact spec_l5Set.mono _ _ _ _ _
   | exact LeO.none _
   | refine LeO.ite ?_ ?_
   | refine LeO.bind ?_ (fun _ => ?_)
  ·intro y0 y1 y2 y3 y4
   unfold spec_Mount.l1
   repeat' first
   | (with_reducible exact ih0 _ _ _ _)
   | (with_reducible exact ih1 _ _ _ _)
   | (with_reducible exact ih2 _ _ _ _ _)
   | (with_reducible exact ih3 _ _ _ _ _ _ _)
   | (with_reducible exact ih4 _ _ _ _)
   | (with_reducible exact spec_ValidPath.mono _ _)
   | (with_reducible exact spec_ValidTree.mono _ _)
   | (with_reducible exact spec_l5Set.mono _ _ _ _ _)
   | (with_reducible exact LeO.refl _)
   | (with_reducible exact LeO.none _)
   | (with_reducible refine LeO.ite ?_ ?_)
   | (with_reducible refine LeO.bind ?_ (fun _ => ?_))
   | exact ih0 _ _ _ _
   | exact ih1 _ _ _ _
   | exact ih2 _ _ _ _ _
   | exact ih3 _ _ _ _ _ _ _
   | exact ih4 _ _ _ _
   | exact spec_ValidPath.mono _ _
   | exact spec_ValidTree.mono _ _
   | exact spec_l5Set.mono _ _ _ _ _
   | exact LeO.none _
   | refine LeO.ite ?_ ?_
   | refine LeO.bind ?_ (fun _ => ?_)
  ·intro y0 y1 y2 y3 y4 y5 y6
   unfold spec_Mount.j3
   repeat' first
   | (with_reducible exact ih0 _ _ _ _)
   | (with_reducible exact ih1 _ _ _ _)
   | (with_reducible exact ih2 _ _ _ _ _)
   | (with_reducible exact ih3 _ _ _ _ _ _ _)
   | (with_reducible exact ih4 _ _ _ _)
   | (with_reducible exact spec_ValidPath.mono _ _)
   | (with_reducible exact spec_ValidTree.mono _ _)
   | (with_reducible exact spec_l5Set.mono _ _ _ _ _)
   | (with_reducible exact LeO.refl _)
   | (with_reducible exact LeO.none _)
   | (with_reducible refine LeO.ite ?_ ?_)
   | (with_reducible refine LeO.bind ?_ (fun _ => ?_))
   | exact ih0 _ _ _ _
   | exact ih1 _ _ _ _
   | exact ih2 _ _ _ _ _
   | exact ih3 _ _ _ _ _ _ _
   | exact ih4 _ _ _ _
   | exact spec_ValidPath.mono _ _
   | exact spec_ValidTree.mono _ _
   | exact spec_l5Set.mono _ _ _ _ _
   | exact LeO.none _
   | refine LeO.ite ?_ ?_
   | refine LeO.bind ?_ (fun _ => ?_)
  ·intro y0 y1 y2 y3
   unfold spec_Mount.l2
   repeat' first
   | (with_reducible exact ih0 _ _ _ _)
   | (with_reducible exact ih1 _ _ _ _)
   | (with_reducible exact ih2 _ _ _ _ _)
   | (with_reducible exact ih3 _ _ _ _ _ _ _)
   | (with_reducible exact ih4 _ _ _ _)
   | (with_reducible exact spec_ValidPath.mono _ _)
   | (with_reducible exact spec_ValidTree.mono _ _)
   | (with_reducible exact spec_l5Set.mono _ _ _ _ _)
   | (with_reducible exact LeO.refl _)
   | (with_reducible exact LeO.none _)
   | (with_reducible refine LeO.ite ?_ ?_)
   | (with_reducible refine LeO.bind ?_ (fun _ => ?_))
   | exact ih0 _ _ _ _
   | exact ih1 _ _ _ _
   | exact ih2 _ _ _ _ _
   | exact ih3 _ _ _ _ _ _ _
   | exact ih4 _ _ _ _
   | exact spec_ValidPath.mono _ _
   | exact spec_ValidTree.mono _ _
   | exact spec_l5Set.mono _ _ _ _ _
   | exact LeO.none _
   | refine LeO.ite ?_ ?_
   | refine LeO.bind ?_ (fun _ => ?_)
theorem spec_Mount.mono : ∀ a0 a1 a2 k, LeO (spec_Mount.f k a0 a1 a2) (spec_Mount.f (k + 1) a0 a1 a2) := by
 intro a0 a1 a2 k; obtain ⟨ih0, ih1, ih2, ih3, ih4⟩ := spec_Mount.mono_l k
 unfold spec_Mount.f
 repeat' first
   | (with_reducible exact ih0 _ _ _ _)
   | (with_reducible exact ih1 _ _ _ _)
   | (with_reducible exact ih2 _ _ _ _ _)
   | (with_reducible exact ih3 _ _ _ _ _ _ _)
   | (with_reducible exact ih4 _ _ _ _)
   | (with_reducible exact spec_ValidPath.mono _ _)
   | (with_reducible exact spec_ValidTree.mono _ _)
   | (with_reducible exact spec_l5Set.mono _ _ _ _ _)
   | (with_reducible exact LeO.refl _)
   | (with_reducible exact LeO.none _)
   | (with_reducible refine LeO.ite ?_ ?_)
   | (with_reducible refine LeO.bind ?_ (fun _ => ?_))
   | exact ih0 _ _ _ _
   | exact ih1 _ _ _ _
   | exact ih2 _ _ _ _ _
   | exact ih3 _ _ _ _ _ _ _
   | exact ih4 _ _ _ _
   | exact spec_ValidPath.mono _ _
   | exact spec_ValidTree.mono _ _
   | exact spec_l5Set.mono _ _ _ _ _
   | exact LeO.none _
   | refine LeO.ite ?_ ?_
   | refine LeO.bind ?_ (fun _ => ?_)
def spec_Mount.T16 : Bool × List (List Nat × List Nat) := (true, [([], []), ([0], [0]), ([], []), ([2], [2]), ([], []), ([3, 4], [3, 4]), ([5], [5]), ([6], [6]), ([1, 7], [1, 7]), ([0, 1, 2, 3, 4, 5, 6, 7, 8], []), ([9, 8, 8, 0, 1, 2, 3, 4, 5, 6, 7, 8], [8, 9])])
def spec_Mount.B16 : List Nat := [0, 1, 0, 4, 0, 28, 60, 124, 255, 511, 1023]
theorem spec_Mount.tab16 : rtab .any (opsOf Tryd.f45 16) = spec_Mount.T16 := by kernel_rfl
theorem spec_Mount.bits16 : waitsOk spec_Mount.T16.2 spec_Mount.B16 = true := by kernel_rfl
set_option maxHeartbeats 8000000 in
set_option maxRecDepth 100000 in
theorem spec_Mount.calls (k : Nat) (A0_0 : Option Addr) (c0_0 : Nat) (qb : List (S45)) (a1 : ByteArray) (A2_0 : Option Addr) (c2_0 : Nat) (qa : List (S45)) (r1 : List (S45)) (r2 : Int) (w : World) (hr0_0 : Kd.C k45 w A0_0 qb.length qb) (hc0_0 : qb.length ≤ c0_0) (hr2_0 : Kd.C k45 w A2_0 qa.length qa) (hc2_0 : qa.length ≤ c2_0) (h : spec_Mount.f k qb a1 qa = some (r1, r2)) :
  Calls Tryd.prog 45 #[.agg #[.slice A0_0 qb.length c0_0], .string a1, .agg #[.slice A2_0 qa.length c2_0]] w fun e w' => ∃ v0_ : Value, e = .returned (.tuple #[.agg #[v0_], .int .i64 r2]) ∧ Kd.R k45 45 w' w.heap.size (fun _ => True) v0_ r1 ∧ Below w.heap.size w w' := by
 have hu29 := Tryd.underlying29; have hu45 := Tryd.underlying45; have HR0_0 := Aside0.mk hr0_0; have HC0_0 := Aside0.mk hc0_0; clear hr0_0 hc0_0; have HR2_0 := Aside0.mk hr2_0; have HC2_0 := Aside0.mk hc2_0; clear hr2_0 hc2_0; have HB := Aside0.mk (Below.refl w.heap.size w); have H : ((spec_ValidTree.f k qb).bind fun t709 => (if t709 = true then ((spec_ValidTree.f k qa).bind fun t710 => (if t710 = true then ((spec_ValidPath.f k a1).bind fun t711 => (spec_Mount.j0 k a1 (!t711) qb qa)) else (spec_Mount.j0 k a1 true qb qa))) else (spec_Mount.j0 k a1 true qb qa))) = some (r1, r2) := h; clear h; have HC4 := Aside0.mk H; clear H
 go_enter Tryd.func45, Tryd.ntmps45
 go_upto_region 1 with (first | ((with_reducible refine gd 3 rfl ?_); refine bx 3 29 (#[.slice A0_0 qb.length c0_0]) ?_; intro gb706 hg w5 hbox hb; refine Ya4 (below_step (be HB.out) hb) (hbox) (bs hg (be HB.out)) (bs hg (be HB.out)) ?_; clear HB; intro HB qc GW706 qg; clear hb hbox hg) | ((with_reducible refine gd 5 rfl ?_); refine bx 5 29 (#[.slice A2_0 qa.length c2_0]) ?_; intro gb707 hg w6 hbox hb; refine Ya7 (bb qc hb) (below_step (be1 HB.out qg.out) hb) (hbox) (bs hg (be1 HB.out qg.out)) (bs hg (be1 HB.out qg.out)) (bl hg qc) (br hg qc) ?_; clear qc HB; intro qc HB qd GW707 qi qu qv; clear hb hbox hg) | ((with_reducible refine gd 6 rfl ?_); refine bx 6 29 (#[.slice none 0 0]) ?_; intro qt hg w7 hbox hb; have n0_ := Aside0.mk (bb qc hb); have n1_ := Aside0.mk (bb qd hb); have n2_ := Aside0.mk (below_step (be2 HB.out qg.out qi.out) hb); have n3_ := Aside0.mk (hbox); have n4_ := Aside0.mk (bs hg (be2 HB.out qg.out qi.out)); have n5_ := Aside0.mk (bs hg (be2 HB.out qg.out qi.out)); have n6_ := Aside0.mk (bl hg qc); have n7_ := Aside0.mk (br hg qc); have n8_ := Aside0.mk (bl hg qd); have n9_ := Aside0.mk (br hg qd); clear qc; clear qd; clear HB; have qc := n0_; have qd := n1_; have HB := n2_; have qf := n3_; have GW708 := n4_; have qk := n5_; have qw := n6_; have qx := n7_; have qy := n8_; have qz := n9_; clear n0_ n1_ n2_ n3_ n4_ n5_ n6_ n7_ n8_ n9_; clear hb hbox hg))
 (try simp only [Act.put, List.setIfInBounds_toArray, List.set_cons_zero, List.set_cons_succ])
 go_cut [26] (fun v26 wc => ∃ (kq : Nat) (x26_3 : Bool), v26 = .bool x26_3 ∧ Aside0 (spec_Mount.j0 kq a1 x26_3 qb qa = some (r1, r2)) ∧ Aside0 (kq ≤ k) ∧ Aside0 (wc.heap[gb706]? = some (.cells #[(.slice A0_0 qb.length c0_0)] 29 (0, 0))) ∧ Aside0 (wc.heap[gb707]? = some (.cells #[(.slice A2_0 qa.length c2_0)] 29 (0, 0))) ∧ Aside0 (wc.heap[qt]? = some (.cells #[(.slice none 0 0)] 29 (0, 0))) ∧ Aside0 (Below w.heap.size w wc))
 case first =>
  have H := HC4.out; clear HC4; replace H := Option.bind_eq_some_iff.mp H; obtain ⟨t709, A80, H⟩ := H; replace H : (if t709 = true then ((spec_ValidTree.f k qa).bind fun t710 => (if t710 = true then ((spec_ValidPath.f k a1).bind fun t711 => (spec_Mount.j0 k a1 (!t711) qb qa)) else (spec_Mount.j0 k a1 true qb qa))) else (spec_Mount.j0 k a1 true qb qa)) = some (r1, r2) := H; have A8 := Aside0.mk A80; clear A80
  by_cases c9 : t709 = true
  ·subst c9
   have H1 : ((spec_ValidTree.f k qa).bind fun t710 => (if t710 = true then ((spec_ValidPath.f k a1).bind fun t711 => (spec_Mount.j0 k a1 (!t711) qb qa)) else (spec_Mount.j0 k a1 true qb qa))) = some (r1, r2) := by rw [if_pos rfl] at H; exact H
   clear H; have H := H1; clear H1; replace H := Option.bind_eq_some_iff.mp H; obtain ⟨t710, A100, H⟩ := H; replace H : (if t710 = true then ((spec_ValidPath.f k a1).bind fun t711 => (spec_Mount.j0 k a1 (!t711) qb qa)) else (spec_Mount.j0 k a1 true qb qa)) = some (r1, r2) := H; have A10 := Aside0.mk A100; clear A100
   by_cases c11 : t710 = true
   ·subst c11
    have H1 : ((spec_ValidPath.f k a1).bind fun t711 => (spec_Mount.j0 k a1 (!t711) qb qa)) = some (r1, r2) := by rw [if_pos rfl] at H; exact H
    clear H; have H := H1; clear H1; replace H := Option.bind_eq_some_iff.mp H; obtain ⟨t711, A120, H⟩ := H; replace H : (spec_Mount.j0 k a1 (!t711) qb qa) = some (r1, r2) := H; have A12 := Aside0.mk A120; clear A120; have H' := Aside0.mk H; clear H; have hnb13 := qu.out; have hnc13 := qv.out; have hnb14 := qw.out; have hnc14 := qx.out; have ⟨hcz15_0, hfz15_0⟩ := Yc1 qc.out
    go_wp2_with (first | ((with_reducible refine gc 13 rfl ?_); refine gl (some 15) _ (#[.agg #[.slice A0_0 qb.length c0_0]]) Tryd.func13 ?_; (with_reducible refine (spec_ValidTree.calls k _ _ qb true _ ?side1 ?side2 A8.out).mono ?_); (case side1 => exact cb (Kd.C_below HR0_0.out HB.out)); (case side2 => exact HC0_0.out); rintro e w16 ⟨rfl, hb⟩; refine ⟨_, rfl, ?_⟩; refine Ya4 (bb qc hb) (bb qd hb) (bb qf hb) (below_step (be3 HB.out qg.out qi.out qk.out) hb) ?_; clear qc qd qf HB; intro qc qd qf HB; (try clear hb); (try clear hb2); (try clear hk); (try clear hi); have hnb17 := qy.out; have hnc17 := qz.out; have ⟨hcz18_0, hfz18_0⟩ := Yc1 qd.out) | (go_at_call 13; (with_reducible refine (spec_ValidTree.calls k _ _ qa true _ ?side1 ?side2 A10.out).mono ?_); (case side1 => exact cb (Kd.C_below HR2_0.out HB.out)); (case side2 => exact HC2_0.out); rintro e w19 ⟨rfl, hb⟩; refine Ya4 (bb qc hb) (bb qd hb) (bb qf hb) (below_step (be3 HB.out qg.out qi.out qk.out) hb) ?_; clear qc qd qf HB; intro qc qd qf HB; (try clear hb); (try clear hb2); (try clear hk); (try clear hi)) | (go_at_call 48; (with_reducible refine (spec_ValidPath.calls k a1 t711 _ A12.out).mono ?_); rintro e w20 ⟨rfl, hb⟩; refine Ya4 (bb qc hb) (bb qd hb) (bb qf hb) (below_step (be3 HB.out qg.out qi.out qk.out) hb) ?_; clear qc qd qf HB; intro qc qd qf HB; (try clear hb); (try clear hb2); (try clear hk); (try clear hi)))
    go_meet
    case rel => exact ⟨_, (!t711), Ye1, H', ⟨by first | omega | exact Nat.le_refl _⟩, ⟨bk qc.out⟩, ⟨bk qd.out⟩, ⟨bk qf.out⟩, ⟨be3 HB.out qg.out qi.out qk.out⟩⟩
   ·replace c11 := Bool.eq_false_iff.mpr c11; subst c11
    have H1 : (spec_Mount.j0 k a1 true qb qa) = some (r1, r2) := by rw [if_neg (show ¬ (false = true) by decide)] at H; exact H
    clear H; have H := H1; clear H1; have H' := Aside0.mk H; clear H; have hnb21 := qu.out; have hnc21 := qv.out; have hnb22 := qw.out; have hnc22 := qx.out; have ⟨hcz23_0, hfz23_0⟩ := Yc1 qc.out
    go_wp2_with (first | ((with_reducible refine gc 13 rfl ?_); refine gl (some 15) _ (#[.agg #[.slice A0_0 qb.length c0_0]]) Tryd.func13 ?_; (with_reducible refine (spec_ValidTree.calls k _ _ qb true _ ?side1 ?side2 A8.out).mono ?_); (case side1 => exact cb (Kd.C_below HR0_0.out HB.out)); (case side2 => exact HC0_0.out); rintro e w24 ⟨rfl, hb⟩; refine ⟨_, rfl, ?_⟩; refine Ya4 (bb qc hb) (bb qd hb) (bb qf hb) (below_step (be3 HB.out qg.out qi.out qk.out) hb) ?_; clear qc qd qf HB; intro qc qd qf HB; (try clear hb); (try clear hb2); (try clear hk); (try clear hi); have hnb25 := qy.out; have hnc25 := qz.out; have ⟨hcz26_0, hfz26_0⟩ := Yc1 qd.out) | (go_at_call 13; (with_reducible refine (spec_ValidTree.calls k _ _ qa false _ ?side1 ?side2 A10.out).mono ?_); (case side1 => exact cb (Kd.C_below HR2_0.out HB.out)); (case side2 => exact HC2_0.out); rintro e w27 ⟨rfl, hb⟩; refine Ya4 (bb qc hb) (bb qd hb) (bb qf hb) (below_step (be3 HB.out qg.out qi.out qk.out) hb) ?_; clear qc qd qf HB; intro qc qd qf HB; (try clear hb); (try clear hb2); (try clear hk); (try clear hi)))
    go_meet
    case rel => exact ⟨_, (true), Ye1, H', ⟨by first | omega | exact Nat.le_refl _⟩, ⟨bk qc.out⟩, ⟨bk qd.out⟩, ⟨bk qf.out⟩, ⟨be3 HB.out qg.out qi.out qk.out⟩⟩
  ·replace c9 := Bool.eq_false_iff.mpr c9; subst c9
   have H1 : (spec_Mount.j0 k a1 true qb qa) = some (r1, r2) := by rw [if_neg (show ¬ (false = true) by decide)] at H; exact H
   clear H; have H := H1; clear H1; have H' := Aside0.mk H; clear H; have hnb28 := qu.out; have hnc28 := qv.out; have hnb29 := qw.out; have hnc29 := qx.out; have ⟨hcz30_0, hfz30_0⟩ := Yc1 qc.out
   go_wp2_with (first | ((with_reducible refine gc 13 rfl ?_); refine gl (some 15) _ (#[.agg #[.slice A0_0 qb.length c0_0]]) Tryd.func13 ?_; (with_reducible refine (spec_ValidTree.calls k _ _ qb false _ ?side1 ?side2 A8.out).mono ?_); (case side1 => exact cb (Kd.C_below HR0_0.out HB.out)); (case side2 => exact HC0_0.out); rintro e w31 ⟨rfl, hb⟩; refine ⟨_, rfl, ?_⟩; refine Ya4 (bb qc hb) (bb qd hb) (bb qf hb) (below_step (be3 HB.out qg.out qi.out qk.out) hb) ?_; clear qc qd qf HB; intro qc qd qf HB; (try clear hb); (try clear hb2); (try clear hk); (try clear hi)))
   go_meet
   case rel => exact ⟨_, (true), Ye1, H', ⟨by first | omega | exact Nat.le_refl _⟩, ⟨bk qc.out⟩, ⟨bk qd.out⟩, ⟨bk qf.out⟩, ⟨be3 HB.out qg.out qi.out qk.out⟩⟩
 case rest =>
  clear HC4; (try clear c1); (try clear c2); (try clear p2); (try clear c4); (try clear c9); (try clear c11); (try clear c13); (try clear c14); (try clear c17); (try clear c21); (try clear c22); (try clear c25); (try clear c28); (try clear c29); (try clear hcz15_0); (try clear hcz18_0); (try clear hcz23_0); (try clear hcz26_0); (try clear hcz30_0); (try clear hfz15_0); (try clear hfz18_0); (try clear hfz23_0); (try clear hfz26_0); (try clear hfz30_0); obtain ⟨kq, x26_3, rfl, HA, HJ3, qc, qd, qf, HB⟩ := hcut
  cases kq with
  | zero => exact absurd HA.out (by simp [spec_Mount.j0])
  | succ kj3 =>
   have H := HA.out; clear HA; simp only [spec_Mount.j0] at H
   by_cases c32 : x26_3 = true
   ·subst c32
    have H1 : (some (([] : List (S45)), 1)) = some (r1, r2) := by rw [if_pos rfl] at H; exact H
    clear H; have H := H1; clear H1; simp only [Option.some.injEq, Prod.mk.injEq] at H; obtain ⟨rfl, rfl⟩ := H; have hnb33 := qx.out; have hnc33 := qw.out; have hnb34 := qz.out; have hnc34 := qy.out; have ⟨hcz35_0, hfz35_0⟩ := Yc1 qf.out
    go_wp2
    refine bodyPost_ret (results_ct rfl _ _ qt 29 #[.slice none 0 0] (0, 0) _ rfl (by (with_reducible repeat (first | apply blk_drewN | apply blk_drew | apply blk_alloc)); refine blk_put (cs := #[.slice none 0 0]) ?_ 0 _ rfl; (with_reducible repeat (first | apply blk_drewN | apply blk_drew | apply blk_alloc)); exact qf.out) Tryd.underlying29 rfl (by kernel_rfl)) rfl ?_; exact ⟨_, Ye2, nl, (by first | exact be3 HB.out qg.out qi.out qk.out | exact be2 HB.out qg.out qi.out | exact be1 HB.out qg.out)⟩
   ·replace c32 := Bool.eq_false_iff.mpr c32; subst c32
    have H1 : (spec_Mount.l0 kj3 a1 0 qb qa) = some (r1, r2) := by rw [if_neg (show ¬ (false = true) by decide)] at H; exact H
    clear H; have H := H1; clear H1; have H' := Aside0.mk H; clear H
    go_wp2
    go_loopg [8] kj3 (fun kq v8 w' => ∃ (qm : Int), v8 = .int .i64 qm ∧ Aside0 (spec_Mount.l0 kq a1 qm qb qa = some (r1, r2)) ∧ Aside0 (kq ≤ kj3) ∧ Aside0 (w'.heap[gb706]? = some (.cells #[(.slice A0_0 qb.length c0_0)] 29 (0, 0))) ∧ Aside0 (w'.heap[gb707]? = some (.cells #[(.slice A2_0 qa.length c2_0)] 29 (0, 0))) ∧ Aside0 (w'.heap[qt]? = some (.cells #[(.slice none 0 0)] 29 (0, 0))) ∧ Aside0 (Below w.heap.size w w'))
    case atStart => exact ⟨(0), Ye1, H', ⟨Nat.le_refl _⟩, ⟨bk qc.out⟩, ⟨bk qd.out⟩, ⟨bk qf.out⟩, ⟨be3 HB.out qg.out qi.out qk.out⟩⟩
    case round =>
     clear H'; (try clear c1); (try clear c2); (try clear p2); (try clear c3); (try clear c4); (try clear c9); (try clear c11); (try clear c13); (try clear c14); (try clear c17); (try clear c21); (try clear c22); (try clear c25); (try clear c28); (try clear c29); (try clear c32); (try clear c33); (try clear c34); (try clear hcz15_0); (try clear hcz18_0); (try clear hcz23_0); (try clear hcz26_0); (try clear hcz30_0); (try clear hcz35_0); (try clear hfz15_0); (try clear hfz18_0); (try clear hfz23_0); (try clear hfz26_0); (try clear hfz30_0); (try clear hfz35_0); (try clear p2); obtain ⟨qm, rfl, HA, HK2, qc, qd, qf, HB⟩ := hrel
     cases gk with
     | zero => exact absurd HA.out (by simp [spec_Mount.l0])
     | succ k2 =>
      have H := HA.out; clear HA; simp only [spec_Mount.l0] at H
      by_cases c36 : qm < (qa.length : Int)
      ·rw [if_pos c36] at H
       have c36b0 : decide (qm < (qa.length : Int)) = true := decide_eq_true c36; clear c36
       by_cases c37 : a1.size + 1 ≤ 9223372036854775807
       ·rw [if_pos c37] at H
        have c37b0 := eq_true c37; have c37b1 : decide (a1.size + 1 ≤ 9223372036854775807) = true := decide_eq_true c37
        try have c37b2 : (9223372036854775807 < a1.size + 1) = False := eq_false (Nat.not_lt.2 c37)
        by_cases c38 : 0 ≤ qm
        ·rw [if_pos c38] at H
         have c38b0 : decide (0 ≤ qm) = true := decide_eq_true c38; clear c38
         by_cases c39 : (a1 ++ (⟨#[47]⟩ : ByteArray)).size + ((rd_T45 qa qm).f0).size ≤ 9223372036854775807
         ·rw [if_pos c39] at H
          have c39b0 := eq_true c39; have c39b1 : decide ((a1 ++ (⟨#[47]⟩ : ByteArray)).size + ((rd_T45 qa qm).f0).size ≤ 9223372036854775807) = true := decide_eq_true c39
          try have c39b2 : (9223372036854775807 < (a1 ++ (⟨#[47]⟩ : ByteArray)).size + ((rd_T45 qa qm).f0).size) = False := eq_false (Nat.not_lt.2 c39)
          replace H := Option.bind_eq_some_iff.mp H; obtain ⟨t713, A400, H⟩ := H; replace H : (if t713 = true then (spec_Mount.l0 k2 a1 (wrap64 (qm + 1)) qb qa) else (some (([] : List (S45)), 2))) = some (r1, r2) := H; have A40 := Aside0.mk A400; clear A400
          by_cases c41 : t713 = true
          ·subst c41
           have H1 : (spec_Mount.l0 k2 a1 (wrap64 (qm + 1)) qb qa) = some (r1, r2) := by rw [if_pos rfl] at H; exact H
           clear H; have H := H1; clear H1; have H' := Aside0.mk H; clear H; have hnb42 := qv.out; have hnc42 := qu.out; have hnb43 := qy.out; have hnc43 := qz.out; have ⟨hcz44_0, hfz44_0⟩ := Yc1 qd.out; have p712 : 0 ≤ (qm : Int) := oda; have q712 : qm < (qa.length : Int) := oda; obtain ⟨ad712, e712, hx712_0, hx712_1, hx712_2⟩ := at_T45 (Kd.C_below HR2_0.out HB.out) qm p712 q712
           cases e712
           replace p712 := eq_true p712; replace q712 := eq_true q712
           go_wp2_with (first | ((with_reducible refine gc 48 rfl ?_); refine gl (some 44) _ (#[.string ((a1 ++ (⟨#[47]⟩ : ByteArray)) ++ ((rd_T45 qa qm).f0))]) Tryd.func48 ?_; (with_reducible refine (spec_ValidPath.calls k2 ((a1 ++ (⟨#[47]⟩ : ByteArray)) ++ ((rd_T45 qa qm).f0)) true _ A40.out).mono ?_); rintro e w45 ⟨rfl, hb⟩; refine ⟨_, rfl, ?_⟩; refine Ya4 (bb qc hb) (bb qd hb) (bb qf hb) (below_step (be3 HB.out qg.out qi.out qk.out) hb) ?_; clear qc qd qf HB; intro qc qd qf HB; (try clear hb); (try clear hb2); (try clear hk); (try clear hi)))
           go_roundg k2
           case measure => have := HJ3.out; have := HK2.out; omega
           case rel => exact ⟨(wrap64 (qm + 1)), Ye1, H', ⟨by have := HJ3.out; have := HK2.out; omega⟩, ⟨bk qc.out⟩, ⟨bk qd.out⟩, ⟨bk qf.out⟩, ⟨be3 HB.out qg.out qi.out qk.out⟩⟩
          ·replace c41 := Bool.eq_false_iff.mpr c41; subst c41
           have H1 : (some (([] : List (S45)), 2)) = some (r1, r2) := by rw [if_neg (show ¬ (false = true) by decide)] at H; exact H
           clear H; have H := H1; clear H1; simp only [Option.some.injEq, Prod.mk.injEq] at H; obtain ⟨rfl, rfl⟩ := H; have hnb46 := qv.out; have hnc46 := qu.out; have hnb47 := qy.out; have hnc47 := qz.out; have ⟨hcz48_0, hfz48_0⟩ := Yc1 qd.out; have p712 : 0 ≤ (qm : Int) := oda; have q712 : qm < (qa.length : Int) := oda; obtain ⟨ad712, e712, hx712_0, hx712_1, hx712_2⟩ := at_T45 (Kd.C_below HR2_0.out HB.out) qm p712 q712
           cases e712
           replace p712 := eq_true p712; replace q712 := eq_true q712
           go_wp2_with (first | ((with_reducible refine gc 48 rfl ?_); refine gl (some 44) _ (#[.string ((a1 ++ (⟨#[47]⟩ : ByteArray)) ++ ((rd_T45 qa qm).f0))]) Tryd.func48 ?_; (with_reducible refine (spec_ValidPath.calls k2 ((a1 ++ (⟨#[47]⟩ : ByteArray)) ++ ((rd_T45 qa qm).f0)) false _ A40.out).mono ?_); rintro e w49 ⟨rfl, hb⟩; refine ⟨_, rfl, ?_⟩; refine Ya4 (bb qc hb) (bb qd hb) (bb qf hb) (below_step (be3 HB.out qg.out qi.out qk.out) hb) ?_; clear qc qd qf HB; intro qc qd qf HB; (try clear hb); (try clear hb2); (try clear hk); (try clear hi); have hnb50 := qx.out; have hnc50 := qw.out; have ⟨hcz51_0, hfz51_0⟩ := Yc1 qf.out))
           refine bodyPost_ret (results_ct rfl _ _ qt 29 #[.slice none 0 0] (0, 0) _ rfl (by (with_reducible repeat (first | apply blk_drewN | apply blk_drew | apply blk_alloc)); refine blk_put (cs := #[.slice none 0 0]) ?_ 0 _ rfl; (with_reducible repeat (first | apply blk_drewN | apply blk_drew | apply blk_alloc)); exact qf.out) Tryd.underlying29 rfl (by kernel_rfl)) rfl ?_; exact ⟨_, Ye2, nl, (by first | exact be3 HB.out qg.out qi.out qk.out | exact be2 HB.out qg.out qi.out | exact be1 HB.out qg.out)⟩
         ·rw [if_neg c39] at H
          exact absurd H (by simp)
        ·rw [if_neg c38] at H
         exact absurd H (by simp)
       ·rw [if_neg c37] at H
        exact absurd H (by simp)
      ·rw [if_neg c36] at H
       have c36b0 : decide (qm < (qa.length : Int)) = false := decide_eq_false c36; clear c36; have H' := Aside0.mk H; clear H; have hnb52 := qv.out; have hnc52 := qu.out; have hnb53 := qy.out; have hnc53 := qz.out; have ⟨hcz54_0, hfz54_0⟩ := Yc1 qd.out
       go_wp2_with (first | ((with_reducible refine gd 9 rfl ?_); refine bx 9 29 (#[.slice none 0 0]) ?_; intro gb714 hg w55 hbox hb; have n0_ := Aside0.mk (bb qc hb); have n1_ := Aside0.mk (bb qd hb); have n2_ := Aside0.mk (bb qf hb); have n3_ := Aside0.mk (below_step (be3 HB.out qg.out qi.out qk.out) hb); have n4_ := Aside0.mk (hbox); have n5_ := Aside0.mk (bs hg (be3 HB.out qg.out qi.out qk.out)); have n6_ := Aside0.mk (bs hg (be3 HB.out qg.out qi.out qk.out)); have n7_ := Aside0.mk (bl hg qc); have n8_ := Aside0.mk (br hg qc); have n9_ := Aside0.mk (bl hg qd); have n10_ := Aside0.mk (br hg qd); have n11_ := Aside0.mk (bl hg qf); have n12_ := Aside0.mk (br hg qf); clear qc; clear qd; clear qf; clear HB; have qc := n0_; have qd := n1_; have qf := n2_; have HB := n3_; have qj := n4_; have GW714 := n5_; have qp := n6_; have q0 := n7_; have q3 := n8_; have q2 := n9_; have q5 := n10_; have q1 := n11_; have q4 := n12_; clear n0_ n1_ n2_ n3_ n4_ n5_ n6_ n7_ n8_ n9_ n10_ n11_ n12_; clear hb hbox hg; have hnb56 := q3.out; have hnc56 := q0.out; have hnb57 := q5.out; have hnc57 := q2.out; have hnb58 := q4.out; have hnc58 := q1.out; have ⟨hcz59_0, hfz59_0⟩ := Yc1 qj.out))
       go_loopg [10] k2 (fun kq v10 w' => ∃ (qe : Int) (qn : List (S45)) (u715000 : Value), v10 = .int .i64 qe ∧ Aside0 (spec_Mount.l1 kq a1 qe qb qa qn = some (r1, r2)) ∧ Aside0 (kq ≤ k2) ∧ Aside0 (Kd.R k45 45 w' w.heap.size (fun _ => True) u715000 qn) ∧ Aside0 (w'.heap[gb706]? = some (.cells #[(.slice A0_0 qb.length c0_0)] 29 (0, 0))) ∧ Aside0 (w'.heap[gb707]? = some (.cells #[(.slice A2_0 qa.length c2_0)] 29 (0, 0))) ∧ Aside0 (w'.heap[qt]? = some (.cells #[(.slice none 0 0)] 29 (0, 0))) ∧ Aside0 (w'.heap[gb714]? = some (.cells #[u715000] 29 (0, 0))) ∧ Aside0 (Below w.heap.size w w'))
       case atStart => exact ⟨(0), (([] : List (S45))), (.slice none 0 0), Ye1, H', ⟨Nat.le_refl _⟩, ⟨nl⟩, ⟨bkf qc.out q0.out⟩, ⟨bkf qd.out q2.out⟩, ⟨bkf qf.out q1.out⟩, ⟨by (with_reducible repeat (first | apply blk_drewN | apply blk_drew | apply blk_alloc)); refine blk_put (cs := #[.slice none 0 0]) ?_ 0 _ rfl; (with_reducible repeat (first | apply blk_drewN | apply blk_drew | apply blk_alloc)); exact qj.out⟩, ⟨be4 HB.out qg.out qi.out qk.out qp.out⟩⟩
       case round =>
        clear H'; (try clear c1); (try clear c2); (try clear p2); (try clear c3); (try clear c4); (try clear c5); (try clear p6); (try clear p7); (try clear q7); (try clear hx7); (try clear c9); (try clear c11); (try clear c13); (try clear c14); (try clear c17); (try clear c21); (try clear c22); (try clear c25); (try clear c28); (try clear c29); (try clear c32); (try clear c33); (try clear c34); (try clear c36); (try clear c36b0); (try clear c37); (try clear c37b0); (try clear c37b1); (try clear c37b2); (try clear c38); (try clear c38b0); (try clear c39); (try clear c39b0); (try clear c39b1); (try clear c39b2); (try clear c41); (try clear c42); (try clear c43); (try clear c45); (try clear c46); (try clear c47); (try clear c48); (try clear c50); (try clear c52); (try clear c53); (try clear c56); (try clear c57); (try clear c58); (try clear hcz15_0); (try clear hcz18_0); (try clear hcz23_0); (try clear hcz26_0); (try clear hcz30_0); (try clear hcz35_0); (try clear hcz44_0); (try clear hcz48_0); (try clear hcz51_0); (try clear hcz54_0); (try clear hcz59_0); (try clear hfz15_0); (try clear hfz18_0); (try clear hfz23_0); (try clear hfz26_0); (try clear hfz30_0); (try clear hfz35_0); (try clear hfz44_0); (try clear hfz48_0); (try clear hfz51_0); (try clear hfz54_0); (try clear hfz59_0); (try clear hx712_0); (try clear hx712_1); (try clear hx712_2); (try clear p2); (try clear p712); (try clear q712); obtain ⟨qe, qn, u715000, rfl, HA, HK3, ql, qc, qd, qf, qj, HB⟩ := hrel
        cases gk with
        | zero => exact absurd HA.out (by simp [spec_Mount.l1])
        | succ k3 =>
         have H := HA.out; clear HA; simp only [spec_Mount.l1] at H
         by_cases c60 : qe < (qb.length : Int)
         ·rw [if_pos c60] at H
          have c60b0 : decide (qe < (qb.length : Int)) = true := decide_eq_true c60; clear c60
          by_cases c61 : 0 ≤ qe
          ·rw [if_pos c61] at H
           have c61b0 : decide (0 ≤ qe) = true := decide_eq_true c61; clear c61; have HC62 := Aside0.mk H; clear H; have hnb63 := qu.out; have hnc63 := qv.out; have hnb64 := qw.out; have hnc64 := qx.out; have hnb65 := q0.out; have hnc65 := q3.out; have ⟨hcz66_0, hfz66_0⟩ := Yc1 qc.out; have p715 : 0 ≤ (qe : Int) := oda; have q715 : qe < (qb.length : Int) := oda; obtain ⟨ad715, e715, hx715_0, hx715_1, hx715_2⟩ := at_T45 (Kd.C_below HR0_0.out HB.out) qe p715 q715
           cases e715
           replace p715 := eq_true p715; replace q715 := eq_true q715
           go_upto_region 13 with (fail)
           go_cut [68] (fun v68 wc => ∃ (kq : Nat) (x68_61 : Bool), v68 = .bool x68_61 ∧ Aside0 (spec_Mount.j3 kq a1 qe ((rd_T45 qb qe).f0) x68_61 qb qa qn = some (r1, r2)) ∧ Aside0 (kq ≤ k3) ∧ Aside0 (Kd.R k45 45 wc w.heap.size (fun _ => True) u715000 qn) ∧ Aside0 (wc.heap[gb706]? = some (.cells #[(.slice (some ad715) qb.length c0_0)] 29 (0, 0))) ∧ Aside0 (wc.heap[gb707]? = some (.cells #[(.slice A2_0 qa.length c2_0)] 29 (0, 0))) ∧ Aside0 (wc.heap[qt]? = some (.cells #[(.slice none 0 0)] 29 (0, 0))) ∧ Aside0 (wc.heap[gb714]? = some (.cells #[u715000] 29 (0, 0))) ∧ Aside0 (Below w.heap.size w wc))
           case first =>
            have H := HC62.out; clear HC62
            by_cases c67 : ((rd_T45 qb qe).f0).toList = a1.toList
            ·rw [if_pos c67] at H
             have c67b0 : (((rd_T45 qb qe).f0).toList == a1.toList) = true := beq_iff_eq.mpr c67; have c67b1 : (((rd_T45 qb qe).f0).toList != a1.toList) = false := bne_eq_false_iff_eq.mpr c67; clear c67; (first | rw [c67b0] | (simp only [i64_w, i32_w]; rw [c67b0]) | skip); have H' := Aside0.mk H; clear H
             go_wp2
             go_meet
             case rel => exact ⟨_, (true), Ye1, H', ⟨by have := HJ3.out; have := HK2.out; have := HK3.out; first | omega | exact Nat.le_refl _⟩, ⟨kr ql.out⟩, ⟨bk qc.out⟩, ⟨bk qd.out⟩, ⟨bk qf.out⟩, ⟨bk qj.out⟩, ⟨be4 HB.out qg.out qi.out qk.out qp.out⟩⟩
            ·rw [if_neg c67] at H
             have c67b0 : (((rd_T45 qb qe).f0).toList == a1.toList) = false := beq_eq_false_iff_ne.mpr c67; have c67b1 : (((rd_T45 qb qe).f0).toList != a1.toList) = true := bne_iff_ne.mpr c67; (first | rw [c67b0] | (simp only [i64_w, i32_w]; rw [c67b0]) | skip); replace H := Option.bind_eq_some_iff.mp H; obtain ⟨t716, A680, H⟩ := H; replace H : (spec_Mount.j3 k3 a1 qe ((rd_T45 qb qe).f0) t716 qb qa qn) = some (r1, r2) := H; have A68 := Aside0.mk A680; clear A680; have H' := Aside0.mk H; clear H
             go_wp2_with (first | (go_at_call 49; (with_reducible refine (spec_l5Begins.calls ((rd_T45 qb qe).f0) a1 t716 _ A68.out).mono ?_); rintro e w' ⟨rfl, ⟨nd, rfl⟩⟩))
             go_meet
             case rel => exact ⟨_, (t716), Ye1, H', ⟨by have := HJ3.out; have := HK2.out; have := HK3.out; first | omega | exact Nat.le_refl _⟩, ⟨kr ql.out⟩, ⟨bk qc.out⟩, ⟨bk qd.out⟩, ⟨bk qf.out⟩, ⟨bk qj.out⟩, ⟨be4 HB.out qg.out qi.out qk.out qp.out⟩⟩
           case rest =>
            clear HC62; (try clear c1); (try clear c2); (try clear p2); (try clear c3); (try clear c4); (try clear c5); (try clear c6); (try clear p6); (try clear p7); (try clear q7); (try clear hx7); (try clear c9); (try clear c11); (try clear c13); (try clear c14); (try clear c17); (try clear c21); (try clear c22); (try clear c25); (try clear c28); (try clear c29); (try clear c32); (try clear c33); (try clear c34); (try clear c36); (try clear c36b0); (try clear c37); (try clear c37b0); (try clear c37b1); (try clear c37b2); (try clear c38); (try clear c38b0); (try clear c39); (try clear c39b0); (try clear c39b1); (try clear c39b2); (try clear c41); (try clear c42); (try clear c43); (try clear c45); (try clear c46); (try clear c47); (try clear c48); (try clear c50); (try clear c52); (try clear c53); (try clear c56); (try clear c57); (try clear c58); (try clear c60); (try clear c60b0); (try clear c61); (try clear c61b0); (try clear c63); (try clear c64); (try clear p64); (try clear c65); (try clear c67); (try clear c67b0); (try clear c67b1); (try clear hcz15_0); (try clear hcz18_0); (try clear hcz23_0); (try clear hcz26_0); (try clear hcz30_0); (try clear hcz35_0); (try clear hcz44_0); (try clear hcz48_0); (try clear hcz51_0); (try clear hcz54_0); (try clear hcz59_0); (try clear hcz66_0); (try clear hfz15_0); (try clear hfz18_0); (try clear hfz23_0); (try clear hfz26_0); (try clear hfz30_0); (try clear hfz35_0); (try clear hfz44_0); (try clear hfz48_0); (try clear hfz51_0); (try clear hfz54_0); (try clear hfz59_0); (try clear hfz66_0); (try clear hx712_0); (try clear hx712_1); (try clear hx712_2); (try clear hx715_0); (try clear hx715_1); (try clear hx715_2); (try clear p2); (try clear p6); (try clear p7); (try clear p712); (try clear p715); (try clear q7); (try clear q712); (try clear q715); obtain ⟨kq, x68_61, rfl, HA, HJ61, ql, qc, qd, qf, qj, HB⟩ := hcut
            cases kq with
            | zero => exact absurd HA.out (by simp [spec_Mount.j3])
            | succ kj61 =>
             have H := HA.out; clear HA; simp only [spec_Mount.j3] at H
             by_cases c69 : x68_61 = true
             ·subst c69
              have H1 : (some (([] : List (S45)), 3)) = some (r1, r2) := by rw [if_pos rfl] at H; exact H
              clear H; have H := H1; clear H1; simp only [Option.some.injEq, Prod.mk.injEq] at H; obtain ⟨rfl, rfl⟩ := H; have hnb70 := qx.out; have hnc70 := qw.out; have hnb71 := qz.out; have hnc71 := qy.out; have hnb72 := q1.out; have hnc72 := q4.out; have ⟨hcz73_0, hfz73_0⟩ := Yc1 qf.out
              go_wp2
              refine bodyPost_ret (results_ct rfl _ _ qt 29 #[.slice none 0 0] (0, 0) _ rfl (by (with_reducible repeat (first | apply blk_drewN | apply blk_drew | apply blk_alloc)); refine blk_put (cs := #[.slice none 0 0]) ?_ 0 _ rfl; (with_reducible repeat (first | apply blk_drewN | apply blk_drew | apply blk_alloc)); exact qf.out) Tryd.underlying29 rfl (by kernel_rfl)) rfl ?_; exact ⟨_, Ye2, nl, (by first | exact be4 HB.out qg.out qi.out qk.out qp.out | exact be3 HB.out qg.out qi.out qk.out | exact be2 HB.out qg.out qi.out)⟩
             ·replace c69 := Bool.eq_false_iff.mpr c69; subst c69
              have H1 : ((spec_l5Begins.f a1 ((rd_T45 qb qe).f0)).bind fun t717 => (if t717 = true then (spec_Mount.l1 kj61 a1 (wrap64 (qe + 1)) qb qa qn) else (if 0 ≤ qe then (if qe < (qb.length : Int) then (if qn.length < 3518437208883 then (spec_Mount.l1 kj61 a1 (wrap64 (qe + 1)) qb qa (qn ++ [(⟨(rd_T45 qb qe).f0, (rd_T45 qb qe).f1, (rd_T45 qb qe).f2⟩ : S45)])) else (none)) else (none)) else (none)))) = some (r1, r2) := by rw [if_neg (show ¬ (false = true) by decide)] at H; exact H
              clear H; have H := H1; clear H1; replace H := Option.bind_eq_some_iff.mp H; obtain ⟨t717, A740, H⟩ := H; replace H : (if t717 = true then (spec_Mount.l1 kj61 a1 (wrap64 (qe + 1)) qb qa qn) else (if 0 ≤ qe then (if qe < (qb.length : Int) then (if qn.length < 3518437208883 then (spec_Mount.l1 kj61 a1 (wrap64 (qe + 1)) qb qa (qn ++ [(⟨(rd_T45 qb qe).f0, (rd_T45 qb qe).f1, (rd_T45 qb qe).f2⟩ : S45)])) else (none)) else (none)) else (none))) = some (r1, r2) := H; have A74 := Aside0.mk A740; clear A740
              by_cases c75 : t717 = true
              ·subst c75
               have H1 : (spec_Mount.l1 kj61 a1 (wrap64 (qe + 1)) qb qa qn) = some (r1, r2) := by rw [if_pos rfl] at H; exact H
               clear H; have H := H1; clear H1; have H' := Aside0.mk H; clear H
               go_wp2_with (first | ((with_reducible refine gc 49 rfl ?_); refine gl (some 72) _ (#[.string a1, .string ((rd_T45 qb qe).f0)]) Tryd.func49 ?_; (with_reducible refine (spec_l5Begins.calls a1 ((rd_T45 qb qe).f0) true _ A74.out).mono ?_); rintro e w' ⟨rfl, ⟨nd, rfl⟩⟩; refine ⟨_, rfl, ?_⟩))
               go_roundg kj61
               case measure => have := HJ3.out; have := HK2.out; have := HK3.out; have := HJ61.out; omega
               case rel => exact ⟨(wrap64 (qe + 1)), (qn), (u715000), Ye1, H', ⟨by have := HJ3.out; have := HK2.out; have := HK3.out; have := HJ61.out; omega⟩, ⟨kr ql.out⟩, ⟨bk qc.out⟩, ⟨bk qd.out⟩, ⟨bk qf.out⟩, ⟨bk qj.out⟩, ⟨be4 HB.out qg.out qi.out qk.out qp.out⟩⟩
              ·replace c75 := Bool.eq_false_iff.mpr c75; subst c75
               have H1 : (if 0 ≤ qe then (if qe < (qb.length : Int) then (if qn.length < 3518437208883 then (spec_Mount.l1 kj61 a1 (wrap64 (qe + 1)) qb qa (qn ++ [(⟨(rd_T45 qb qe).f0, (rd_T45 qb qe).f1, (rd_T45 qb qe).f2⟩ : S45)])) else (none)) else (none)) else (none)) = some (r1, r2) := by rw [if_neg (show ¬ (false = true) by decide)] at H; exact H
               clear H; have H := H1; clear H1
               by_cases c76 : 0 ≤ qe
               ·rw [if_pos c76] at H
                have c76b0 : decide (0 ≤ qe) = true := decide_eq_true c76; clear c76
                by_cases c77 : qe < (qb.length : Int)
                ·rw [if_pos c77] at H
                 have c77b0 : decide (qe < (qb.length : Int)) = true := decide_eq_true c77; clear c77
                 by_cases c78 : qn.length < 3518437208883
                 ·rw [if_pos c78] at H
                  have LMc78 := Aside0.mk c78; clear c78
                  obtain ⟨y719, hy719⟩ : ∃ y_ : List (S45), y_ = (qn ++ [(⟨(rd_T45 qb qe).f0, (rd_T45 qb qe).f1, (rd_T45 qb qe).f2⟩ : S45)]) := ⟨_, rfl⟩
                  replace H : (spec_Mount.l1 kj61 a1 (wrap64 (qe + 1)) qb qa y719) = some (r1, r2) := by first | (rw [hy719]; with_reducible exact H) | (have H2_ := (Option.bind_some _ _).symm.trans H; rw [hy719]; with_reducible exact H2_) | (have H2_ := (Option.bind_some _ _).symm.trans H; with_reducible exact H2_) | with_reducible exact H | (rw [hy719]; exact H) | exact H
                  have Ny719 := Aside0.mk hy719; clear hy719; have H' := Aside0.mk H; clear H
                  try go_wp2_with (first | ((with_reducible refine gc 49 rfl ?_); refine gl (some 72) _ (#[.string a1, .string ((rd_T45 qb qe).f0)]) Tryd.func49 ?_; (with_reducible refine (spec_l5Begins.calls a1 ((rd_T45 qb qe).f0) false _ A74.out).mono ?_); rintro e w' ⟨rfl, ⟨nd, rfl⟩⟩; refine ⟨_, rfl, ?_⟩; (try (rw [drewN_self wc]; generalize hq_ : World.drewN wc _ = wc; have n0_ : Aside0 (Kd.R k45 45 wc w.heap.size (fun _ => True) u715000 qn) := ⟨by rw [← hq_]; exact (kr ql.out)⟩; have n1_ : Aside0 (wc.heap[gb706]? = some (.cells #[.slice (some ad715) qb.length c0_0] 29 (0, 0))) := ⟨by rw [← hq_]; exact (bk qc.out)⟩; have n2_ : Aside0 (wc.heap[gb707]? = some (.cells #[.slice A2_0 qa.length c2_0] 29 (0, 0))) := ⟨by rw [← hq_]; exact (bk qd.out)⟩; have n3_ : Aside0 (wc.heap[qt]? = some (.cells #[.slice none 0 0] 29 (0, 0))) := ⟨by rw [← hq_]; exact (bk qf.out)⟩; have n4_ : Aside0 (wc.heap[gb714]? = some (.cells #[u715000] 29 (0, 0))) := ⟨by rw [← hq_]; exact (bk qj.out)⟩; have n5_ : Aside0 (Below w.heap.size w wc) := ⟨by rw [← hq_]; exact (be4 HB.out qg.out qi.out qk.out qp.out)⟩; clear ql qc qd qf qj HB hq_; have ql := n0_; have qc := n1_; have qd := n2_; have qf := n3_; have qj := n4_; have HB := n5_; clear n0_ n1_ n2_ n3_ n4_ n5_))))
                  refine Ya6 (Kd.R_drew ql.out) (blk_drew qc.out) (blk_drew qd.out) (blk_drew qf.out) (blk_drew qj.out) (below_drew1 HB.out) ?_; clear ql qc qd qf qj HB; intro ql qc qd qf qj HB; have p718 : 0 ≤ (qe : Int) := oda; have q718 : qe < (qb.length : Int) := oda; obtain ⟨ad718, e718, hx718_0, hx718_1, hx718_2⟩ := at_T45 HR0_0.out qe p718 q718; have hw718_2 := hx718_2; have hw718_1 := hx718_1; have hw718_0 := hx718_0
                  obtain rfl : ad715 = ad718 := (by injection e718)
                  replace hx718_0 := pw_cell_below HB.out hx718_0; replace hx718_1 := pw_cell_below HB.out hx718_1; replace hx718_2 := pw_cell_below HB.out hx718_2; replace p718 := eq_true p718; replace q718 := eq_true q718; refine start_ (n := 11) (S := fun w' => w'.cell? ⟨gb714, 0, none⟩ = some (u715000) ∧ w'.cell? ⟨gb706, 0, none⟩ = some (.slice (some ad715) qb.length c0_0) ∧ w'.cell? (ad715.add ((qe).toNat * 3)) = some (.string ((rd_T45 qb qe).f0)) ∧ w'.cell? ⟨(ad715.add ((qe).toNat * 3)).block, (ad715.add ((qe).toNat * 3)).off + 1, none⟩ = some (.string ((rd_T45 qb qe).f1)) ∧ w'.cell? ⟨(ad715.add ((qe).toNat * 3)).block, (ad715.add ((qe).toNat * 3)).off + 2, none⟩ = some (.bool ((rd_T45 qb qe).f2))) (ds := [10]) (fb 11 0) (by kernel_rfl) rfl rfl ⟨(blk_cell qj.out 0).trans rfl, (blk_cell qc.out 0).trans rfl, (pw_cell_below HB.out hw718_0), (pw_cell_below HB.out hw718_1), (pw_cell_below HB.out hw718_2)⟩ (fun hHeld => ?_); refine with_tabW spec_Mount.tab16 spec_Mount.bits16 (fun HT_ HW_ => ?_); generalize wc.drew = w79 at ql qc qd qf qj HB hx718_0 hx718_1 hx718_2 hHeld ⊢; refine pu 0 74 (fb 11 1) HT_ ?_; refine pu 2 76 (fb 11 5) HT_ ?_; refine pu 4 78 (fb 11 21) HT_ ?_; refine tk 1 75 (fb 11 23) HT_ HW_ hHeld ?_; refine tk 3 77 (fb 11 31) HT_ HW_ hHeld ?_; refine pu 5 79 (fb 11 63) HT_ ?_; refine tk 6 80 (fb 11 127) HT_ HW_ hHeld ?_; refine one_ (i := 7) (N := some 81) (fb 11 255) rfl rfl (one_of HT_.out (by kernel_rfl)) (by decide) (fun K hK => ?_); refine value_ (w1 := ?_) (v := ?_) (by rfl) rfl ?_ ?_; rotate_left 2
                  ·go_simp
                   constructor
                   ·rfl
                   ·rfl
                  refine hK.out _ _ ⟨(blk_cell (blk_alloc qj.out _) 0).trans rfl, (blk_cell (blk_alloc qc.out _) 0).trans rfl, (World.cell?_alloc_lt _ _ _ (World.block_lt_of_cell? _ _ ((pw_cell_below HB.out hw718_0)))).trans ((pw_cell_below HB.out hw718_0)), (World.cell?_alloc_lt _ _ _ (World.block_lt_of_cell? _ _ ((pw_cell_below HB.out hw718_1)))).trans ((pw_cell_below HB.out hw718_1)), (World.cell?_alloc_lt _ _ _ (World.block_lt_of_cell? _ _ ((pw_cell_below HB.out hw718_2)))).trans ((pw_cell_below HB.out hw718_2))⟩ (fun hHeld => ?_); clear hK K; refine norm_ (a' := ?_) ?_ ?_; rotate_left
                  ·show Act.put _ (some 81) _ = _
                   simp only [Act.put, List.setIfInBounds_toArray, List.set_cons_zero, List.set_cons_succ, i64_w, i32_w]; rfl
                  refine one_ (i := 8) (N := some 82) (fb 11 511) rfl rfl (one_of HT_.out (by kernel_rfl)) (by decide) (fun K hK => ?_); refine Kd.R_append_step k45 (w0 := w) w.heap.size (by rfl) (.tmp 75) (.tmp 81) 27 45 (.agg #[(.string ⟨#[]⟩), (.string ⟨#[]⟩), (.bool false)]) 40 rfl Tryd.underlying27 info45 rfl (by decide) (by omega) u715000 qn (⟨(rd_T45 qb qe).f0, (rd_T45 qb qe).f1, (rd_T45 qb qe).f2⟩ : S45) [.string ((rd_T45 qb qe).f0), .string ((rd_T45 qb qe).f1), .bool ((rd_T45 qb qe).f2)] (fun _ => True) (fun _ => False) rfl rfl ?aP (fun _ hk => hk.elim) ?aF ?aO ?aB ?aS ?aL ?_; (case aP => exact k45_mkM _ _ _ (⟨(rd_T45 qb qe).f0, (rd_T45 qb qe).f1, (rd_T45 qb qe).f2⟩ : S45)); (case aB => exact (be4 HB.out qg.out qi.out qk.out qp.out)); (case aF => exact (fun _ _ => trivial)); (case aO => exact (kr ql.out)); (case aS => exact (below_size (be4 HB.out qg.out qi.out qk.out qp.out))); (case aL => have := LMc78.out; omega); intro v720 w80 ho hb hg hat
                  rw [← Ny719.out] at ho
                  refine Ya6 (blk_grown (g := gb706) (o := .cells #[.slice (some ad715) qb.length c0_0] 29 (0, 0)) (bk qc.out) hg (Kd.R_ne ql.out qc.out (by decide))) (blk_grown (g := gb707) (o := .cells #[.slice A2_0 qa.length c2_0] 29 (0, 0)) (bk qd.out) hg (Kd.R_ne ql.out qd.out (by decide))) (blk_grown (g := qt) (o := .cells #[.slice none 0 0] 29 (0, 0)) (bk qf.out) hg (Kd.R_ne ql.out qf.out (by decide))) (blk_grown (g := gb714) (o := .cells #[u715000] 29 (0, 0)) (bk qj.out) hg (Kd.R_ne ql.out qj.out (by decide))) (hb) (ho) ?_; clear qc qd qf qj HB ql; intro qc qd qf qj HB HO721; clear ho hb hg hat; obtain ⟨Ao81, co81, eo81⟩ := Kd.R_slice HO721.out; (first | subst eo81 | (injection eo81 with f1_ f2_ f3_; have f4_ := f1_.symm; have f5_ := f3_.symm; clear f1_ f2_ f3_; subst f4_; subst f5_)); refine hK.out _ _ ⟨(blk_cell qj.out 0).trans rfl, (blk_cell qc.out 0).trans rfl, (pw_cell_below HB.out hw718_0), (pw_cell_below HB.out hw718_1), (pw_cell_below HB.out hw718_2)⟩ (fun hHeld => ?_); clear hK K; refine norm_ (a' := ?_) ?_ ?_; rotate_left
                  ·show Act.put _ (some 82) _ = _
                   simp only [Act.put, List.setIfInBounds_toArray, List.set_cons_zero, List.set_cons_succ, i64_w, i32_w]; rfl
                  refine pu 9 83 (fb 11 1023) HT_ ?_; refine last_ (i := 10) (N := none) (fb 11 2047) rfl rfl (one_of HT_.out (by kernel_rfl)) (by decide) (fun K hK => ?_); have hs82 : w80.cell? ⟨gb714, 0, none⟩ = some (u715000) := (blk_cell qj.out 0).trans rfl; have hfs82 := blk_frozen qj.out 0; have hns82_0 := q0.out; have hns82_1 := q2.out; have hns82_2 := q1.out; have hms82_0 := q3.out; have hms82_1 := q5.out; have hms82_2 := q4.out; refine skip_ (w1 := ?_) (by rfl) rfl ?_ ?_; rotate_left
                  ·go_simp; rfl
                  refine hK.out _ _ ?_; clear hK K; refine done_ (done_of HT_.out (by kernel_rfl)) ?_
                  try go_wp2
                  go_roundg kj61
                  case measure => have := HJ3.out; have := HK2.out; have := HK3.out; have := HJ61.out; omega
                  case rel => exact ⟨(wrap64 (qe + 1)), (y719), (.slice Ao81 y719.length co81), Ye1, H', ⟨by have := HJ3.out; have := HK2.out; have := HK3.out; have := HJ61.out; omega⟩, ⟨by (with_reducible repeat (first | apply Kd.R_alloc | apply Kd.R_drewN | apply Kd.R_drew)); exact Kd.R_mono (Kd.R_far (p := ⟨gb714, 0, none⟩) (Kd.R_types HO721.out qj.out (by decide)) (fun _ hk => hk.2) (.slice Ao81 y719.length co81)) (fun _ hk => trivial)⟩, ⟨bkf qc.out q0.out⟩, ⟨bkf qd.out q2.out⟩, ⟨bkf qf.out q1.out⟩, ⟨by (with_reducible repeat (first | apply blk_drewN | apply blk_drew | apply blk_alloc)); refine blk_put (cs := #[u715000]) ?_ 0 _ rfl; (with_reducible repeat (first | apply blk_drewN | apply blk_drew | apply blk_alloc)); exact qj.out⟩, ⟨be4 HB.out qg.out qi.out qk.out qp.out⟩⟩
                 ·rw [if_neg c78] at H
                  exact absurd H (by simp)
                ·rw [if_neg c77] at H
                 exact absurd H (by simp)
               ·rw [if_neg c76] at H
                exact absurd H (by simp)
          ·rw [if_neg c61] at H
           exact absurd H (by simp)
         ·rw [if_neg c60] at H
          have c60b0 : decide (qe < (qb.length : Int)) = false := decide_eq_false c60; clear c60; have H' := Aside0.mk H; clear H; have hnb83 := qu.out; have hnc83 := qv.out; have hnb84 := qw.out; have hnc84 := qx.out; have hnb85 := q0.out; have hnc85 := q3.out; have ⟨hcz86_0, hfz86_0⟩ := Yc1 qc.out
          go_wp2
          go_loopg [12] k3 (fun kq v12 w' => ∃ (qh : Int) (qr : List (S45)) (u715000 : Value), v12 = .int .i64 qh ∧ Aside0 (spec_Mount.l2 kq a1 qh qa qr = some (r1, r2)) ∧ Aside0 (kq ≤ k3) ∧ Aside0 (Kd.R k45 45 w' w.heap.size (fun _ => True) u715000 qr) ∧ Aside0 (w'.heap[gb706]? = some (.cells #[(.slice A0_0 qb.length c0_0)] 29 (0, 0))) ∧ Aside0 (w'.heap[gb707]? = some (.cells #[(.slice A2_0 qa.length c2_0)] 29 (0, 0))) ∧ Aside0 (w'.heap[qt]? = some (.cells #[(.slice none 0 0)] 29 (0, 0))) ∧ Aside0 (w'.heap[gb714]? = some (.cells #[u715000] 29 (0, 0))) ∧ Aside0 (Below w.heap.size w w'))
          case atStart => exact ⟨(0), (qn), (u715000), Ye1, H', ⟨Nat.le_refl _⟩, ⟨kr ql.out⟩, ⟨bk qc.out⟩, ⟨bk qd.out⟩, ⟨bk qf.out⟩, ⟨bk qj.out⟩, ⟨be4 HB.out qg.out qi.out qk.out qp.out⟩⟩
          case round =>
           clear H'; (try clear c1); (try clear c2); (try clear p2); (try clear c3); (try clear c4); (try clear c5); (try clear c6); (try clear p6); (try clear c7); (try clear p7); (try clear q7); (try clear hx7); (try clear c8); (try clear c9); (try clear c11); (try clear c13); (try clear c14); (try clear c17); (try clear c21); (try clear c22); (try clear c25); (try clear c28); (try clear c29); (try clear c32); (try clear c33); (try clear c34); (try clear c36); (try clear c36b0); (try clear c37); (try clear c37b0); (try clear c37b1); (try clear c37b2); (try clear c38); (try clear c38b0); (try clear c39); (try clear c39b0); (try clear c39b1); (try clear c39b2); (try clear c41); (try clear c42); (try clear c43); (try clear c45); (try clear c46); (try clear c47); (try clear c48); (try clear c49); (try clear c50); (try clear c52); (try clear c53); (try clear c56); (try clear c57); (try clear c58); (try clear c60); (try clear c60b0); (try clear c61); (try clear c61b0); (try clear c63); (try clear c64); (try clear p64); (try clear c65); (try clear c67); (try clear c67b0); (try clear c67b1); (try clear c69); (try clear c70); (try clear c71); (try clear p71); (try clear q71); (try clear hx71); (try clear c72); (try clear c75); (try clear c76); (try clear c76b0); (try clear c77); (try clear c77b0); (try clear c78); (try clear c83); (try clear c84); (try clear c85); (try clear hcz15_0); (try clear hcz18_0); (try clear hcz23_0); (try clear hcz26_0); (try clear hcz30_0); (try clear hcz35_0); (try clear hcz44_0); (try clear hcz48_0); (try clear hcz51_0); (try clear hcz54_0); (try clear hcz59_0); (try clear hcz66_0); (try clear hcz73_0); (try clear hcz86_0); (try clear hfz15_0); (try clear hfz18_0); (try clear hfz23_0); (try clear hfz26_0); (try clear hfz30_0); (try clear hfz35_0); (try clear hfz44_0); (try clear hfz48_0); (try clear hfz51_0); (try clear hfz54_0); (try clear hfz59_0); (try clear hfz66_0); (try clear hfz73_0); (try clear hfz86_0); (try clear hx712_0); (try clear hx712_1); (try clear hx712_2); (try clear hx715_0); (try clear hx715_1); (try clear hx715_2); (try clear hx718_0); (try clear hx718_1); (try clear hx718_2); (try clear p2); (try clear p6); (try clear p64); (try clear p7); (try clear p712); (try clear p715); (try clear p718); (try clear q7); (try clear q712); (try clear q715); (try clear q718); obtain ⟨qh, qr, u715000, rfl, HA, HK4, ql, qc, qd, qf, qj, HB⟩ := hrel
           cases gk with
           | zero => exact absurd HA.out (by simp [spec_Mount.l2])
           | succ k4 =>
            have H := HA.out; clear HA; simp only [spec_Mount.l2] at H
            by_cases c87 : qh < (qa.length : Int)
            ·rw [if_pos c87] at H
             have c87b0 : decide (qh < (qa.length : Int)) = true := decide_eq_true c87; clear c87
             by_cases c88 : 0 ≤ qh
             ·rw [if_pos c88] at H
              have c88b0 : decide (0 ≤ qh) = true := decide_eq_true c88; clear c88
              by_cases c89 : a1.size + 1 ≤ 9223372036854775807
              ·rw [if_pos c89] at H
               have c89b0 := eq_true c89; have c89b1 : decide (a1.size + 1 ≤ 9223372036854775807) = true := decide_eq_true c89
               try have c89b2 : (9223372036854775807 < a1.size + 1) = False := eq_false (Nat.not_lt.2 c89)
               by_cases c90 : (a1 ++ (⟨#[47]⟩ : ByteArray)).size + ((rd_T45 qa qh).f0).size ≤ 9223372036854775807
               ·rw [if_pos c90] at H
                have c90b0 := eq_true c90; have c90b1 : decide ((a1 ++ (⟨#[47]⟩ : ByteArray)).size + ((rd_T45 qa qh).f0).size ≤ 9223372036854775807) = true := decide_eq_true c90
                try have c90b2 : (9223372036854775807 < (a1 ++ (⟨#[47]⟩ : ByteArray)).size + ((rd_T45 qa qh).f0).size) = False := eq_false (Nat.not_lt.2 c90)
                replace H := Option.bind_eq_some_iff.mp H; obtain ⟨t724, A910, H⟩ := H; replace H : (spec_Mount.l2 k4 a1 (wrap64 (qh + 1)) qa t724) = some (r1, r2) := H; have A91 := Aside0.mk A910; clear A910; have H' := Aside0.mk H; clear H; have hnb92 := qv.out; have hnc92 := qu.out; have hnb93 := qy.out; have hnc93 := qz.out; have hnb94 := q2.out; have hnc94 := q5.out; have ⟨hcz95_0, hfz95_0⟩ := Yc1 qd.out; have p722 : 0 ≤ (qh : Int) := oda; have q722 : qh < (qa.length : Int) := oda; obtain ⟨ad722, e722, hx722_0, hx722_1, hx722_2⟩ := at_T45 (Kd.C_below HR2_0.out HB.out) qh p722 q722
                cases e722
                replace p722 := eq_true p722; replace q722 := eq_true q722
                go_wp2_with (first | ((with_reducible refine gd 13 rfl ?_); refine bx 13 45 (#[.string (⟨#[]⟩ : ByteArray), .string (⟨#[]⟩ : ByteArray), .bool false]) ?_; intro qo hg w96 hbox hb; have n0_ := Aside0.mk (Kd.R_below (Kd.R_elderB (kr ql.out) qo (Nat.le_of_eq hg.symm)) hb); have n1_ := Aside0.mk (bb qc hb); have n2_ := Aside0.mk (bb qd hb); have n3_ := Aside0.mk (bb qf hb); have n4_ := Aside0.mk (bb qj hb); have n5_ := Aside0.mk (below_step (be4 HB.out qg.out qi.out qk.out qp.out) hb); have n6_ := Aside0.mk (hbox); have n7_ := Aside0.mk (bs hg (be4 HB.out qg.out qi.out qk.out qp.out)); have n8_ := Aside0.mk (bs hg (be4 HB.out qg.out qi.out qk.out qp.out)); have n9_ := Aside0.mk (bl hg qc); have n10_ := Aside0.mk (br hg qc); have n11_ := Aside0.mk (bl hg qd); have n12_ := Aside0.mk (br hg qd); have n13_ := Aside0.mk (bl hg qf); have n14_ := Aside0.mk (br hg qf); have n15_ := Aside0.mk (bl hg qj); have n16_ := Aside0.mk (br hg qj); clear ql; clear qc; clear qd; clear qf; clear qj; clear HB; have ql := n0_; have qc := n1_; have qd := n2_; have qf := n3_; have qj := n4_; have HB := n5_; have BK723 := n6_; have GW723 := n7_; have GE723 := n8_; have NB706_723 := n9_; have NB723_706 := n10_; have NB707_723 := n11_; have NB723_707 := n12_; have NB708_723 := n13_; have NB723_708 := n14_; have NB714_723 := n15_; have NB723_714 := n16_; clear n0_ n1_ n2_ n3_ n4_ n5_ n6_ n7_ n8_ n9_ n10_ n11_ n12_ n13_ n14_ n15_ n16_; clear hb hbox hg; have hnb97 := NB723_706.out; have hnc97 := NB706_723.out; have hnb98 := NB723_707.out; have hnc98 := NB707_723.out; have hnb99 := NB723_708.out; have hnc99 := NB708_723.out; have hnb100 := NB723_714.out; have hnc100 := NB714_723.out; have ⟨hcz101_0, hcz101_1, hcz101_2, hfz101_0, hfz101_1, hfz101_2⟩ := Yc3 BK723.out; have hnb102 := q3.out; have hnc102 := q0.out; have hnb103 := q4.out; have hnc103 := q1.out; have ⟨hcz104_0, hfz104_0⟩ := Yc1 qj.out; obtain ⟨Ao105, co105, eo105⟩ := Kd.R_slice ql.out; subst eo105) | ((with_reducible refine gc 72 rfl ?_); refine gl (some 104) _ (#[.agg #[.slice Ao105 qr.length co105], .agg #[.string ((a1 ++ (⟨#[47]⟩ : ByteArray)) ++ ((rd_T45 qa qh).f0)), .string ((rd_T45 qa qh).f1), .bool ((rd_T45 qa qh).f2)]]) Tryd.func72 ?_; (with_reducible refine (spec_l5Set.calls k4 _ _ qr ((a1 ++ (⟨#[47]⟩ : ByteArray)) ++ ((rd_T45 qa qh).f0)) ((rd_T45 qa qh).f1) ((rd_T45 qa qh).f2) t724 _ ?side1 ?side2 A91.out).mono ?_); (case side1 => refine (Kd.R_reads' (e := 45) (base := w.heap.size) (ok := fun k_ => (True ∧ k_ ≠ qo)) (n := qr.length) (c := co105) ?_).2.2; exact (by (with_reducible repeat (first | apply Kd.R_alloc | apply Kd.R_drewN | apply Kd.R_drew)); exact (Kd.R_mono (Kd.R_far (p := ⟨qo, 0, none⟩) (Kd.R_far (p := ⟨qo, 2, none⟩) (Kd.R_far (p := ⟨qo, 1, none⟩) (Kd.R_far (p := ⟨qo, 0, none⟩) (Kd.R_mono ql.out (fun k_ hk => (⟨hk, hk.2⟩ : _ ∧ k_ ≠ qo))) (fun _ hk => hk.2) (.string ((rd_T45 qa qh).f0))) (fun _ hk => hk.2) (.string ((rd_T45 qa qh).f1))) (fun _ hk => hk.2) (.bool ((rd_T45 qa qh).f2))) (fun _ hk => hk.2) (.string ((a1 ++ (⟨#[47]⟩ : ByteArray)) ++ ((rd_T45 qa qh).f0)))) (fun _ h_ => h_.1)))); (case side2 => exact (Kd.R_reads' ql.out).2.1); rintro e w106 ⟨v725, rfl, ho0, hb⟩; refine ⟨_, rfl, ?_⟩; refine Ya8 (Kd.R_elder' (by (with_reducible repeat (first | apply Kd.R_alloc | apply Kd.R_drewN | apply Kd.R_drew)); exact (Kd.R_mono (Kd.R_far (p := ⟨qo, 0, none⟩) (Kd.R_far (p := ⟨qo, 2, none⟩) (Kd.R_far (p := ⟨qo, 1, none⟩) (Kd.R_far (p := ⟨qo, 0, none⟩) (Kd.R_mono ql.out (fun k_ hk => (⟨hk, hk.2⟩ : _ ∧ k_ ≠ qo))) (fun _ hk => hk.2) (.string ((rd_T45 qa qh).f0))) (fun _ hk => hk.2) (.string ((rd_T45 qa qh).f1))) (fun _ hk => hk.2) (.bool ((rd_T45 qa qh).f2))) (fun _ hk => hk.2) (.string ((a1 ++ (⟨#[47]⟩ : ByteArray)) ++ ((rd_T45 qa qh).f0)))) (fun _ h_ => h_.1))) (Kd.R_base ho0) hb) (Kd.R_lower (Kd.R_newB (Kd.R_new' ho0 (Kd.R_lt (by (with_reducible repeat (first | apply Kd.R_alloc | apply Kd.R_drewN | apply Kd.R_drew)); exact (Kd.R_mono (Kd.R_far (p := ⟨qo, 0, none⟩) (Kd.R_far (p := ⟨qo, 2, none⟩) (Kd.R_far (p := ⟨qo, 1, none⟩) (Kd.R_far (p := ⟨qo, 0, none⟩) (Kd.R_mono ql.out (fun k_ hk => (⟨hk, hk.2⟩ : _ ∧ k_ ≠ qo))) (fun _ hk => hk.2) (.string ((rd_T45 qa qh).f0))) (fun _ hk => hk.2) (.string ((rd_T45 qa qh).f1))) (fun _ hk => hk.2) (.bool ((rd_T45 qa qh).f2))) (fun _ hk => hk.2) (.string ((a1 ++ (⟨#[47]⟩ : ByteArray)) ++ ((rd_T45 qa qh).f0)))) (fun _ h_ => h_.1))))) (g := qo) (o := .cells #[.string ((a1 ++ (⟨#[47]⟩ : ByteArray)) ++ ((rd_T45 qa qh).f0)), .string ((rd_T45 qa qh).f1), .bool ((rd_T45 qa qh).f2)] 45 (0, 0)) (by (with_reducible repeat (first | apply blk_drewN | apply blk_drew | apply blk_alloc)); refine blk_put (cs := #[.string ((rd_T45 qa qh).f0), .string ((rd_T45 qa qh).f1), .bool ((rd_T45 qa qh).f2)]) ?_ 0 _ rfl; (with_reducible repeat (first | apply blk_drewN | apply blk_drew | apply blk_alloc)); refine blk_put (cs := #[.string ((rd_T45 qa qh).f0), .string ((rd_T45 qa qh).f1), .bool false]) ?_ 2 _ rfl; (with_reducible repeat (first | apply blk_drewN | apply blk_drew | apply blk_alloc)); refine blk_put (cs := #[.string ((rd_T45 qa qh).f0), .string (⟨#[]⟩ : ByteArray), .bool false]) ?_ 1 _ rfl; (with_reducible repeat (first | apply blk_drewN | apply blk_drew | apply blk_alloc)); refine blk_put (cs := #[.string (⟨#[]⟩ : ByteArray), .string (⟨#[]⟩ : ByteArray), .bool false]) ?_ 0 _ rfl; (with_reducible repeat (first | apply blk_drewN | apply blk_drew | apply blk_alloc)); exact BK723.out)) (below_size (be5 HB.out qg.out qi.out qk.out qp.out GE723.out))) (blk_below (g := gb706) (o := .cells #[.slice A0_0 qb.length c0_0] 29 (0, 0)) (bkf qc.out NB706_723.out) hb) (blk_below (g := gb707) (o := .cells #[.slice (some ad722) qa.length c2_0] 29 (0, 0)) (bkf qd.out NB707_723.out) hb) (blk_below (g := qt) (o := .cells #[.slice none 0 0] 29 (0, 0)) (bkf qf.out NB708_723.out) hb) (blk_below (g := gb714) (o := .cells #[.slice Ao105 qr.length co105] 29 (0, 0)) (bkf qj.out NB714_723.out) hb) (blk_below (g := qo) (o := .cells #[.string ((a1 ++ (⟨#[47]⟩ : ByteArray)) ++ ((rd_T45 qa qh).f0)), .string ((rd_T45 qa qh).f1), .bool ((rd_T45 qa qh).f2)] 45 (0, 0)) (by (with_reducible repeat (first | apply blk_drewN | apply blk_drew | apply blk_alloc)); refine blk_put (cs := #[.string ((rd_T45 qa qh).f0), .string ((rd_T45 qa qh).f1), .bool ((rd_T45 qa qh).f2)]) ?_ 0 _ rfl; (with_reducible repeat (first | apply blk_drewN | apply blk_drew | apply blk_alloc)); refine blk_put (cs := #[.string ((rd_T45 qa qh).f0), .string ((rd_T45 qa qh).f1), .bool false]) ?_ 2 _ rfl; (with_reducible repeat (first | apply blk_drewN | apply blk_drew | apply blk_alloc)); refine blk_put (cs := #[.string ((rd_T45 qa qh).f0), .string (⟨#[]⟩ : ByteArray), .bool false]) ?_ 1 _ rfl; (with_reducible repeat (first | apply blk_drewN | apply blk_drew | apply blk_alloc)); refine blk_put (cs := #[.string (⟨#[]⟩ : ByteArray), .string (⟨#[]⟩ : ByteArray), .bool false]) ?_ 0 _ rfl; (with_reducible repeat (first | apply blk_drewN | apply blk_drew | apply blk_alloc)); exact BK723.out) hb) (below_step (be5 HB.out qg.out qi.out qk.out qp.out GE723.out) hb) ?_; clear ql qc qd qf qj BK723 HB; intro ql HO726 qc qd qf qj BK723 HB; (try clear hb); (try clear hb2); (try clear hk); (try clear hi); (try clear ho0); obtain ⟨Ao107, co107, eo107⟩ := Kd.R_slice HO726.out; subst eo107; have ⟨hcz108_0, hfz108_0⟩ := Yc1 qj.out))
                go_roundg k4
                case measure => have := HJ3.out; have := HK2.out; have := HK3.out; have := HK4.out; omega
                case rel => exact ⟨(wrap64 (qh + 1)), (t724), (.slice Ao107 t724.length co107), Ye1, H', ⟨by have := HJ3.out; have := HK2.out; have := HK3.out; have := HK4.out; omega⟩, ⟨by (with_reducible repeat (first | apply Kd.R_alloc | apply Kd.R_drewN | apply Kd.R_drew)); exact Kd.R_mono (Kd.R_far (p := ⟨gb714, 0, none⟩) (Kd.R_types HO726.out qj.out (by decide)) (fun _ hk => hk.2) (.slice Ao107 t724.length co107)) (fun _ hk => trivial)⟩, ⟨bkf qc.out q0.out⟩, ⟨bkf qd.out q2.out⟩, ⟨bkf qf.out q1.out⟩, ⟨by (with_reducible repeat (first | apply blk_drewN | apply blk_drew | apply blk_alloc)); refine blk_put (cs := #[.slice Ao105 qr.length co105]) ?_ 0 _ rfl; (with_reducible repeat (first | apply blk_drewN | apply blk_drew | apply blk_alloc)); exact qj.out⟩, ⟨be5 HB.out qg.out qi.out qk.out qp.out GE723.out⟩⟩
               ·rw [if_neg c90] at H
                exact absurd H (by simp)
              ·rw [if_neg c89] at H
               exact absurd H (by simp)
             ·rw [if_neg c88] at H
              exact absurd H (by simp)
            ·rw [if_neg c87] at H
             have c87b0 : decide (qh < (qa.length : Int)) = false := decide_eq_false c87; clear c87
             by_cases c109 : (qr.length : Int) > 100
             ·rw [if_pos c109] at H
              have c109b0 : decide (100 < (qr.length : Int)) = true := decide_eq_true c109; have c109b1 : decide (100 < qr.length) = true := decide_eq_true (by omega); clear c109; simp only [Option.some.injEq, Prod.mk.injEq] at H; obtain ⟨rfl, rfl⟩ := H; have hnb110 := qv.out; have hnc110 := qu.out; have hnb111 := qy.out; have hnc111 := qz.out; have hnb112 := q2.out; have hnc112 := q5.out; have ⟨hcz113_0, hfz113_0⟩ := Yc1 qd.out; have hnb114 := q3.out; have hnc114 := q0.out; have hnb115 := q4.out; have hnc115 := q1.out; have ⟨hcz116_0, hfz116_0⟩ := Yc1 qj.out; obtain ⟨Ao117, co117, eo117⟩ := Kd.R_slice ql.out; subst eo117; have hnb118 := qx.out; have hnc118 := qw.out; have ⟨hcz119_0, hfz119_0⟩ := Yc1 qf.out
              go_wp2
              refine bodyPost_ret (results_ct rfl _ _ qt 29 #[.slice none 0 0] (0, 0) _ rfl (by (with_reducible repeat (first | apply blk_drewN | apply blk_drew | apply blk_alloc)); refine blk_put (cs := #[.slice none 0 0]) ?_ 0 _ rfl; (with_reducible repeat (first | apply blk_drewN | apply blk_drew | apply blk_alloc)); exact qf.out) Tryd.underlying29 rfl (by kernel_rfl)) rfl ?_; exact ⟨_, Ye2, nl, (by first | exact be4 HB.out qg.out qi.out qk.out qp.out | exact be3 HB.out qg.out qi.out qk.out | exact be2 HB.out qg.out qi.out)⟩
             ·rw [if_neg c109] at H
              have c109b0 : decide (100 < (qr.length : Int)) = false := decide_eq_false c109; have c109b1 : decide (100 < qr.length) = false := decide_eq_false (by omega); clear c109; simp only [Option.some.injEq, Prod.mk.injEq] at H; obtain ⟨rfl, rfl⟩ := H; have hnb120 := qv.out; have hnc120 := qu.out; have hnb121 := qy.out; have hnc121 := qz.out; have hnb122 := q2.out; have hnc122 := q5.out; have ⟨hcz123_0, hfz123_0⟩ := Yc1 qd.out; have hnb124 := q3.out; have hnc124 := q0.out; have hnb125 := q4.out; have hnc125 := q1.out; have ⟨hcz126_0, hfz126_0⟩ := Yc1 qj.out; obtain ⟨Ao127, co127, eo127⟩ := Kd.R_slice ql.out; subst eo127; have hnb128 := qx.out; have hnc128 := qw.out; have ⟨hcz129_0, hfz129_0⟩ := Yc1 qf.out
              go_wp2
              refine bodyPost_ret (results_ct rfl _ _ qt 29 #[.slice Ao127 qr.length co127] (0, 0) _ rfl (by (with_reducible repeat (first | apply blk_drewN | apply blk_drew | apply blk_alloc)); refine blk_put (cs := #[.slice none 0 0]) ?_ 0 _ rfl; (with_reducible repeat (first | apply blk_drewN | apply blk_drew | apply blk_alloc)); exact qf.out) Tryd.underlying29 rfl (by kernel_rfl)) rfl ?_; exact ⟨_, Ye2, by (with_reducible repeat (first | apply Kd.R_alloc | apply Kd.R_drewN | apply Kd.R_drew)); exact Kd.R_mono (Kd.R_far (p := ⟨qt, 0, none⟩) (Kd.R_types ql.out qf.out (by decide)) (fun _ hk => hk.2) (.slice Ao127 qr.length co127)) (fun _ hk => trivial), (by first | exact be4 HB.out qg.out qi.out qk.out qp.out | exact be3 HB.out qg.out qi.out qk.out | exact be2 HB.out qg.out qi.out)⟩

end Go.Proofs.YtkdghhkpmkfjhaaDoor.P


namespace Go.Proofs.YtkdghhkpmkfjhaaDoor.P
open Go.RowKit Go.Proofs.YtkdghhkpmkfjhaaDoorW.PrintWords Go.Proofs.YtkdghhkpmkfjhaaDoorW.PrintLast Go.Proofs.YtkdghhkpmkfjhaaDoorW.PrintMore
attribute [local go_sem] max2_int min2_int max_two min_two max_three min_three max_four min_four
set_option linter.unusedVariables false
set_option linter.unusedSimpArgs false

/-! ### impl_find: function 60 -/
def impl_find.g (l : List S45) (path : ByteArray) (i : Nat) : Int := Go.Lib.compareBytes path.data.toList (rd_T45 l (i : Int)).f0.data.toList
def impl_find.l0 (g : Nat → Int) : Nat → Nat → Nat → Option Nat
 | 0, _, _ => none
 | k + 1, i, j => if i < j then (if g ((i + j) / 2) > 0 then impl_find.l0 g k ((i + j) / 2 + 1) j else impl_find.l0 g k i ((i + j) / 2)) else some i
def impl_find.f (k : Nat) (l0 : List S45) (a1 : ByteArray) : Option (Int × Bool) := if l0.length ≤ 4611686018427387904 then ((impl_find.l0 (impl_find.g l0 a1) k 0 l0.length).bind fun i => some ((i : Int), if i < l0.length then (impl_find.g l0 a1 i == 0) else false)) else none
theorem impl_find.mono_l (g : Nat → Int) : ∀ k i j, LeO (impl_find.l0 g k i j) (impl_find.l0 g (k + 1) i j)
 | 0, _, _ => fun r h => by simp [impl_find.l0] at h
 | k + 1, i, j => by
  unfold impl_find.l0
  exact LeO.ite (LeO.ite (impl_find.mono_l g k _ _) (impl_find.mono_l g k _ _)) (LeO.refl _)
theorem impl_find.mono : ∀ l0 a1 k, LeO (impl_find.f k l0 a1) (impl_find.f (k + 1) l0 a1) := fun l0 a1 k => by
 unfold impl_find.f
 exact LeO.ite (LeO.bind (impl_find.mono_l _ _ _ _) (fun _ => LeO.refl _)) (LeO.refl _)
set_option maxHeartbeats 1000000 in
set_option maxRecDepth 100000 in
theorem impl_find.cmp_calls (A : Option Addr) (c : Nat) (l : List S45) (path : ByteArray) (Bp Bt : Nat) (W : World) (hp : W.cell? ⟨Bp, 0, none⟩ = some (.string path)) (ht : W.cell? ⟨Bt, 0, none⟩ = some (.slice A l.length c)) (hc : Kd.C k45 W A l.length l) (i : Nat) (hi : i < l.length) :
  Calls Tryd.prog 81 #[.int .i64 (i : Int), .pointer (some ⟨Bp, 0, none⟩), .pointer (some ⟨Bt, 0, none⟩)] W fun e w' => e = .returned (.int .i64 (impl_find.g l path i)) ∧ ∃ nd, w' = W.drewN nd := by
 obtain ⟨ad, e1, hx0⟩ := at_T45 hc (i : Int) (by omega) (by omega); subst e1; have hu29 := Tryd.underlying29; have hu45 := Tryd.underlying45; obtain ⟨hx1, hx2, hx3⟩ := hx0
 rw [Int.toNat_natCast] at hx1 hx2 hx3
 have c1 : decide ((i : Int) < (l.length : Int)) = true := decide_eq_true (by omega); have c2 : decide (0 ≤ (i : Int)) = true := decide_eq_true (by omega); have c3 : decide (i < l.length) = true := decide_eq_true hi
 go_enter Tryd.func81, Tryd.ntmps81
 go_wp2
 go_quiet (first | (go_at_call 82; exact Calls.quiet_of_same (Tryd.strings_Compare path (rd_T45 l (i : Int)).f0 _)))
 go_wp2
 go_ret
 exact ⟨rfl, nq, rfl⟩
set_option maxHeartbeats 1000000 in
set_option maxRecDepth 100000 in
theorem impl_find.calls (k : Nat) (A0_0 : Option Addr) (c0_0 : Nat) (qa : List S45) (a1 : ByteArray) (r1 : Int) (r2 : Bool) (w : World) (hr0_0 : Kd.C k45 w A0_0 qa.length qa) (hc0_0 : qa.length ≤ c0_0) (h : impl_find.f k qa a1 = some (r1, r2)) :
  Calls Tryd.prog 60 #[.agg #[.slice A0_0 qa.length c0_0], .string a1] w fun e w' => e = .returned (.tuple #[.int .i64 r1, .bool r2]) ∧ Below w.heap.size w w' := by
 have hu29 := Tryd.underlying29; have hu45 := Tryd.underlying45
 unfold impl_find.f at h
 have hl62 : qa.length ≤ 4611686018427387904 := by
  refine Classical.byContradiction fun hn => ?_
  rw [if_neg hn] at h
  cases h
 rw [if_pos hl62] at h
 have HL := Aside0.mk hl62; clear hl62; obtain ⟨m, hm, h2⟩ := Option.bind_eq_some_iff.1 h; obtain ⟨rfl, rfl⟩ := Prod.mk.inj (Option.some.inj h2); clear h h2; have HM := Aside0.mk hm; clear hm
 go_enter Tryd.func60, Tryd.ntmps60
 go_wp2
 have ht : ((w.alloc (.cells #[.slice A0_0 qa.length c0_0] 29)).alloc (.cells #[.string a1] 9)).cell? ⟨w.heap.size, 0, none⟩ = some (.slice A0_0 qa.length c0_0) := by simp
 have hp : ((w.alloc (.cells #[.slice A0_0 qa.length c0_0] 29)).alloc (.cells #[.string a1] 9)).cell? ⟨w.heap.size + 1, 0, none⟩ = some (.string a1) := by simp
 have hc : Kd.C k45 ((w.alloc (.cells #[.slice A0_0 qa.length c0_0] 29)).alloc (.cells #[.string a1] 9)) A0_0 qa.length qa := Kd.C_alloc (Kd.C_alloc hr0_0 _) _; have hb : Below w.heap.size w ((w.alloc (.cells #[.slice A0_0 qa.length c0_0] 29)).alloc (.cells #[.string a1] 9)) := below_alloc (below_alloc (Below.refl _ _) _) _; generalize ((w.alloc (.cells #[.slice A0_0 qa.length c0_0] 29)).alloc (.cells #[.string a1] 9)) = W at ht hp hc hb ⊢
 have HC := fun (nd i : Nat) (hi : i < qa.length) => impl_find.cmp_calls A0_0 c0_0 qa a1 (w.heap.size + 1) w.heap.size (W.drewN nd) hp ht (Kd.C_drewN hc nd) i hi
 clear hc hp ht hr0_0
 go_loopg [4, 6] k (fun kq v4 v6 w' => ∃ (i j nd : Nat), v4 = .int .i64 (i : Int) ∧ v6 = .int .i64 (j : Int) ∧ Aside0 (impl_find.l0 (impl_find.g qa a1) kq i j = some m) ∧ Aside0 (j ≤ qa.length) ∧ w' = W.drewN nd)
 case atStart => exact ⟨0, qa.length, 0, rfl, rfl, HM, ⟨Nat.le_refl _⟩, rfl⟩
 case round =>
  clear HM; obtain ⟨i, j, nd, rfl, rfl, HM, HJ, rfl⟩ := hrel
  cases gk with
  | zero => exact absurd HM.out (by simp [impl_find.l0])
  | succ k1 =>
   have H := HM.out; clear HM
   unfold impl_find.l0 at H
   by_cases hij : i < j
   ·rw [if_pos hij] at H
    have c1 : decide ((i : Int) < (j : Int)) = true := decide_eq_true (by omega); have c2 : decide (i < j) = true := decide_eq_true hij
    have he : wrap64 (IntKind.u64.wrap (wrap64 ((i : Int) + (j : Int))) / 2) = (((i + j) / 2 : Nat) : Int) := by
     have hl := HL.out; have hj := HJ.out
     have e1 : wrap64 ((i : Int) + (j : Int)) = (i : Int) + (j : Int) := by unfold wrap64; omega
     have e2 : IntKind.u64.wrap ((i : Int) + (j : Int)) = (i : Int) + (j : Int) := by simp [IntKind.wrap, IntKind.bits, IntKind.signed]; omega
     rw [e1, e2]
     unfold wrap64
     omega
    have hh : (i + j) / 2 < qa.length := by have := HJ.out; omega
    by_cases hg : impl_find.g qa a1 ((i + j) / 2) > 0
    ·rw [if_pos hg] at H
     have d1 : decide (0 < impl_find.g qa a1 ((i + j) / 2)) = true := decide_eq_true hg; have H' := Aside0.mk H; clear H
     go_wp2_with (go_at_call 81; rw [he]; refine (HC nd _ hh).mono ?_; rintro e w' ⟨rfl, nd2, rfl⟩)
     go_roundg k1
     case measure => omega
     case rel => exact ⟨(i + j) / 2 + 1, j, nd + nd2, by rw [show wrap64 (((i : Int) + (j : Int)) / 2 + 1) = (((i + j) / 2 + 1 : Nat) : Int) from by have := HL.out; have := HJ.out; unfold wrap64; omega], rfl, H', HJ, rfl⟩
    ·rw [if_neg hg] at H
     have d1 : decide (0 < impl_find.g qa a1 ((i + j) / 2)) = false := decide_eq_false hg; have H' := Aside0.mk H; clear H
     go_wp2_with (go_at_call 81; rw [he]; refine (HC nd _ hh).mono ?_; rintro e w' ⟨rfl, nd2, rfl⟩)
     go_roundg k1
     case measure => omega
     case rel => exact ⟨i, (i + j) / 2, nd + nd2, rfl, by rw [show ((i : Int) + (j : Int)) / 2 = (((i + j) / 2 : Nat) : Int) from by omega], H', ⟨by have := HJ.out; omega⟩, rfl⟩
   ·rw [if_neg hij] at H
    obtain rfl := Option.some.inj H; have c1 : decide ((i : Int) < (j : Int)) = false := decide_eq_false (by omega); have c2 : decide (i < j) = false := decide_eq_false hij
    by_cases hi : i < qa.length
    ·have d1 : decide ((i : Int) < (qa.length : Int)) = true := decide_eq_true (by omega); have d2 : decide (i < qa.length) = true := decide_eq_true hi
     go_wp2_with (go_at_call 81; refine (HC nd i hi).mono ?_; rintro e w' ⟨rfl, nd2, rfl⟩)
     go_ret2
     exact ⟨by simp [hi], pw_below_drewN hb _⟩
    ·have d1 : decide ((i : Int) < (qa.length : Int)) = false := decide_eq_false (by omega); have d2 : decide (i < qa.length) = false := decide_eq_false hi
     go_wp2
     go_ret2
     exact ⟨by simp [hi], pw_below_drewN hb _⟩


end Go.Proofs.YtkdghhkpmkfjhaaDoor.P

