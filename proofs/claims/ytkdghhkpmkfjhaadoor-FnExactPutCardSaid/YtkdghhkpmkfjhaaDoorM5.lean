/- Several texts of this claim in one file: YtkdghhkpmkfjhaaDoorPSpecL4PartOk, YtkdghhkpmkfjhaaDoorPSpecL4Parts, YtkdghhkpmkfjhaaDoorPSpecL4Ok, YtkdghhkpmkfjhaaDoorPSpecValidPath, YtkdghhkpmkfjhaaDoorPSpecValidTree, YtkdghhkpmkfjhaaDoorPSpecPut, YtkdghhkpmkfjhaaDoorPImplFind. -/
import Derived.Test.YtkdghhkpmkfjhaaDoorM2
import Derived.Test.YtkdghhkpmkfjhaaDoorM3
import Derived.Test.YtkdghhkpmkfjhaaDoorM4
import Derived.Deep.QuietTactic
namespace Go.Proofs.YtkdghhkpmkfjhaaDoor.P
open Go.RowKit Go.Proofs.YtkdghhkpmkfjhaaDoorW.PrintWords Go.Proofs.YtkdghhkpmkfjhaaDoorW.PrintLast Go.Proofs.YtkdghhkpmkfjhaaDoorW.PrintMore
attribute [local go_sem] max2_int min2_int max_two min_two max_three min_three max_four min_four
set_option linter.unusedVariables false
set_option linter.unusedSimpArgs false

/-! ### spec_l4PartOk: function 92 -/
mutual
def spec_l4PartOk.j0 : Nat → ByteArray → Bool → Bool → Option (Bool)
 | 0, _, _, _ => none
 | k + 1, x0, x1, x17 => if x17 = true then (some false) else (spec_l4PartOk.l0 k x0 x1 0)
def spec_l4PartOk.l0 : Nat → ByteArray → Bool → Int → Option (Bool)
 | 0, _, _, _ => none
 | k + 1, x0, x1, x5 => if x5 < (x0.size : Int) then (if 0 ≤ x5 then (if (bt x0 x5) < 33 then (some false) else (if (bt x0 x5) > 126 then (some false) else (if (bt x0 x5) = 47 then (some false) else (if (bt x0 x5) = 34 then (some false) else (if x1 = true then (spec_l4PartOk.l0 k x0 x1 (wrap64 (x5 + 1))) else (if (bt x0 x5) = 42 then (some false) else (if (bt x0 x5) = 63 then (some false) else (spec_l4PartOk.l0 k x0 x1 (wrap64 (x5 + 1)))))))))) else (none)) else (some true)
end
def spec_l4PartOk.f (k : Nat) (a0 : ByteArray) (a1 : Bool) : Option (Bool) := (spec_l1In.f (a0.size : Int) 1 20).bind fun t115 => (if t115 = true then (if a0.toList = ([46] : List UInt8) then (spec_l4PartOk.j0 k a0 a1 true) else (spec_l4PartOk.j0 k a0 a1 (a0.toList == ([46, 46] : List UInt8)))) else (spec_l4PartOk.j0 k a0 a1 true))
theorem spec_l4PartOk.mono_l : ∀ k, (∀ y0 y1 y2, LeO (spec_l4PartOk.j0 k y0 y1 y2) (spec_l4PartOk.j0 (k + 1) y0 y1 y2)) ∧ (∀ y0 y1 y2, LeO (spec_l4PartOk.l0 k y0 y1 y2) (spec_l4PartOk.l0 (k + 1) y0 y1 y2))
 | 0 => ⟨fun _ _ _ r h => by simp [spec_l4PartOk.j0] at h, fun _ _ _ r h => by simp [spec_l4PartOk.l0] at h⟩
 | k + 1 => by
  obtain ⟨ih0, ih1⟩ := spec_l4PartOk.mono_l k; refine ⟨?_, ?_⟩
  ·intro y0 y1 y2
   unfold spec_l4PartOk.j0
   repeat' first
   | (with_reducible exact ih0 _ _ _)
   | (with_reducible exact ih1 _ _ _)
   | (with_reducible exact LeO.refl _)
   | (with_reducible exact LeO.none _)
   | (with_reducible refine LeO.ite ?_ ?_)
   | (with_reducible refine LeO.bind ?_ (fun _ => ?_))
   | exact ih0 _ _ _
   | exact ih1 _ _ _
   | exact LeO.none _
   | refine LeO.ite ?_ ?_
   | refine LeO.bind ?_ (fun _ => ?_)
  ·intro y0 y1 y2
   unfold spec_l4PartOk.l0
   repeat' first
   | (with_reducible exact ih0 _ _ _)
   | (with_reducible exact ih1 _ _ _)
   | (with_reducible exact LeO.refl _)
   | (with_reducible exact LeO.none _)
   | (with_reducible refine LeO.ite ?_ ?_)
   | (with_reducible refine LeO.bind ?_ (fun _ => ?_))
   | exact ih0 _ _ _
   | exact ih1 _ _ _
   | exact LeO.none _
   | refine LeO.ite ?_ ?_
   | refine LeO.bind ?_ (fun _ => ?_)
theorem spec_l4PartOk.mono : ∀ a0 a1 k, LeO (spec_l4PartOk.f k a0 a1) (spec_l4PartOk.f (k + 1) a0 a1) := by
 intro a0 a1 k; obtain ⟨ih0, ih1⟩ := spec_l4PartOk.mono_l k
 unfold spec_l4PartOk.f
 repeat' first
   | (with_reducible exact ih0 _ _ _)
   | (with_reducible exact ih1 _ _ _)
   | (with_reducible exact LeO.refl _)
   | (with_reducible exact LeO.none _)
   | (with_reducible refine LeO.ite ?_ ?_)
   | (with_reducible refine LeO.bind ?_ (fun _ => ?_))
   | exact ih0 _ _ _
   | exact ih1 _ _ _
   | exact LeO.none _
   | refine LeO.ite ?_ ?_
   | refine LeO.bind ?_ (fun _ => ?_)
set_option maxHeartbeats 8000000 in
set_option maxRecDepth 100000 in
theorem spec_l4PartOk.calls (k : Nat) (a0 : ByteArray) (a1 : Bool) (r : Bool) (w : World) (h : spec_l4PartOk.f k a0 a1 = some r) :
  Calls Tryd.prog 92 #[.string a0, .bool a1] w fun e w' => e = .returned (.bool r) ∧ Drawn0 w w' := by
 have H : ((spec_l1In.f (a0.size : Int) 1 20).bind fun t115 => (if t115 = true then (if a0.toList = ([46] : List UInt8) then (spec_l4PartOk.j0 k a0 a1 true) else (spec_l4PartOk.j0 k a0 a1 (a0.toList == ([46, 46] : List UInt8)))) else (spec_l4PartOk.j0 k a0 a1 true))) = some r := h; clear h; have HC3 := Aside0.mk H; clear H
 go_enter Tryd.func92, Tryd.ntmps92
 go_upto_region 1 with (fail)
 go_cut [17] (fun v17 wc => ∃ (kq : Nat) (x17_2 : Bool), v17 = .bool x17_2 ∧ Aside0 (spec_l4PartOk.j0 kq a0 a1 x17_2 = some r) ∧ Aside0 (kq ≤ k) ∧ Drawn0 w wc)
 case first =>
  have H := HC3.out; clear HC3; replace H := Option.bind_eq_some_iff.mp H; obtain ⟨t115, A40, H⟩ := H; replace H : (if t115 = true then (if a0.toList = ([46] : List UInt8) then (spec_l4PartOk.j0 k a0 a1 true) else (spec_l4PartOk.j0 k a0 a1 (a0.toList == ([46, 46] : List UInt8)))) else (spec_l4PartOk.j0 k a0 a1 true)) = some r := H; have A4 := Aside0.mk A40; clear A40
  by_cases c5 : t115 = true
  ·subst c5
   have H1 : (if a0.toList = ([46] : List UInt8) then (spec_l4PartOk.j0 k a0 a1 true) else (spec_l4PartOk.j0 k a0 a1 (a0.toList == ([46, 46] : List UInt8)))) = some r := by rw [if_pos rfl] at H; exact H
   clear H; have H := H1; clear H1
   by_cases c6 : a0.toList = ([46] : List UInt8)
   ·rw [if_pos c6] at H
    have c6b0 : (a0.toList == ([46] : List UInt8)) = true := beq_iff_eq.mpr c6; have c6b1 : (a0.toList != ([46] : List UInt8)) = false := bne_eq_false_iff_eq.mpr c6; clear c6; (first | rw [c6b0] | (simp only [i64_w, i32_w]; rw [c6b0]) | skip); have H' := Aside0.mk H; clear H
    go_wp2_with (first | ((with_reducible refine gc 107 rfl ?_); refine gl (some 8) _ (#[.int .i64 (a0.size : Int), .int .i64 1, .int .i64 20]) Tryd.func107 ?_; (with_reducible refine (spec_l1In.calls (a0.size : Int) 1 20 true _ A4.out).mono ?_); rintro e w' ⟨rfl, ⟨nd, rfl⟩⟩; refine ⟨_, rfl, ?_⟩))
    go_meet
    case rel => exact ⟨_, (true), Ye1, H', ⟨by first | omega | exact Nat.le_refl _⟩, dz⟩
   ·rw [if_neg c6] at H
    have c6b0 : (a0.toList == ([46] : List UInt8)) = false := beq_eq_false_iff_ne.mpr c6; have c6b1 : (a0.toList != ([46] : List UInt8)) = true := bne_iff_ne.mpr c6; (first | rw [c6b0] | (simp only [i64_w, i32_w]; rw [c6b0]) | skip); have H' := Aside0.mk H; clear H
    go_wp2_with (first | ((with_reducible refine gc 107 rfl ?_); refine gl (some 8) _ (#[.int .i64 (a0.size : Int), .int .i64 1, .int .i64 20]) Tryd.func107 ?_; (with_reducible refine (spec_l1In.calls (a0.size : Int) 1 20 true _ A4.out).mono ?_); rintro e w' ⟨rfl, ⟨nd, rfl⟩⟩; refine ⟨_, rfl, ?_⟩))
    go_meet
    case rel => exact ⟨_, ((a0.toList == ([46, 46] : List UInt8))), Ye1, H', ⟨by first | omega | exact Nat.le_refl _⟩, dz⟩
  ·replace c5 := Bool.eq_false_iff.mpr c5; subst c5
   have H1 : (spec_l4PartOk.j0 k a0 a1 true) = some r := by rw [if_neg (show ¬ (false = true) by decide)] at H; exact H
   clear H; have H := H1; clear H1; have H' := Aside0.mk H; clear H
   go_wp2_with (first | ((with_reducible refine gc 107 rfl ?_); refine gl (some 8) _ (#[.int .i64 (a0.size : Int), .int .i64 1, .int .i64 20]) Tryd.func107 ?_; (with_reducible refine (spec_l1In.calls (a0.size : Int) 1 20 false _ A4.out).mono ?_); rintro e w' ⟨rfl, ⟨nd, rfl⟩⟩; refine ⟨_, rfl, ?_⟩))
   go_meet
   case rel => exact ⟨_, (true), Ye1, H', ⟨by first | omega | exact Nat.le_refl _⟩, dz⟩
 case rest =>
  clear HC3; (try clear c1); (try clear p2); (try clear c5); (try clear c6); (try clear c6b0); (try clear c6b1); obtain ⟨kq, x17_2, rfl, HA, HJ2, ⟨mc2, rfl⟩⟩ := hcut
  cases kq with
  | zero => exact absurd HA.out (by simp [spec_l4PartOk.j0])
  | succ kj2 =>
   have H := HA.out; clear HA; simp only [spec_l4PartOk.j0] at H
   by_cases c7 : x17_2 = true
   ·subst c7
    have H1 : (some false) = some r := by rw [if_pos rfl] at H; exact H
    clear H; have H := H1; clear H1; obtain rfl := Option.some.inj H
    go_wp2
    go_ret
    exact ⟨Ye1, dz⟩
   ·replace c7 := Bool.eq_false_iff.mpr c7; subst c7
    have H1 : (spec_l4PartOk.l0 kj2 a0 a1 0) = some r := by rw [if_neg (show ¬ (false = true) by decide)] at H; exact H
    clear H; have H := H1; clear H1; have H' := Aside0.mk H; clear H
    go_wp2
    go_loopg [5] kj2 (fun kq v5 w' => ∃ (qa : Int), v5 = .int .i64 qa ∧ Aside0 (spec_l4PartOk.l0 kq a0 a1 qa = some r) ∧ Aside0 (kq ≤ kj2) ∧ Drawn0 w w')
    case atStart => exact ⟨(0), Ye1, H', ⟨Nat.le_refl _⟩, dz⟩
    case round =>
     clear H'; (try clear c1); (try clear c2); (try clear p2); (try clear c5); (try clear c6); (try clear c6b0); (try clear c6b1); (try clear c7); (try clear p2); obtain ⟨qa, rfl, HA, HK2, ⟨m2, rfl⟩⟩ := hrel
     cases gk with
     | zero => exact absurd HA.out (by simp [spec_l4PartOk.l0])
     | succ k2 =>
      have H := HA.out; clear HA; simp only [spec_l4PartOk.l0] at H
      by_cases c8 : qa < (a0.size : Int)
      ·rw [if_pos c8] at H
       have c8b0 : decide (qa < (a0.size : Int)) = true := decide_eq_true c8; clear c8
       by_cases c9 : 0 ≤ qa
       ·rw [if_pos c9] at H
        have c9b0 : decide (0 ≤ qa) = true := decide_eq_true c9; clear c9
        by_cases c11 : (bt a0 qa) < 33
        ·rw [if_pos c11] at H
         have c11b0 : decide ((bt a0 qa) < 33) = true := decide_eq_true c11; clear c11; obtain rfl := Option.some.inj H; have p10 : 0 ≤ (qa : Int) := oda; have q10 : qa < (a0.size : Int) := oda; have hx10 := bt_at a0 qa; replace p10 := eq_true p10; replace q10 := eq_true q10
         go_wp2
         go_ret
         exact ⟨Ye1, dz⟩
        ·rw [if_neg c11] at H
         have c11b0 : decide ((bt a0 qa) < 33) = false := decide_eq_false c11; clear c11
         by_cases c13 : (bt a0 qa) > 126
         ·rw [if_pos c13] at H
          have c13b0 : decide (126 < (bt a0 qa)) = true := decide_eq_true c13; clear c13; obtain rfl := Option.some.inj H; have p10 : 0 ≤ (qa : Int) := oda; have q10 : qa < (a0.size : Int) := oda; have hx10 := bt_at a0 qa; replace p10 := eq_true p10; replace q10 := eq_true q10; have p12 : 0 ≤ (qa : Int) := oda; have q12 : qa < (a0.size : Int) := oda; have hx12 := bt_at a0 qa; replace p12 := eq_true p12; replace q12 := eq_true q12
          go_wp2
          go_ret
          exact ⟨Ye1, dz⟩
         ·rw [if_neg c13] at H
          have c13b0 : decide (126 < (bt a0 qa)) = false := decide_eq_false c13; clear c13
          by_cases c15 : (bt a0 qa) = 47
          ·rw [if_pos c15] at H
           have c15b0 : ((bt a0 qa) == 47) = true := beq_iff_eq.mpr c15; have c15b1 : ((bt a0 qa) != 47) = false := bne_eq_false_iff_eq.mpr c15; clear c15; obtain rfl := Option.some.inj H; have p10 : 0 ≤ (qa : Int) := oda; have q10 : qa < (a0.size : Int) := oda; have hx10 := bt_at a0 qa; replace p10 := eq_true p10; replace q10 := eq_true q10; have p12 : 0 ≤ (qa : Int) := oda; have q12 : qa < (a0.size : Int) := oda; have hx12 := bt_at a0 qa; replace p12 := eq_true p12; replace q12 := eq_true q12; have p14 : 0 ≤ (qa : Int) := oda; have q14 : qa < (a0.size : Int) := oda; have hx14 := bt_at a0 qa; replace p14 := eq_true p14; replace q14 := eq_true q14
           go_wp2
           go_ret
           exact ⟨Ye1, dz⟩
          ·rw [if_neg c15] at H
           have c15b0 : ((bt a0 qa) == 47) = false := beq_eq_false_iff_ne.mpr c15; have c15b1 : ((bt a0 qa) != 47) = true := bne_iff_ne.mpr c15
           by_cases c17 : (bt a0 qa) = 34
           ·rw [if_pos c17] at H
            have c17b0 : ((bt a0 qa) == 34) = true := beq_iff_eq.mpr c17; have c17b1 : ((bt a0 qa) != 34) = false := bne_eq_false_iff_eq.mpr c17; clear c17; obtain rfl := Option.some.inj H; have p10 : 0 ≤ (qa : Int) := oda; have q10 : qa < (a0.size : Int) := oda; have hx10 := bt_at a0 qa; replace p10 := eq_true p10; replace q10 := eq_true q10; have p12 : 0 ≤ (qa : Int) := oda; have q12 : qa < (a0.size : Int) := oda; have hx12 := bt_at a0 qa; replace p12 := eq_true p12; replace q12 := eq_true q12; have p14 : 0 ≤ (qa : Int) := oda; have q14 : qa < (a0.size : Int) := oda; have hx14 := bt_at a0 qa; replace p14 := eq_true p14; replace q14 := eq_true q14; have p16 : 0 ≤ (qa : Int) := oda; have q16 : qa < (a0.size : Int) := oda; have hx16 := bt_at a0 qa; replace p16 := eq_true p16; replace q16 := eq_true q16
            go_wp2
            go_ret
            exact ⟨Ye1, dz⟩
           ·rw [if_neg c17] at H
            have c17b0 : ((bt a0 qa) == 34) = false := beq_eq_false_iff_ne.mpr c17; have c17b1 : ((bt a0 qa) != 34) = true := bne_iff_ne.mpr c17
            by_cases c18 : a1 = true
            ·subst c18
             have H1 : (spec_l4PartOk.l0 k2 a0 true (wrap64 (qa + 1))) = some r := by rw [if_pos rfl] at H; exact H
             clear H; have H := H1; clear H1; have H' := Aside0.mk H; clear H; have p10 : 0 ≤ (qa : Int) := oda; have q10 : qa < (a0.size : Int) := oda; have hx10 := bt_at a0 qa; replace p10 := eq_true p10; replace q10 := eq_true q10; have p12 : 0 ≤ (qa : Int) := oda; have q12 : qa < (a0.size : Int) := oda; have hx12 := bt_at a0 qa; replace p12 := eq_true p12; replace q12 := eq_true q12; have p14 : 0 ≤ (qa : Int) := oda; have q14 : qa < (a0.size : Int) := oda; have hx14 := bt_at a0 qa; replace p14 := eq_true p14; replace q14 := eq_true q14; have p16 : 0 ≤ (qa : Int) := oda; have q16 : qa < (a0.size : Int) := oda; have hx16 := bt_at a0 qa; replace p16 := eq_true p16; replace q16 := eq_true q16
             go_wp2
             go_roundg k2
             case measure => have := HJ2.out; have := HK2.out; omega
             case rel => exact ⟨(wrap64 (qa + 1)), Ye1, H', ⟨by have := HJ2.out; have := HK2.out; omega⟩, dz⟩
            ·replace c18 := Bool.eq_false_iff.mpr c18; subst c18
             have H1 : (if (bt a0 qa) = 42 then (some false) else (if (bt a0 qa) = 63 then (some false) else (spec_l4PartOk.l0 k2 a0 false (wrap64 (qa + 1))))) = some r := by rw [if_neg (show ¬ (false = true) by decide)] at H; exact H
             clear H; have H := H1; clear H1
             by_cases c20 : (bt a0 qa) = 42
             ·rw [if_pos c20] at H
              have c20b0 : ((bt a0 qa) == 42) = true := beq_iff_eq.mpr c20; have c20b1 : ((bt a0 qa) != 42) = false := bne_eq_false_iff_eq.mpr c20; clear c20; obtain rfl := Option.some.inj H; have p10 : 0 ≤ (qa : Int) := oda; have q10 : qa < (a0.size : Int) := oda; have hx10 := bt_at a0 qa; replace p10 := eq_true p10; replace q10 := eq_true q10; have p12 : 0 ≤ (qa : Int) := oda; have q12 : qa < (a0.size : Int) := oda; have hx12 := bt_at a0 qa; replace p12 := eq_true p12; replace q12 := eq_true q12; have p14 : 0 ≤ (qa : Int) := oda; have q14 : qa < (a0.size : Int) := oda; have hx14 := bt_at a0 qa; replace p14 := eq_true p14; replace q14 := eq_true q14; have p16 : 0 ≤ (qa : Int) := oda; have q16 : qa < (a0.size : Int) := oda; have hx16 := bt_at a0 qa; replace p16 := eq_true p16; replace q16 := eq_true q16; have p19 : 0 ≤ (qa : Int) := oda; have q19 : qa < (a0.size : Int) := oda; have hx19 := bt_at a0 qa; replace p19 := eq_true p19; replace q19 := eq_true q19
              go_wp2
              go_ret
              exact ⟨Ye1, dz⟩
             ·rw [if_neg c20] at H
              have c20b0 : ((bt a0 qa) == 42) = false := beq_eq_false_iff_ne.mpr c20; have c20b1 : ((bt a0 qa) != 42) = true := bne_iff_ne.mpr c20
              by_cases c22 : (bt a0 qa) = 63
              ·rw [if_pos c22] at H
               have c22b0 : ((bt a0 qa) == 63) = true := beq_iff_eq.mpr c22; have c22b1 : ((bt a0 qa) != 63) = false := bne_eq_false_iff_eq.mpr c22; clear c22; obtain rfl := Option.some.inj H; have p10 : 0 ≤ (qa : Int) := oda; have q10 : qa < (a0.size : Int) := oda; have hx10 := bt_at a0 qa; replace p10 := eq_true p10; replace q10 := eq_true q10; have p12 : 0 ≤ (qa : Int) := oda; have q12 : qa < (a0.size : Int) := oda; have hx12 := bt_at a0 qa; replace p12 := eq_true p12; replace q12 := eq_true q12; have p14 : 0 ≤ (qa : Int) := oda; have q14 : qa < (a0.size : Int) := oda; have hx14 := bt_at a0 qa; replace p14 := eq_true p14; replace q14 := eq_true q14; have p16 : 0 ≤ (qa : Int) := oda; have q16 : qa < (a0.size : Int) := oda; have hx16 := bt_at a0 qa; replace p16 := eq_true p16; replace q16 := eq_true q16; have p19 : 0 ≤ (qa : Int) := oda; have q19 : qa < (a0.size : Int) := oda; have hx19 := bt_at a0 qa; replace p19 := eq_true p19; replace q19 := eq_true q19; have p21 : 0 ≤ (qa : Int) := oda; have q21 : qa < (a0.size : Int) := oda; have hx21 := bt_at a0 qa; replace p21 := eq_true p21; replace q21 := eq_true q21
               go_wp2
               go_ret
               exact ⟨Ye1, dz⟩
              ·rw [if_neg c22] at H
               have c22b0 : ((bt a0 qa) == 63) = false := beq_eq_false_iff_ne.mpr c22; have c22b1 : ((bt a0 qa) != 63) = true := bne_iff_ne.mpr c22; have H' := Aside0.mk H; clear H; have p10 : 0 ≤ (qa : Int) := oda; have q10 : qa < (a0.size : Int) := oda; have hx10 := bt_at a0 qa; replace p10 := eq_true p10; replace q10 := eq_true q10; have p12 : 0 ≤ (qa : Int) := oda; have q12 : qa < (a0.size : Int) := oda; have hx12 := bt_at a0 qa; replace p12 := eq_true p12; replace q12 := eq_true q12; have p14 : 0 ≤ (qa : Int) := oda; have q14 : qa < (a0.size : Int) := oda; have hx14 := bt_at a0 qa; replace p14 := eq_true p14; replace q14 := eq_true q14; have p16 : 0 ≤ (qa : Int) := oda; have q16 : qa < (a0.size : Int) := oda; have hx16 := bt_at a0 qa; replace p16 := eq_true p16; replace q16 := eq_true q16; have p19 : 0 ≤ (qa : Int) := oda; have q19 : qa < (a0.size : Int) := oda; have hx19 := bt_at a0 qa; replace p19 := eq_true p19; replace q19 := eq_true q19; have p21 : 0 ≤ (qa : Int) := oda; have q21 : qa < (a0.size : Int) := oda; have hx21 := bt_at a0 qa; replace p21 := eq_true p21; replace q21 := eq_true q21
               go_wp2
               go_roundg k2
               case measure => have := HJ2.out; have := HK2.out; omega
               case rel => exact ⟨(wrap64 (qa + 1)), Ye1, H', ⟨by have := HJ2.out; have := HK2.out; omega⟩, dz⟩
       ·rw [if_neg c9] at H
        exact absurd H (by simp)
      ·rw [if_neg c8] at H
       have c8b0 : decide (qa < (a0.size : Int)) = false := decide_eq_false c8; clear c8; obtain rfl := Option.some.inj H
       go_wp2
       go_ret
       exact ⟨Ye1, dz⟩

end Go.Proofs.YtkdghhkpmkfjhaaDoor.P


namespace Go.Proofs.YtkdghhkpmkfjhaaDoor.P
open Go.RowKit Go.Proofs.YtkdghhkpmkfjhaaDoorW.PrintWords Go.Proofs.YtkdghhkpmkfjhaaDoorW.PrintLast Go.Proofs.YtkdghhkpmkfjhaaDoorW.PrintMore
attribute [local go_sem] max2_int min2_int max_two min_two max_three min_three max_four min_four
set_option linter.unusedVariables false
set_option linter.unusedSimpArgs false

/-! ### spec_l4Parts: function 85 -/
def spec_l4Parts.l0 : Nat → ByteArray → List ByteArray → Int → Int → Option (List ByteArray)
 | 0, _, _, _, _ => none
 | k + 1, x0, x3, x4, x5 => if x5 < (x0.size : Int) then (if 0 ≤ x5 then (if (bt x0 x5) = 47 then (if 0 ≤ x4 then (if x4 ≤ x5 then (if x5 ≤ (x0.size : Int) then (if x3.length < 8796093022208 then (spec_l4Parts.l0 k x0 (x3 ++ [x0.extract (x4 : Int).toNat (x5 : Int).toNat]) (wrap64 (x5 + 1)) (wrap64 (x5 + 1))) else (none)) else (none)) else (none)) else (none)) else (spec_l4Parts.l0 k x0 x3 x4 (wrap64 (x5 + 1)))) else (none)) else (if 0 ≤ x4 then (if x4 ≤ (x0.size : Int) then (if x3.length < 8796093022208 then (some (x3 ++ [x0.extract (x4 : Int).toNat x0.size])) else (none)) else (none)) else (none))
def spec_l4Parts.f (k : Nat) (a0 : ByteArray) : Option (List ByteArray) := spec_l4Parts.l0 k a0 (([] : List ByteArray)) 0 0
theorem spec_l4Parts.mono_l : ∀ k, (∀ y0 y1 y2 y3, LeO (spec_l4Parts.l0 k y0 y1 y2 y3) (spec_l4Parts.l0 (k + 1) y0 y1 y2 y3))
 | 0 => fun _ _ _ _ r h => by simp [spec_l4Parts.l0] at h
 | k + 1 => by
  have ih0 := spec_l4Parts.mono_l k
  ·intro y0 y1 y2 y3
   unfold spec_l4Parts.l0
   repeat' first
   | (with_reducible exact ih0 _ _ _ _)
   | (with_reducible exact LeO.refl _)
   | (with_reducible exact LeO.none _)
   | (with_reducible refine LeO.ite ?_ ?_)
   | (with_reducible refine LeO.bind ?_ (fun _ => ?_))
   | exact ih0 _ _ _ _
   | exact LeO.none _
   | refine LeO.ite ?_ ?_
   | refine LeO.bind ?_ (fun _ => ?_)
theorem spec_l4Parts.mono : ∀ a0 k, LeO (spec_l4Parts.f k a0) (spec_l4Parts.f (k + 1) a0) := by
 intro a0 k; have ih0 := spec_l4Parts.mono_l k
 unfold spec_l4Parts.f
 repeat' first
   | (with_reducible exact ih0 _ _ _ _)
   | (with_reducible exact LeO.refl _)
   | (with_reducible exact LeO.none _)
   | (with_reducible refine LeO.ite ?_ ?_)
   | (with_reducible refine LeO.bind ?_ (fun _ => ?_))
   | exact ih0 _ _ _ _
   | exact LeO.none _
   | refine LeO.ite ?_ ?_
   | refine LeO.bind ?_ (fun _ => ?_)
set_option maxHeartbeats 8000000 in
set_option maxRecDepth 100000 in
theorem spec_l4Parts.calls (k : Nat) (a0 : ByteArray) (r : List ByteArray) (w : World) (h : spec_l4Parts.f k a0 = some r) :
  Calls Tryd.prog 85 #[.string a0] w fun e w' => ∃ v0_ : Value, e = .returned (v0_) ∧ Kd.R Kd.string 9 w' w.heap.size (fun _ => True) v0_ r ∧ Below w.heap.size w w' := by
 have HB := Aside0.mk (Below.refl w.heap.size w); have H : (spec_l4Parts.l0 k a0 (([] : List ByteArray)) 0 0) = some r := h; clear h
 obtain ⟨y106, hy106⟩ : ∃ y_ : List ByteArray, y_ = (([] : List ByteArray)) := ⟨_, rfl⟩
 replace H : (spec_l4Parts.l0 k a0 y106 0 0) = some r := by first | (rw [hy106]; with_reducible exact H) | (have H2_ := (Option.bind_some _ _).symm.trans H; rw [hy106]; with_reducible exact H2_) | (have H2_ := (Option.bind_some _ _).symm.trans H; with_reducible exact H2_) | with_reducible exact H | (rw [hy106]; exact H) | exact H
 have Ny106 := Aside0.mk hy106; clear hy106; have H' := Aside0.mk H; clear H
 go_enter Tryd.func85, Tryd.ntmps85
 go_wp2_with (first | ((with_reducible refine gd 6 rfl ?_); refine Kd.R_lit Kd.string _ 9 ?hg (N := 6) ?hd (xs := ([] : List ByteArray)) (inner := []) (ok := fun _ => True) (okp := fun _ => True) ?hr ?hp (fun _ hk => hk) trivial (Below.refl _ _) (Nat.le_refl _) (by simp) ?_; (case hd => rfl); (case hg => rfl); (case hr => first | (go_simp; done) | (go_simp; rfl)); (case hp => exact (Reps.none _ _)); intro v107 w2 ho3 hb hg_ hnew_; clear hg_ hnew_; (first | rw [← Ny106.out] at ho3 | (simp only [Int.reduceToNat] at ho3; rw [← Ny106.out] at ho3)); refine Ya2 (Kd.R_lower ho3 (below_size (be HB.out))) (below_step (be HB.out) hb) ?_; clear HB; intro HO108 HB; clear hb ho3))
 go_loopg [3, 4, 5] k (fun kq v3 v4 v5 w' => ∃ (x3_1 : List ByteArray) (x4_1 : Int) (qa : Int), v4 = .int .i64 x4_1 ∧ v5 = .int .i64 qa ∧ Aside0 (spec_l4Parts.l0 kq a0 x3_1 x4_1 qa = some r) ∧ Aside0 (kq ≤ k) ∧ Aside0 (Kd.R Kd.string 9 w' w.heap.size (fun _ => True) v3 x3_1) ∧ Aside0 (Below w.heap.size w w'))
 case atStart => exact ⟨(y106), (0), (0), Ye1, Ye1, H', ⟨Nat.le_refl _⟩, ⟨kr HO108.out⟩, ⟨be HB.out⟩⟩
 case round =>
  clear H'; (try clear p2); obtain ⟨x3_1, x4_1, qa, rfl, rfl, HA, HK1, HO_3, HB⟩ := hrel
  cases gk with
  | zero => exact absurd HA.out (by simp [spec_l4Parts.l0])
  | succ k1 =>
   have H := HA.out; clear HA; simp only [spec_l4Parts.l0] at H
   by_cases c4 : qa < (a0.size : Int)
   ·rw [if_pos c4] at H
    have c4b0 : decide (qa < (a0.size : Int)) = true := decide_eq_true c4; clear c4
    by_cases c5 : 0 ≤ qa
    ·rw [if_pos c5] at H
     have c5b0 : decide (0 ≤ qa) = true := decide_eq_true c5; clear c5
     by_cases c7 : (bt a0 qa) = 47
     ·rw [if_pos c7] at H
      have c7b0 : ((bt a0 qa) == 47) = true := beq_iff_eq.mpr c7; have c7b1 : ((bt a0 qa) != 47) = false := bne_eq_false_iff_eq.mpr c7; clear c7
      by_cases c8 : 0 ≤ x4_1
      ·rw [if_pos c8] at H
       have c8b0 := eq_true c8; have c8b1 : decide (0 ≤ x4_1) = true := decide_eq_true c8; clear c8
       by_cases c9 : x4_1 ≤ qa
       ·rw [if_pos c9] at H
        have c9b0 := eq_true c9; have c9b1 : decide (x4_1 ≤ qa) = true := decide_eq_true c9; clear c9
        by_cases c10 : qa ≤ (a0.size : Int)
        ·rw [if_pos c10] at H
         have c10b0 := eq_true c10; have c10b1 : decide (qa ≤ (a0.size : Int)) = true := decide_eq_true c10; clear c10
         by_cases c11 : x3_1.length < 8796093022208
         ·rw [if_pos c11] at H
          have LMc11 := Aside0.mk c11; clear c11
          obtain ⟨y109, hy109⟩ : ∃ y_ : List ByteArray, y_ = (x3_1 ++ [a0.extract (x4_1 : Int).toNat (qa : Int).toNat]) := ⟨_, rfl⟩
          replace H : (spec_l4Parts.l0 k1 a0 y109 (wrap64 (qa + 1)) (wrap64 (qa + 1))) = some r := by first | (rw [hy109]; with_reducible exact H) | (have H2_ := (Option.bind_some _ _).symm.trans H; rw [hy109]; with_reducible exact H2_) | (have H2_ := (Option.bind_some _ _).symm.trans H; with_reducible exact H2_) | with_reducible exact H | (rw [hy109]; exact H) | exact H
          have Ny109 := Aside0.mk hy109; clear hy109; have H' := Aside0.mk H; clear H; have p6 : 0 ≤ (qa : Int) := oda; have q6 : qa < (a0.size : Int) := oda; have hx6 := bt_at a0 qa; replace p6 := eq_true p6; replace q6 := eq_true q6
          go_wp2_with (first | ((with_reducible refine gate_builtin (b := .append) (xs := #[.tmp 17, .tmp 22]) rfl ?_); at_builtin; refine Kd.R_append Kd.string (w0 := w) w.heap.size rfl (.tmp 17) (.tmp 22) 56 9 (.string ⟨#[]⟩) 16 rfl Tryd.underlying56 info9 rfl (by decide) (by omega) u3 x3_1 (a0.extract (x4_1 : Int).toNat (qa : Int).toNat) [.string (a0.extract (x4_1 : Int).toNat (qa : Int).toNat)] (fun _ => True) (fun _ => False) rfl rfl ?aP (fun _ hk => hk.elim) ?aF ?aO ?aB ?aS ?aL ?_; (case aP => exact rfl); (case aB => exact (be HB.out)); (case aF => exact (fun _ _ => trivial)); (case aO => exact (kr HO_3.out)); (case aS => exact (below_size (be HB.out))); (case aL => have := LMc11.out; omega); intro v110 w12 ho hb hg hat; rw [← Ny109.out] at ho; refine Ya2 (hb) (ho) ?_; clear HB HO_3; intro HB HO111; clear ho hb hg hat))
          go_roundg k1
          case measure => have := HK1.out; omega
          case rel => exact ⟨(y109), (wrap64 (qa + 1)), (wrap64 (qa + 1)), Ye1, Ye1, H', ⟨by have := HK1.out; omega⟩, ⟨kr HO111.out⟩, ⟨be HB.out⟩⟩
         ·rw [if_neg c11] at H
          exact absurd H (by simp)
        ·rw [if_neg c10] at H
         exact absurd H (by simp)
       ·rw [if_neg c9] at H
        exact absurd H (by simp)
      ·rw [if_neg c8] at H
       exact absurd H (by simp)
     ·rw [if_neg c7] at H
      have c7b0 : ((bt a0 qa) == 47) = false := beq_eq_false_iff_ne.mpr c7; have c7b1 : ((bt a0 qa) != 47) = true := bne_iff_ne.mpr c7; have H' := Aside0.mk H; clear H; have p6 : 0 ≤ (qa : Int) := oda; have q6 : qa < (a0.size : Int) := oda; have hx6 := bt_at a0 qa; replace p6 := eq_true p6; replace q6 := eq_true q6
      go_wp2
      go_roundg k1
      case measure => have := HK1.out; omega
      case rel => exact ⟨(x3_1), (x4_1), (wrap64 (qa + 1)), Ye1, Ye1, H', ⟨by have := HK1.out; omega⟩, ⟨kr HO_3.out⟩, ⟨be HB.out⟩⟩
    ·rw [if_neg c5] at H
     exact absurd H (by simp)
   ·rw [if_neg c4] at H
    have c4b0 : decide (qa < (a0.size : Int)) = false := decide_eq_false c4; clear c4
    by_cases c13 : 0 ≤ x4_1
    ·rw [if_pos c13] at H
     have c13b0 := eq_true c13; have c13b1 : decide (0 ≤ x4_1) = true := decide_eq_true c13; clear c13
     by_cases c14 : x4_1 ≤ (a0.size : Int)
     ·rw [if_pos c14] at H
      have c14b0 := eq_true c14; have c14b1 : decide (x4_1 ≤ (a0.size : Int)) = true := decide_eq_true c14; clear c14
      by_cases c15 : x3_1.length < 8796093022208
      ·rw [if_pos c15] at H
       have LMc15 := Aside0.mk c15; clear c15
       obtain ⟨y112, hy112⟩ : ∃ y_ : List ByteArray, y_ = (x3_1 ++ [a0.extract (x4_1 : Int).toNat a0.size]) := ⟨_, rfl⟩
       replace H : (some y112) = some r := by first | (rw [hy112]; with_reducible exact H) | (have H2_ := (Option.bind_some _ _).symm.trans H; rw [hy112]; with_reducible exact H2_) | (have H2_ := (Option.bind_some _ _).symm.trans H; with_reducible exact H2_) | with_reducible exact H | (rw [hy112]; exact H) | exact H
       have Ny112 := Aside0.mk hy112; clear hy112; obtain rfl := Option.some.inj H
       go_wp2_with (first | ((with_reducible refine gate_builtin (b := .append) (xs := #[.tmp 26, .tmp 30]) rfl ?_); at_builtin; refine Kd.R_append Kd.string (w0 := w) w.heap.size rfl (.tmp 26) (.tmp 30) 56 9 (.string ⟨#[]⟩) 16 rfl Tryd.underlying56 info9 rfl (by decide) (by omega) u3 x3_1 (a0.extract (x4_1 : Int).toNat a0.size) [.string (a0.extract (x4_1 : Int).toNat a0.size)] (fun _ => True) (fun _ => False) rfl rfl ?aP (fun _ hk => hk.elim) ?aF ?aO ?aB ?aS ?aL ?_; (case aP => exact rfl); (case aB => exact (be HB.out)); (case aF => exact (fun _ _ => trivial)); (case aO => exact (kr HO_3.out)); (case aS => exact (below_size (be HB.out))); (case aL => have := LMc15.out; omega); intro v113 w16 ho hb hg hat; rw [← Ny112.out] at ho; refine Ya2 (hb) (ho) ?_; clear HB HO_3; intro HB HO114; clear ho hb hg hat))
       go_ret
       exact ⟨_, Ye2, kr HO114.out, be HB.out⟩
      ·rw [if_neg c15] at H
       exact absurd H (by simp)
     ·rw [if_neg c14] at H
      exact absurd H (by simp)
    ·rw [if_neg c13] at H
     exact absurd H (by simp)

end Go.Proofs.YtkdghhkpmkfjhaaDoor.P


namespace Go.Proofs.YtkdghhkpmkfjhaaDoor.P
open Go.RowKit Go.Proofs.YtkdghhkpmkfjhaaDoorW.PrintWords Go.Proofs.YtkdghhkpmkfjhaaDoorW.PrintLast Go.Proofs.YtkdghhkpmkfjhaaDoorW.PrintMore
attribute [local go_sem] max2_int min2_int max_two min_two max_three min_three max_four min_four
set_option linter.unusedVariables false
set_option linter.unusedSimpArgs false

/-! ### spec_l4Ok: function 74 -/
def spec_l4Ok.l0 : Nat → Bool → List ByteArray → Int → Option (Bool)
 | 0, _, _, _ => none
 | k + 1, x1, x5, x6 => if x6 < (x5.length : Int) then (if 0 ≤ x6 then ((spec_l4PartOk.f k (rdOf ByteArray.empty x5 x6) x1).bind fun t120 => (if t120 = true then (spec_l4Ok.l0 k x1 x5 (wrap64 (x6 + 1))) else (some false))) else (none)) else (some true)
def spec_l4Ok.f (k : Nat) (a0 : ByteArray) (a1 : Bool) : Option (Bool) := if (a0.size : Int) > 126 then (some false) else ((spec_l4Parts.f k a0).bind fun t116 => (if (t116.length : Int) > 6 then (some false) else (spec_l4Ok.l0 k a1 t116 0)))
theorem spec_l4Ok.mono_l : ∀ k, (∀ y0 y1 y2, LeO (spec_l4Ok.l0 k y0 y1 y2) (spec_l4Ok.l0 (k + 1) y0 y1 y2))
 | 0 => fun _ _ _ r h => by simp [spec_l4Ok.l0] at h
 | k + 1 => by
  have ih0 := spec_l4Ok.mono_l k
  ·intro y0 y1 y2
   unfold spec_l4Ok.l0
   repeat' first
   | (with_reducible exact ih0 _ _ _)
   | (with_reducible exact spec_l4PartOk.mono _ _ _)
   | (with_reducible exact spec_l4Parts.mono _ _)
   | (with_reducible exact LeO.refl _)
   | (with_reducible exact LeO.none _)
   | (with_reducible refine LeO.ite ?_ ?_)
   | (with_reducible refine LeO.bind ?_ (fun _ => ?_))
   | exact ih0 _ _ _
   | exact spec_l4PartOk.mono _ _ _
   | exact spec_l4Parts.mono _ _
   | exact LeO.none _
   | refine LeO.ite ?_ ?_
   | refine LeO.bind ?_ (fun _ => ?_)
theorem spec_l4Ok.mono : ∀ a0 a1 k, LeO (spec_l4Ok.f k a0 a1) (spec_l4Ok.f (k + 1) a0 a1) := by
 intro a0 a1 k; have ih0 := spec_l4Ok.mono_l k
 unfold spec_l4Ok.f
 repeat' first
   | (with_reducible exact ih0 _ _ _)
   | (with_reducible exact spec_l4PartOk.mono _ _ _)
   | (with_reducible exact spec_l4Parts.mono _ _)
   | (with_reducible exact LeO.refl _)
   | (with_reducible exact LeO.none _)
   | (with_reducible refine LeO.ite ?_ ?_)
   | (with_reducible refine LeO.bind ?_ (fun _ => ?_))
   | exact ih0 _ _ _
   | exact spec_l4PartOk.mono _ _ _
   | exact spec_l4Parts.mono _ _
   | exact LeO.none _
   | refine LeO.ite ?_ ?_
   | refine LeO.bind ?_ (fun _ => ?_)
set_option maxHeartbeats 8000000 in
set_option maxRecDepth 100000 in
theorem spec_l4Ok.calls (k : Nat) (a0 : ByteArray) (a1 : Bool) (r : Bool) (w : World) (h : spec_l4Ok.f k a0 a1 = some r) :
  Calls Tryd.prog 74 #[.string a0, .bool a1] w fun e w' => e = .returned (.bool r) ∧ Below w.heap.size w w' := by
 have HB := Aside0.mk (Below.refl w.heap.size w); have H : (if (a0.size : Int) > 126 then (some false) else ((spec_l4Parts.f k a0).bind fun t116 => (if (t116.length : Int) > 6 then (some false) else (spec_l4Ok.l0 k a1 t116 0)))) = some r := h; clear h
 by_cases c3 : (a0.size : Int) > 126
 ·rw [if_pos c3] at H
  have c3b0 : decide (126 < (a0.size : Int)) = true := decide_eq_true c3; have c3b1 : decide (126 < a0.size) = true := decide_eq_true (by omega); clear c3; obtain rfl := Option.some.inj H
  go_enter Tryd.func74, Tryd.ntmps74
  go_wp2
  go_ret
  exact ⟨Ye2, be HB.out⟩
 ·rw [if_neg c3] at H
  have c3b0 : decide (126 < (a0.size : Int)) = false := decide_eq_false c3; have c3b1 : decide (126 < a0.size) = false := decide_eq_false (by omega); clear c3; replace H := Option.bind_eq_some_iff.mp H; obtain ⟨t116, A40, H⟩ := H; replace H : (if (t116.length : Int) > 6 then (some false) else (spec_l4Ok.l0 k a1 t116 0)) = some r := H; have A4 := Aside0.mk A40; clear A40
  by_cases c5 : (t116.length : Int) > 6
  ·rw [if_pos c5] at H
   have c5b0 : decide (6 < (t116.length : Int)) = true := decide_eq_true c5; have c5b1 : decide (6 < t116.length) = true := decide_eq_true (by omega); clear c5; obtain rfl := Option.some.inj H
   go_enter Tryd.func74, Tryd.ntmps74
   go_wp2_with (first | ((with_reducible refine gc 85 rfl ?_); refine gl (some 11) _ (#[.string a0]) Tryd.func85 ?_; (with_reducible refine (spec_l4Parts.calls k a0 t116 _ A4.out).mono ?_); rintro e w6 ⟨v117, rfl, ho0, hb⟩; refine ⟨_, rfl, ?_⟩; refine Ya2 (Kd.R_lower ho0 (below_size (be HB.out))) (below_step (be HB.out) hb) ?_; clear HB; intro HO118 HB; (try clear hb); (try clear hb2); (try clear hk); (try clear hi); (try clear ho0); obtain ⟨Ao7, co7, eo7⟩ := Kd.R_slice HO118.out; subst eo7))
   go_ret
   exact ⟨Ye2, be HB.out⟩
  ·rw [if_neg c5] at H
   have c5b0 : decide (6 < (t116.length : Int)) = false := decide_eq_false c5; have c5b1 : decide (6 < t116.length) = false := decide_eq_false (by omega); clear c5; have H' := Aside0.mk H; clear H
   go_enter Tryd.func74, Tryd.ntmps74
   go_wp2_with (first | ((with_reducible refine gc 85 rfl ?_); refine gl (some 11) _ (#[.string a0]) Tryd.func85 ?_; (with_reducible refine (spec_l4Parts.calls k a0 t116 _ A4.out).mono ?_); rintro e w8 ⟨v117, rfl, ho0, hb⟩; refine ⟨_, rfl, ?_⟩; refine Ya2 (Kd.R_lower ho0 (below_size (be HB.out))) (below_step (be HB.out) hb) ?_; clear HB; intro HO118 HB; (try clear hb); (try clear hb2); (try clear hk); (try clear hi); (try clear ho0); obtain ⟨Ao9, co9, eo9⟩ := Kd.R_slice HO118.out; subst eo9))
   go_loopg [6] k (fun kq v6 w' => ∃ (qa : Int), v6 = .int .i64 qa ∧ Aside0 (spec_l4Ok.l0 kq a1 t116 qa = some r) ∧ Aside0 (kq ≤ k) ∧ Aside0 (Kd.R Kd.string 9 w' w.heap.size (fun _ => True) (.slice Ao9 t116.length co9) t116) ∧ Aside0 (Below w.heap.size w w'))
   case atStart => exact ⟨(0), Ye1, H', ⟨Nat.le_refl _⟩, ⟨kr HO118.out⟩, ⟨be HB.out⟩⟩
   case round =>
    clear H'; (try clear p2); (try clear c3); (try clear c3b0); (try clear c3b1); (try clear c5); (try clear c5b0); (try clear c5b1); (try clear c7); (try clear c8); obtain ⟨qa, rfl, HA, HK1, HO_5, HB⟩ := hrel
    cases gk with
    | zero => exact absurd HA.out (by simp [spec_l4Ok.l0])
    | succ k1 =>
     have H := HA.out; clear HA; simp only [spec_l4Ok.l0] at H
     by_cases c10 : qa < (t116.length : Int)
     ·rw [if_pos c10] at H
      have c10b0 : decide (qa < (t116.length : Int)) = true := decide_eq_true c10; clear c10
      by_cases c11 : 0 ≤ qa
      ·rw [if_pos c11] at H
       have c11b0 : decide (0 ≤ qa) = true := decide_eq_true c11; clear c11; replace H := Option.bind_eq_some_iff.mp H; obtain ⟨t120, A120, H⟩ := H; replace H : (if t120 = true then (spec_l4Ok.l0 k1 a1 t116 (wrap64 (qa + 1))) else (some false)) = some r := H; have A12 := Aside0.mk A120; clear A120
       by_cases c13 : t120 = true
       ·subst c13
        have H1 : (spec_l4Ok.l0 k1 a1 t116 (wrap64 (qa + 1))) = some r := by rw [if_pos rfl] at H; exact H
        clear H; have H := H1; clear H1; have H' := Aside0.mk H; clear H; have p119 : 0 ≤ (qa : Int) := oda; have q119 : qa < (t116.length : Int) := oda; obtain ⟨ad119, e119, hx119_0⟩ := Kd.at_string (Kd.R_reads' HO_5.out).2.2 qa p119 q119
        cases e119
        replace p119 := eq_true p119; replace q119 := eq_true q119
        go_wp2_with (first | ((with_reducible refine gc 92 rfl ?_); refine gl (some 26) _ (#[.string (rdOf ByteArray.empty t116 qa), .bool a1]) Tryd.func92 ?_; (with_reducible refine (spec_l4PartOk.calls k1 (rdOf ByteArray.empty t116 qa) a1 true _ A12.out).mono ?_); rintro e w' ⟨rfl, ⟨nd, rfl⟩⟩; refine ⟨_, rfl, ?_⟩))
        go_roundg k1
        case measure => have := HK1.out; omega
        case rel => exact ⟨(wrap64 (qa + 1)), Ye1, H', ⟨by have := HK1.out; omega⟩, ⟨kr HO_5.out⟩, ⟨be HB.out⟩⟩
       ·replace c13 := Bool.eq_false_iff.mpr c13; subst c13
        have H1 : (some false) = some r := by rw [if_neg (show ¬ (false = true) by decide)] at H; exact H
        clear H; have H := H1; clear H1; obtain rfl := Option.some.inj H; have p119 : 0 ≤ (qa : Int) := oda; have q119 : qa < (t116.length : Int) := oda; obtain ⟨ad119, e119, hx119_0⟩ := Kd.at_string (Kd.R_reads' HO_5.out).2.2 qa p119 q119
        cases e119
        replace p119 := eq_true p119; replace q119 := eq_true q119
        go_wp2_with (first | ((with_reducible refine gc 92 rfl ?_); refine gl (some 26) _ (#[.string (rdOf ByteArray.empty t116 qa), .bool a1]) Tryd.func92 ?_; (with_reducible refine (spec_l4PartOk.calls k1 (rdOf ByteArray.empty t116 qa) a1 false _ A12.out).mono ?_); rintro e w' ⟨rfl, ⟨nd, rfl⟩⟩; refine ⟨_, rfl, ?_⟩))
        go_ret
        exact ⟨Ye2, be HB.out⟩
      ·rw [if_neg c11] at H
       exact absurd H (by simp)
     ·rw [if_neg c10] at H
      have c10b0 : decide (qa < (t116.length : Int)) = false := decide_eq_false c10; clear c10; obtain rfl := Option.some.inj H
      go_wp2
      go_ret
      exact ⟨Ye2, be HB.out⟩

end Go.Proofs.YtkdghhkpmkfjhaaDoor.P


namespace Go.Proofs.YtkdghhkpmkfjhaaDoor.P
open Go.RowKit Go.Proofs.YtkdghhkpmkfjhaaDoorW.PrintWords Go.Proofs.YtkdghhkpmkfjhaaDoorW.PrintLast Go.Proofs.YtkdghhkpmkfjhaaDoorW.PrintMore
attribute [local go_sem] max2_int min2_int max_two min_two max_three min_three max_four min_four
set_option linter.unusedVariables false
set_option linter.unusedSimpArgs false

/-! ### spec_ValidPath: function 48 -/
def spec_ValidPath.f (k : Nat) (a0 : ByteArray) : Option (Bool) := (spec_l4Ok.f k a0 false).bind fun t121 => (some t121)
theorem spec_ValidPath.mono : ∀ a0 k, LeO (spec_ValidPath.f k a0) (spec_ValidPath.f (k + 1) a0) := by
 intro a0 k
 unfold spec_ValidPath.f
 repeat' first
   | (with_reducible exact spec_l4Ok.mono _ _ _)
   | (with_reducible exact LeO.refl _)
   | (with_reducible exact LeO.none _)
   | (with_reducible refine LeO.ite ?_ ?_)
   | (with_reducible refine LeO.bind ?_ (fun _ => ?_))
   | exact spec_l4Ok.mono _ _ _
   | exact LeO.none _
   | refine LeO.ite ?_ ?_
   | refine LeO.bind ?_ (fun _ => ?_)
set_option maxHeartbeats 8000000 in
set_option maxRecDepth 100000 in
theorem spec_ValidPath.calls (k : Nat) (a0 : ByteArray) (r : Bool) (w : World) (h : spec_ValidPath.f k a0 = some r) :
  Calls Tryd.prog 48 #[.string a0] w fun e w' => e = .returned (.bool r) ∧ Below w.heap.size w w' := by
 have HB := Aside0.mk (Below.refl w.heap.size w); have H : ((spec_l4Ok.f k a0 false).bind fun t121 => (some t121)) = some r := h; clear h; replace H := Option.bind_eq_some_iff.mp H; obtain ⟨t121, A20, H⟩ := H; replace H : (some t121) = some r := H; have A2 := Aside0.mk A20; clear A20; obtain rfl := Option.some.inj H
 go_enter Tryd.func48, Tryd.ntmps48
 go_wp2_with (first | ((with_reducible refine gc 74 rfl ?_); refine gl (some 4) _ (#[.string a0, .bool false]) Tryd.func74 ?_; (with_reducible refine (spec_l4Ok.calls k a0 false t121 _ A2.out).mono ?_); rintro e w3 ⟨rfl, hb⟩; refine ⟨_, rfl, ?_⟩; refine Ya1 (below_step (be HB.out) hb) ?_; clear HB; intro HB; (try clear hb); (try clear hb2); (try clear hk); (try clear hi)))
 go_ret
 exact ⟨Ye2, be HB.out⟩

end Go.Proofs.YtkdghhkpmkfjhaaDoor.P


namespace Go.Proofs.YtkdghhkpmkfjhaaDoor.P
open Go.RowKit Go.Proofs.YtkdghhkpmkfjhaaDoorW.PrintWords Go.Proofs.YtkdghhkpmkfjhaaDoorW.PrintLast Go.Proofs.YtkdghhkpmkfjhaaDoorW.PrintMore
attribute [local go_sem] max2_int min2_int max_two min_two max_three min_three max_four min_four
set_option linter.unusedVariables false
set_option linter.unusedSimpArgs false

/-! ### spec_ValidTree: function 13 -/
mutual
def spec_ValidTree.l0 : Nat → Int → List (S45) → Option (Bool)
 | 0, _, _ => none
 | k + 1, x3, x123000 => if x3 < (x123000.length : Int) then (if 0 ≤ x3 then ((spec_ValidPath.f k ((rd_T45 x123000 x3).f0)).bind fun t125 => (if t125 = true then (if (((rd_T45 x123000 x3).f1).size : Int) > 1500 then (spec_ValidTree.j1 k x3 true x123000 ((rd_T45 x123000 x3).f0) ((rd_T45 x123000 x3).f1) ((rd_T45 x123000 x3).f2)) else (if x3 > 0 then (if 0 ≤ (wrap64 (x3 - 1)) then (if (wrap64 (x3 - 1)) < (x123000.length : Int) then (spec_ValidTree.j1 k x3 (!(Op.bytesLess (((rd_T45 x123000 (wrap64 (x3 - 1))).f0).toList) (((rd_T45 x123000 x3).f0).toList))) x123000 ((rd_T45 x123000 x3).f0) ((rd_T45 x123000 x3).f1) ((rd_T45 x123000 x3).f2)) else (none)) else (none)) else (spec_ValidTree.j1 k x3 false x123000 ((rd_T45 x123000 x3).f0) ((rd_T45 x123000 x3).f1) ((rd_T45 x123000 x3).f2)))) else (spec_ValidTree.j1 k x3 true x123000 ((rd_T45 x123000 x3).f0) ((rd_T45 x123000 x3).f1) ((rd_T45 x123000 x3).f2)))) else (none)) else (some true)
def spec_ValidTree.j1 : Nat → Int → Bool → List (S45) → ByteArray → ByteArray → Bool → Option (Bool)
 | 0, _, _, _, _, _, _ => none
 | k + 1, x3, x47, x123000, x125000, x125001, x125002 => if x47 = true then (some false) else (spec_ValidTree.l1 k x3 0 x123000 x125000 x125001 x125002)
def spec_ValidTree.l1 : Nat → Int → Int → List (S45) → ByteArray → ByteArray → Bool → Option (Bool)
 | 0, _, _, _, _, _, _ => none
 | k + 1, x3, x5, x123000, x125000, x125001, x125002 => if x5 < x3 then (if 0 ≤ x5 then (if x5 < (x123000.length : Int) then ((spec_l5Begins.f ((rd_T45 x123000 x5).f0) x125000).bind fun t128 => (if t128 = true then (some false) else (spec_ValidTree.l1 k x3 (wrap64 (x5 + 1)) x123000 x125000 x125001 x125002))) else (none)) else (none)) else (spec_ValidTree.l0 k (wrap64 (x3 + 1)) x123000)
end
def spec_ValidTree.f (k : Nat) (qa : List (S45)) : Option (Bool) := if (qa.length : Int) > 100 then (some false) else (spec_ValidTree.l0 k 0 qa)
theorem spec_ValidTree.mono_l : ∀ k, (∀ y0 y1, LeO (spec_ValidTree.l0 k y0 y1) (spec_ValidTree.l0 (k + 1) y0 y1)) ∧ (∀ y0 y1 y2 y3 y4 y5, LeO (spec_ValidTree.j1 k y0 y1 y2 y3 y4 y5) (spec_ValidTree.j1 (k + 1) y0 y1 y2 y3 y4 y5)) ∧ (∀ y0 y1 y2 y3 y4 y5, LeO (spec_ValidTree.l1 k y0 y1 y2 y3 y4 y5) (spec_ValidTree.l1 (k + 1) y0 y1 y2 y3 y4 y5))
 | 0 => ⟨fun _ _ r h => by simp [spec_ValidTree.l0] at h, fun _ _ _ _ _ _ r h => by simp [spec_ValidTree.j1] at h, fun _ _ _ _ _ _ r h => by simp [spec_ValidTree.l1] at h⟩
 | k + 1 => by
  obtain ⟨ih0, ih1, ih2⟩ := spec_ValidTree.mono_l k; refine ⟨?_, ?_, ?_⟩
  ·intro y0 y1
   unfold spec_ValidTree.l0
   repeat' first
   | (with_reducible exact ih0 _ _)
   | (with_reducible exact ih1 _ _ _ _ _ _)
   | (with_reducible exact ih2 _ _ _ _ _ _)
   | (with_reducible exact spec_ValidPath.mono _ _)
   | (with_reducible exact LeO.refl _)
   | (with_reducible exact LeO.none _)
   | (with_reducible refine LeO.ite ?_ ?_)
   | (with_reducible refine LeO.bind ?_ (fun _ => ?_))
   | exact ih0 _ _
   | exact ih1 _ _ _ _ _ _
   | exact ih2 _ _ _ _ _ _
   | exact spec_ValidPath.mono _ _
   | exact LeO.none _
   | refine LeO.ite ?_ ?_
   | refine LeO.bind ?_ (fun _ => ?_)
  ·intro y0 y1 y2 y3 y4 y5
   unfold spec_ValidTree.j1
   repeat' first
   | (with_reducible exact ih0 _ _)
   | (with_reducible exact ih1 _ _ _ _ _ _)
   | (with_reducible exact ih2 _ _ _ _ _ _)
   | (with_reducible exact spec_ValidPath.mono _ _)
   | (with_reducible exact LeO.refl _)
   | (with_reducible exact LeO.none _)
   | (with_reducible refine LeO.ite ?_ ?_)
   | (with_reducible refine LeO.bind ?_ (fun _ => ?_))
   | exact ih0 _ _
   | exact ih1 _ _ _ _ _ _
   | exact ih2 _ _ _ _ _ _
   | exact spec_ValidPath.mono _ _
   | exact LeO.none _
   | refine LeO.ite ?_ ?_
   | refine LeO.bind ?_ (fun _ => ?_)
  ·intro y0 y1 y2 y3 y4 y5
   unfold spec_ValidTree.l1
   repeat' first
   | (with_reducible exact ih0 _ _)
   | (with_reducible exact ih1 _ _ _ _ _ _)
   | (with_reducible exact ih2 _ _ _ _ _ _)
   | (with_reducible exact spec_ValidPath.mono _ _)
   | (with_reducible exact LeO.refl _)
   | (with_reducible exact LeO.none _)
   | (with_reducible refine LeO.ite ?_ ?_)
   | (with_reducible refine LeO.bind ?_ (fun _ => ?_))
   | exact ih0 _ _
   | exact ih1 _ _ _ _ _ _
   | exact ih2 _ _ _ _ _ _
   | exact spec_ValidPath.mono _ _
   | exact LeO.none _
   | refine LeO.ite ?_ ?_
   | refine LeO.bind ?_ (fun _ => ?_)
theorem spec_ValidTree.mono : ∀ a0 k, LeO (spec_ValidTree.f k a0) (spec_ValidTree.f (k + 1) a0) := by
 intro a0 k; obtain ⟨ih0, ih1, ih2⟩ := spec_ValidTree.mono_l k
 unfold spec_ValidTree.f
 repeat' first
   | (with_reducible exact ih0 _ _)
   | (with_reducible exact ih1 _ _ _ _ _ _)
   | (with_reducible exact ih2 _ _ _ _ _ _)
   | (with_reducible exact spec_ValidPath.mono _ _)
   | (with_reducible exact LeO.refl _)
   | (with_reducible exact LeO.none _)
   | (with_reducible refine LeO.ite ?_ ?_)
   | (with_reducible refine LeO.bind ?_ (fun _ => ?_))
   | exact ih0 _ _
   | exact ih1 _ _ _ _ _ _
   | exact ih2 _ _ _ _ _ _
   | exact spec_ValidPath.mono _ _
   | exact LeO.none _
   | refine LeO.ite ?_ ?_
   | refine LeO.bind ?_ (fun _ => ?_)
def spec_ValidTree.T7 : Bool × List (List Nat × List Nat) := (true, [([], []), ([0], [0]), ([1], [1]), ([2], [2]), ([3, 2], [3]), ([4], [4]), ([5, 4], [4, 5]), ([6, 4], [4, 6]), ([7, 4], [4, 7]), ([4, 8], [4, 8]), ([9, 4], [9]), ([10], [10]), ([11, 10], [10, 11]), ([12, 10, 10], [10, 12]), ([13], [13]), ([14, 13], [13, 14]), ([13], [13]), ([16, 13], [13, 16]), ([15, 17, 13], [13, 15, 17]), ([18, 13], [13, 18]), ([19, 13], [13, 19]), ([13], [13]), ([21, 13], [13, 21]), ([20, 22, 13], [13, 20, 22]), ([13, 23, 10], [10, 13, 23]), ([10, 24], [10, 24])])
def spec_ValidTree.B7 : List Nat := [0, 1, 3, 7, 15, 31, 63, 127, 255, 511, 1023, 2047, 4095, 8191, 16383, 32767, 16383, 81919, 262143, 524287, 1048575, 16383, 2113535, 8388607, 16777215, 33554431]
theorem spec_ValidTree.tab7 : rtab .any (opsOf Tryd.f13 7) = spec_ValidTree.T7 := by kernel_rfl
theorem spec_ValidTree.bits7 : waitsOk spec_ValidTree.T7.2 spec_ValidTree.B7 = true := by kernel_rfl
def spec_ValidTree.T12 : Bool × List (List Nat × List Nat) := (true, [([], []), ([0], [0]), ([], []), ([1, 2], [1, 2]), ([3], [3]), ([4], [4]), ([], []), ([6], [6]), ([5, 7], [5, 7])])
def spec_ValidTree.B12 : List Nat := [0, 1, 0, 7, 15, 31, 0, 64, 255]
theorem spec_ValidTree.tab12 : rtab .any (opsOf Tryd.f13 12) = spec_ValidTree.T12 := by kernel_rfl
theorem spec_ValidTree.bits12 : waitsOk spec_ValidTree.T12.2 spec_ValidTree.B12 = true := by kernel_rfl
set_option maxHeartbeats 8000000 in
set_option maxRecDepth 100000 in
theorem spec_ValidTree.calls (k : Nat) (A0_0 : Option Addr) (c0_0 : Nat) (qa : List (S45)) (r : Bool) (w : World) (hr0_0 : Kd.C k45 w A0_0 qa.length qa) (hc0_0 : qa.length ≤ c0_0) (h : spec_ValidTree.f k qa = some r) :
  Calls Tryd.prog 13 #[.agg #[.slice A0_0 qa.length c0_0]] w fun e w' => e = .returned (.bool r) ∧ Below w.heap.size w w' := by
 have hu29 := Tryd.underlying29; have hu45 := Tryd.underlying45; have HR0_0 := Aside0.mk hr0_0; have HC0_0 := Aside0.mk hc0_0; clear hr0_0 hc0_0; have HB := Aside0.mk (Below.refl w.heap.size w); have H : (if (qa.length : Int) > 100 then (some false) else (spec_ValidTree.l0 k 0 qa)) = some r := h; clear h
 by_cases c2 : (qa.length : Int) > 100
 ·rw [if_pos c2] at H
  have c2b0 : decide (100 < (qa.length : Int)) = true := decide_eq_true c2; have c2b1 : decide (100 < qa.length) = true := decide_eq_true (by omega); clear c2; obtain rfl := Option.some.inj H
  go_enter Tryd.func13, Tryd.ntmps13
  go_wp2_with (first | ((with_reducible refine gd 1 rfl ?_); (try (refine gate_guard (by rfl) ?_; dsimp only)); refine bx 1 29 (#[.slice A0_0 qa.length c0_0]) ?_; intro gb122 hg w3 hbox hb; refine Ya4 (below_step (be HB.out) hb) (hbox) (bs hg (be HB.out)) (bs hg (be HB.out)) ?_; clear HB; intro HB qd GW122 qg; clear hb hbox hg; have ⟨hcz4_0, hfz4_0⟩ := Yc1 qd.out))
  go_ret
  exact ⟨Ye2, (by first | exact be1 HB.out qg.out | exact be HB.out)⟩
 ·rw [if_neg c2] at H
  have c2b0 : decide (100 < (qa.length : Int)) = false := decide_eq_false c2; have c2b1 : decide (100 < qa.length) = false := decide_eq_false (by omega); clear c2; have H' := Aside0.mk H; clear H
  go_enter Tryd.func13, Tryd.ntmps13
  go_wp2_with (first | ((with_reducible refine gd 1 rfl ?_); (try (refine gate_guard (by rfl) ?_; dsimp only)); refine bx 1 29 (#[.slice A0_0 qa.length c0_0]) ?_; intro gb122 hg w5 hbox hb; refine Ya4 (below_step (be HB.out) hb) (hbox) (bs hg (be HB.out)) (bs hg (be HB.out)) ?_; clear HB; intro HB qd GW122 qg; clear hb hbox hg; have ⟨hcz6_0, hfz6_0⟩ := Yc1 qd.out))
  go_loopg [3] k (fun kq v3 w' => ∃ (qb : Int), v3 = .int .i64 qb ∧ Aside0 (spec_ValidTree.l0 kq qb qa = some r) ∧ Aside0 (kq ≤ k) ∧ Aside0 (w'.heap[gb122]? = some (.cells #[(.slice A0_0 qa.length c0_0)] 29 (0, 0))) ∧ Aside0 (Below w.heap.size w w'))
  case atStart => exact ⟨(0), Ye1, H', ⟨Nat.le_refl _⟩, ⟨bk qd.out⟩, ⟨be1 HB.out qg.out⟩⟩
  case round =>
   clear H'; (try clear c1); (try clear c2); (try clear c2b0); (try clear c2b1); (try clear p2); (try clear hcz4_0); (try clear hcz6_0); (try clear hfz4_0); (try clear hfz6_0); obtain ⟨qb, rfl, HA, HK1, qd, HB⟩ := hrel
   cases gk with
   | zero => exact absurd HA.out (by simp [spec_ValidTree.l0])
   | succ k1 =>
    have H := HA.out; clear HA; simp only [spec_ValidTree.l0] at H
    by_cases c7 : qb < (qa.length : Int)
    ·rw [if_pos c7] at H
     have c7b0 : decide (qb < (qa.length : Int)) = true := decide_eq_true c7; clear c7
     by_cases c8 : 0 ≤ qb
     ·rw [if_pos c8] at H
      have c8b0 : decide (0 ≤ qb) = true := decide_eq_true c8; clear c8; have HC9 := Aside0.mk H; clear H; have ⟨hcz10_0, hfz10_0⟩ := Yc1 qd.out; have p123 : 0 ≤ (qb : Int) := oda; have q123 : qb < (qa.length : Int) := oda; obtain ⟨ad123, e123, hx123_0, hx123_1, hx123_2⟩ := at_T45 (Kd.C_below HR0_0.out HB.out) qb p123 q123
      cases e123
      replace p123 := eq_true p123; replace q123 := eq_true q123
      go_upto_region 7 with (first | ((with_reducible refine gd 4 rfl ?_); (try (refine gate_guard (by rfl) ?_; dsimp only)); refine bx 4 45 (#[.string (⟨#[]⟩ : ByteArray), .string (⟨#[]⟩ : ByteArray), .bool false]) ?_; intro qe hg w11 hbox hb; refine Ya7 (bb qd hb) (below_step (be1 HB.out qg.out) hb) (hbox) (bs hg (be1 HB.out qg.out)) (bs hg (be1 HB.out qg.out)) (bl hg qd) (br hg qd) ?_; clear qd HB; intro qd HB qc GW124 qi qj NB124_122; clear hb hbox hg; have hnb12 := NB124_122.out; have hnc12 := qj.out; have ⟨hcz13_0, hcz13_1, hcz13_2, hfz13_0, hfz13_1, hfz13_2⟩ := Yc3 qc.out))
      (try simp only [Act.put, List.setIfInBounds_toArray, List.set_cons_zero, List.set_cons_succ])
      go_cut [47] (fun v47 wc => ∃ (kq : Nat) (x47_8 : Bool), v47 = .bool x47_8 ∧ Aside0 (spec_ValidTree.j1 kq qb x47_8 qa ((rd_T45 qa qb).f0) ((rd_T45 qa qb).f1) ((rd_T45 qa qb).f2) = some r) ∧ Aside0 (kq ≤ k1) ∧ Aside0 (wc.heap[gb122]? = some (.cells #[(.slice (some ad123) qa.length c0_0)] 29 (0, 0))) ∧ Aside0 (wc.heap[qe]? = some (.cells #[.string ((rd_T45 qa qb).f0), .string ((rd_T45 qa qb).f1), .bool ((rd_T45 qa qb).f2)] 45 (0, 0))) ∧ Aside0 (Below w.heap.size w wc))
      case first =>
       have H := HC9.out; clear HC9; replace H := Option.bind_eq_some_iff.mp H; obtain ⟨t125, A140, H⟩ := H; replace H : (if t125 = true then (if (((rd_T45 qa qb).f1).size : Int) > 1500 then (spec_ValidTree.j1 k1 qb true qa ((rd_T45 qa qb).f0) ((rd_T45 qa qb).f1) ((rd_T45 qa qb).f2)) else (if qb > 0 then (if 0 ≤ (wrap64 (qb - 1)) then (if (wrap64 (qb - 1)) < (qa.length : Int) then (spec_ValidTree.j1 k1 qb (!(Op.bytesLess (((rd_T45 qa (wrap64 (qb - 1))).f0).toList) (((rd_T45 qa qb).f0).toList))) qa ((rd_T45 qa qb).f0) ((rd_T45 qa qb).f1) ((rd_T45 qa qb).f2)) else (none)) else (none)) else (spec_ValidTree.j1 k1 qb false qa ((rd_T45 qa qb).f0) ((rd_T45 qa qb).f1) ((rd_T45 qa qb).f2)))) else (spec_ValidTree.j1 k1 qb true qa ((rd_T45 qa qb).f0) ((rd_T45 qa qb).f1) ((rd_T45 qa qb).f2))) = some r := H; have A14 := Aside0.mk A140; clear A140
       by_cases c15 : t125 = true
       ·subst c15
        have H1 : (if (((rd_T45 qa qb).f1).size : Int) > 1500 then (spec_ValidTree.j1 k1 qb true qa ((rd_T45 qa qb).f0) ((rd_T45 qa qb).f1) ((rd_T45 qa qb).f2)) else (if qb > 0 then (if 0 ≤ (wrap64 (qb - 1)) then (if (wrap64 (qb - 1)) < (qa.length : Int) then (spec_ValidTree.j1 k1 qb (!(Op.bytesLess (((rd_T45 qa (wrap64 (qb - 1))).f0).toList) (((rd_T45 qa qb).f0).toList))) qa ((rd_T45 qa qb).f0) ((rd_T45 qa qb).f1) ((rd_T45 qa qb).f2)) else (none)) else (none)) else (spec_ValidTree.j1 k1 qb false qa ((rd_T45 qa qb).f0) ((rd_T45 qa qb).f1) ((rd_T45 qa qb).f2)))) = some r := by rw [if_pos rfl] at H; exact H
        clear H; have H := H1; clear H1
        by_cases c16 : (((rd_T45 qa qb).f1).size : Int) > 1500
        ·rw [if_pos c16] at H
         have c16b0 : decide (1500 < (((rd_T45 qa qb).f1).size : Int)) = true := decide_eq_true c16; have c16b1 : decide (1500 < ((rd_T45 qa qb).f1).size) = true := decide_eq_true (by omega); clear c16; (first | rw [c16b0] | (simp only [i64_w, i32_w]; rw [c16b0]) | skip); have H' := Aside0.mk H; clear H
         try go_wp2
         have n0_ : Aside0 ((((w11.setCell ⟨qe, 0, none⟩ (.string ((rd_T45 qa qb).f0))).setCell ⟨qe, 1, none⟩ (.string ((rd_T45 qa qb).f1))).setCell ⟨qe, 2, none⟩ (.bool ((rd_T45 qa qb).f2))).heap[gb122]? = some (.cells #[.slice (some ad123) qa.length c0_0] 29 (0, 0))) := ⟨bkf qd.out qj.out⟩
         have n1_ : Aside0 ((((w11.setCell ⟨qe, 0, none⟩ (.string ((rd_T45 qa qb).f0))).setCell ⟨qe, 1, none⟩ (.string ((rd_T45 qa qb).f1))).setCell ⟨qe, 2, none⟩ (.bool ((rd_T45 qa qb).f2))).heap[qe]? = some (.cells #[.string ((rd_T45 qa qb).f0), .string ((rd_T45 qa qb).f1), .bool ((rd_T45 qa qb).f2)] 45 (0, 0))) := ⟨by (with_reducible repeat (first | apply blk_drewN | apply blk_drew | apply blk_alloc)); refine blk_put (cs := #[.string ((rd_T45 qa qb).f0), .string ((rd_T45 qa qb).f1), .bool false]) ?_ 2 _ rfl; (with_reducible repeat (first | apply blk_drewN | apply blk_drew | apply blk_alloc)); refine blk_put (cs := #[.string ((rd_T45 qa qb).f0), .string (⟨#[]⟩ : ByteArray), .bool false]) ?_ 1 _ rfl; (with_reducible repeat (first | apply blk_drewN | apply blk_drew | apply blk_alloc)); refine blk_put (cs := #[.string (⟨#[]⟩ : ByteArray), .string (⟨#[]⟩ : ByteArray), .bool false]) ?_ 0 _ rfl; (with_reducible repeat (first | apply blk_drewN | apply blk_drew | apply blk_alloc)); exact qc.out⟩
         have n2_ : Aside0 (Below w.heap.size w (((w11.setCell ⟨qe, 0, none⟩ (.string ((rd_T45 qa qb).f0))).setCell ⟨qe, 1, none⟩ (.string ((rd_T45 qa qb).f1))).setCell ⟨qe, 2, none⟩ (.bool ((rd_T45 qa qb).f2)))) := ⟨be2 HB.out qg.out qi.out⟩
         (try clear qd); (try clear qc); (try clear HB); generalize (((w11.setCell ⟨qe, 0, none⟩ (.string ((rd_T45 qa qb).f0))).setCell ⟨qe, 1, none⟩ (.string ((rd_T45 qa qb).f1))).setCell ⟨qe, 2, none⟩ (.bool ((rd_T45 qa qb).f2))) = w17 at n0_ n1_ n2_ ⊢; have qd := n0_; have qc := n1_; have HB := n2_; clear n0_ n1_ n2_; refine Ya3 (blk_drew qd.out) (blk_drew qc.out) (below_drew1 HB.out) ?_; clear qd qc HB; intro qd qc HB; refine start_ (n := 26) (S := fun w' => w'.cell? ⟨qe, 0, none⟩ = some (.string ((rd_T45 qa qb).f0)) ∧ w'.cell? ⟨qe, 1, none⟩ = some (.string ((rd_T45 qa qb).f1)) ∧ w'.cell? ⟨qe, 2, none⟩ = some (.bool ((rd_T45 qa qb).f2))) (ds := []) (fb 26 0) (by kernel_rfl) rfl rfl ⟨(blk_cell qc.out 0).trans rfl, (blk_cell qc.out 1).trans rfl, (blk_cell qc.out 2).trans rfl⟩ (fun hHeld => ?_); refine with_tabW spec_ValidTree.tab7 spec_ValidTree.bits7 (fun HT_ HW_ => ?_); generalize w17.drew = w18 at qd qc HB hHeld ⊢; refine pu 0 22 (fb 26 1) HT_ ?_; refine tk 1 23 (fb 26 3) HT_ HW_ hHeld ?_; refine one_ (i := 2) (N := some 24) (fb 26 7) rfl rfl (one_of HT_.out (by kernel_rfl)) (by decide) (fun K hK => ?_); refine gs _ (#[.string ((rd_T45 qa qb).f0)]) Tryd.func48 ?_; (with_reducible refine (spec_ValidPath.calls k1 ((rd_T45 qa qb).f0) true _ A14.out).mono ?_); rintro e w19 ⟨rfl, hb⟩; refine ⟨_, rfl, ?_⟩; refine Ya3 (bb qd hb) (bb qc hb) (below_step (be2 HB.out qg.out qi.out) hb) ?_; clear qd qc HB; intro qd qc HB; (try clear hb); (try clear hb2); (try clear hk); (try clear hi); refine hK.out _ _ ⟨(blk_cell qc.out 0).trans rfl, (blk_cell qc.out 1).trans rfl, (blk_cell qc.out 2).trans rfl⟩ (fun hHeld => ?_); clear hK K; refine norm_ (a' := ?_) ?_ ?_; rotate_left
         ·show Act.put _ (some 24) _ = _
          simp only [Act.put, List.setIfInBounds_toArray, List.set_cons_zero, List.set_cons_succ, i64_w, i32_w]; rfl
         refine pu 3 25 (fb 26 15) HT_ ?_; refine pu 4 26 (fb 26 31) HT_ ?_; refine pu 5 27 (fb 26 63) HT_ ?_; refine tk 6 28 (fb 26 127) HT_ HW_ hHeld ?_; refine pu 7 29 (fb 26 255) HT_ ?_; refine pu 8 30 (fb 26 511) HT_ ?_; refine pu 9 31 (fb 26 1023) HT_ ?_; refine pu 10 32 (fb 26 2047) HT_ ?_; refine pn 11 33 (fb 26 4095) HT_ ?_; refine pn 12 34 (fb 26 8191) HT_ ?_; refine pn 13 35 (fb 26 16383) HT_ ?_; refine pn 14 36 (fb 26 32767) HT_ ?_; refine pn 15 37 (fb 26 65535) HT_ ?_; refine pn 16 38 (fb 26 131071) HT_ ?_; refine pn 17 39 (fb 26 262143) HT_ ?_; refine pn 18 40 (fb 26 524287) HT_ ?_; refine pn 19 41 (fb 26 1048575) HT_ ?_; refine pn 20 42 (fb 26 2097151) HT_ ?_; refine pn 21 43 (fb 26 4194303) HT_ ?_; refine pn 22 44 (fb 26 8388607) HT_ ?_; refine pn 23 45 (fb 26 16777215) HT_ ?_; refine pn 24 46 (fb 26 33554431) HT_ ?_; refine pu 25 47 (fb 26 67108863) HT_ ?_; refine done_ (done_of HT_.out (by kernel_rfl)) ?_
         try go_wp2
         go_meet
         case rel => exact ⟨_, (true), Ye1, H', ⟨by have := HK1.out; first | omega | exact Nat.le_refl _⟩, ⟨bk qd.out⟩, ⟨bk qc.out⟩, ⟨be2 HB.out qg.out qi.out⟩⟩
        ·rw [if_neg c16] at H
         have c16b0 : decide (1500 < (((rd_T45 qa qb).f1).size : Int)) = false := decide_eq_false c16; have c16b1 : decide (1500 < ((rd_T45 qa qb).f1).size) = false := decide_eq_false (by omega); clear c16; (first | rw [c16b0] | (simp only [i64_w, i32_w]; rw [c16b0]) | skip)
         by_cases c20 : qb > 0
         ·rw [if_pos c20] at H
          have c20b0 : decide (0 < qb) = true := decide_eq_true c20; clear c20
          obtain ⟨qh, hji21⟩ : ∃ j_ : Int, (wrap64 (qb - 1)) = j_ := ⟨_, rfl⟩
          replace H : (if 0 ≤ (qh) then (if (qh) < (qa.length : Int) then (spec_ValidTree.j1 k1 qb (!(Op.bytesLess (((rd_T45 qa (qh)).f0).toList) (((rd_T45 qa qb).f0).toList))) qa ((rd_T45 qa qb).f0) ((rd_T45 qa qb).f1) ((rd_T45 qa qb).f2)) else (none)) else (none)) = some r := by first | (rw [hji21] at H; exact H) | (simp only [hji21] at H ⊢; exact H)
          (try rw [hji21] at A14); have hji21w : (IntKind.i64.wrap (qb - 1)) = qh := (i64_w _).trans hji21
          by_cases c22 : 0 ≤ (qh)
          ·rw [if_pos c22] at H
           have c22b0 : decide (0 ≤ (qh)) = true := decide_eq_true c22; clear c22
           by_cases c23 : (qh) < (qa.length : Int)
           ·rw [if_pos c23] at H
            have c23b0 : decide ((qh) < (qa.length : Int)) = true := decide_eq_true c23; clear c23; have H' := Aside0.mk H; clear H
            try go_wp2
            have n0_ : Aside0 ((((w11.setCell ⟨qe, 0, none⟩ (.string ((rd_T45 qa qb).f0))).setCell ⟨qe, 1, none⟩ (.string ((rd_T45 qa qb).f1))).setCell ⟨qe, 2, none⟩ (.bool ((rd_T45 qa qb).f2))).heap[gb122]? = some (.cells #[.slice (some ad123) qa.length c0_0] 29 (0, 0))) := ⟨bkf qd.out qj.out⟩
            have n1_ : Aside0 ((((w11.setCell ⟨qe, 0, none⟩ (.string ((rd_T45 qa qb).f0))).setCell ⟨qe, 1, none⟩ (.string ((rd_T45 qa qb).f1))).setCell ⟨qe, 2, none⟩ (.bool ((rd_T45 qa qb).f2))).heap[qe]? = some (.cells #[.string ((rd_T45 qa qb).f0), .string ((rd_T45 qa qb).f1), .bool ((rd_T45 qa qb).f2)] 45 (0, 0))) := ⟨by (with_reducible repeat (first | apply blk_drewN | apply blk_drew | apply blk_alloc)); refine blk_put (cs := #[.string ((rd_T45 qa qb).f0), .string ((rd_T45 qa qb).f1), .bool false]) ?_ 2 _ rfl; (with_reducible repeat (first | apply blk_drewN | apply blk_drew | apply blk_alloc)); refine blk_put (cs := #[.string ((rd_T45 qa qb).f0), .string (⟨#[]⟩ : ByteArray), .bool false]) ?_ 1 _ rfl; (with_reducible repeat (first | apply blk_drewN | apply blk_drew | apply blk_alloc)); refine blk_put (cs := #[.string (⟨#[]⟩ : ByteArray), .string (⟨#[]⟩ : ByteArray), .bool false]) ?_ 0 _ rfl; (with_reducible repeat (first | apply blk_drewN | apply blk_drew | apply blk_alloc)); exact qc.out⟩
            have n2_ : Aside0 (Below w.heap.size w (((w11.setCell ⟨qe, 0, none⟩ (.string ((rd_T45 qa qb).f0))).setCell ⟨qe, 1, none⟩ (.string ((rd_T45 qa qb).f1))).setCell ⟨qe, 2, none⟩ (.bool ((rd_T45 qa qb).f2)))) := ⟨be2 HB.out qg.out qi.out⟩
            (try clear qd); (try clear qc); (try clear HB); generalize (((w11.setCell ⟨qe, 0, none⟩ (.string ((rd_T45 qa qb).f0))).setCell ⟨qe, 1, none⟩ (.string ((rd_T45 qa qb).f1))).setCell ⟨qe, 2, none⟩ (.bool ((rd_T45 qa qb).f2))) = w24 at n0_ n1_ n2_ ⊢; have qd := n0_; have qc := n1_; have HB := n2_; clear n0_ n1_ n2_; refine Ya3 (blk_drew qd.out) (blk_drew qc.out) (below_drew1 HB.out) ?_; clear qd qc HB; intro qd qc HB; have p126 : 0 ≤ ((qh) : Int) := oda; have q126 : (qh) < (qa.length : Int) := oda; obtain ⟨ad126, e126, hx126_0, hx126_1, hx126_2⟩ := at_T45 HR0_0.out (qh) p126 q126; have hw126_2 := hx126_2; have hw126_1 := hx126_1; have hw126_0 := hx126_0
            obtain rfl : ad123 = ad126 := (by injection e126)
            replace hx126_0 := pw_cell_below HB.out hx126_0; replace hx126_1 := pw_cell_below HB.out hx126_1; replace hx126_2 := pw_cell_below HB.out hx126_2; replace p126 := eq_true p126; replace q126 := eq_true q126; refine start_ (n := 26) (S := fun w' => w'.cell? ⟨qe, 0, none⟩ = some (.string ((rd_T45 qa qb).f0)) ∧ w'.cell? ⟨qe, 1, none⟩ = some (.string ((rd_T45 qa qb).f1)) ∧ w'.cell? ⟨qe, 2, none⟩ = some (.bool ((rd_T45 qa qb).f2)) ∧ w'.cell? ⟨gb122, 0, none⟩ = some (.slice (some ad123) qa.length c0_0) ∧ w'.cell? (ad123.add (((qh)).toNat * 3)) = some (.string ((rd_T45 qa (qh)).f0)) ∧ w'.cell? ⟨(ad123.add (((qh)).toNat * 3)).block, (ad123.add (((qh)).toNat * 3)).off + 1, none⟩ = some (.string ((rd_T45 qa (qh)).f1)) ∧ w'.cell? ⟨(ad123.add (((qh)).toNat * 3)).block, (ad123.add (((qh)).toNat * 3)).off + 2, none⟩ = some (.bool ((rd_T45 qa (qh)).f2))) (ds := []) (fb 26 0) (by kernel_rfl) rfl rfl ⟨(blk_cell qc.out 0).trans rfl, (blk_cell qc.out 1).trans rfl, (blk_cell qc.out 2).trans rfl, (blk_cell qd.out 0).trans rfl, (pw_cell_below HB.out hw126_0), (pw_cell_below HB.out hw126_1), (pw_cell_below HB.out hw126_2)⟩ (fun hHeld => ?_); refine with_tabW spec_ValidTree.tab7 spec_ValidTree.bits7 (fun HT_ HW_ => ?_); generalize w24.drew = w25 at qd qc HB hx126_0 hx126_1 hx126_2 hHeld ⊢; refine pu 0 22 (fb 26 1) HT_ ?_; refine tk 1 23 (fb 26 3) HT_ HW_ hHeld ?_; refine one_ (i := 2) (N := some 24) (fb 26 7) rfl rfl (one_of HT_.out (by kernel_rfl)) (by decide) (fun K hK => ?_); refine gs _ (#[.string ((rd_T45 qa qb).f0)]) Tryd.func48 ?_; (with_reducible refine (spec_ValidPath.calls k1 ((rd_T45 qa qb).f0) true _ A14.out).mono ?_); rintro e w26 ⟨rfl, hb⟩; refine ⟨_, rfl, ?_⟩; refine Ya3 (bb qd hb) (bb qc hb) (below_step (be2 HB.out qg.out qi.out) hb) ?_; clear qd qc HB; intro qd qc HB; (try clear hb); (try clear hb2); (try clear hk); (try clear hi); refine hK.out _ _ ⟨(blk_cell qc.out 0).trans rfl, (blk_cell qc.out 1).trans rfl, (blk_cell qc.out 2).trans rfl, (blk_cell qd.out 0).trans rfl, (pw_cell_below HB.out hw126_0), (pw_cell_below HB.out hw126_1), (pw_cell_below HB.out hw126_2)⟩ (fun hHeld => ?_); clear hK K; refine norm_ (a' := ?_) ?_ ?_; rotate_left
            ·show Act.put _ (some 24) _ = _
             simp only [Act.put, List.setIfInBounds_toArray, List.set_cons_zero, List.set_cons_succ, i64_w, i32_w]; rfl
            refine pu 3 25 (fb 26 15) HT_ ?_; refine pu 4 26 (fb 26 31) HT_ ?_; refine pu 5 27 (fb 26 63) HT_ ?_; refine tk 6 28 (fb 26 127) HT_ HW_ hHeld ?_; refine pu 7 29 (fb 26 255) HT_ ?_; refine pu 8 30 (fb 26 511) HT_ ?_; refine pu 9 31 (fb 26 1023) HT_ ?_; refine pu 10 32 (fb 26 2047) HT_ ?_; refine pu 11 33 (fb 26 4095) HT_ ?_; refine pu 12 34 (fb 26 8191) HT_ ?_; refine pu 13 35 (fb 26 16383) HT_ ?_; refine pu 14 36 (fb 26 32767) HT_ ?_; refine pu 16 38 (fb 26 98303) HT_ ?_; refine pu 17 39 (fb 26 229375) HT_ ?_; refine pu 21 43 (fb 26 2326527) HT_ ?_; refine tk 15 37 (fb 26 2359295) HT_ HW_ hHeld ?_; refine pu 18 40 (fb 26 2621439) HT_ ?_; refine pu 19 41 (fb 26 3145727) HT_ ?_; refine tk 20 42 (fb 26 4194303) HT_ HW_ hHeld ?_; refine tk 22 44 (fb 26 8388607) HT_ HW_ hHeld ?_; refine pu 23 45 (fb 26 16777215) HT_ ?_; refine pu 24 46 (fb 26 33554431) HT_ ?_; refine pu 25 47 (fb 26 67108863) HT_ ?_; refine done_ (done_of HT_.out (by kernel_rfl)) ?_
            try go_wp2
            go_meet
            case rel => exact ⟨_, (!(Op.bytesLess (((rd_T45 qa (qh)).f0).toList) (((rd_T45 qa qb).f0).toList))), (by first | rfl | (simp; done) | (simp only [← hji21] <;> (first | rfl | simp)) | (simp [*]; done)), (by first | exact H' | (subst hji21; exact H') | (simp only [← hji21] at H' ⊢; exact H')), ⟨by have := HK1.out; first | omega | exact Nat.le_refl _⟩, ⟨bk qd.out⟩, ⟨bk qc.out⟩, ⟨be2 HB.out qg.out qi.out⟩⟩
           ·rw [if_neg c23] at H
            exact absurd H (by simp)
          ·rw [if_neg c22] at H
           exact absurd H (by simp)
         ·rw [if_neg c20] at H
          have c20b0 : decide (0 < qb) = false := decide_eq_false c20; clear c20; have H' := Aside0.mk H; clear H
          try go_wp2
          have n0_ : Aside0 ((((w11.setCell ⟨qe, 0, none⟩ (.string ((rd_T45 qa qb).f0))).setCell ⟨qe, 1, none⟩ (.string ((rd_T45 qa qb).f1))).setCell ⟨qe, 2, none⟩ (.bool ((rd_T45 qa qb).f2))).heap[gb122]? = some (.cells #[.slice (some ad123) qa.length c0_0] 29 (0, 0))) := ⟨bkf qd.out qj.out⟩
          have n1_ : Aside0 ((((w11.setCell ⟨qe, 0, none⟩ (.string ((rd_T45 qa qb).f0))).setCell ⟨qe, 1, none⟩ (.string ((rd_T45 qa qb).f1))).setCell ⟨qe, 2, none⟩ (.bool ((rd_T45 qa qb).f2))).heap[qe]? = some (.cells #[.string ((rd_T45 qa qb).f0), .string ((rd_T45 qa qb).f1), .bool ((rd_T45 qa qb).f2)] 45 (0, 0))) := ⟨by (with_reducible repeat (first | apply blk_drewN | apply blk_drew | apply blk_alloc)); refine blk_put (cs := #[.string ((rd_T45 qa qb).f0), .string ((rd_T45 qa qb).f1), .bool false]) ?_ 2 _ rfl; (with_reducible repeat (first | apply blk_drewN | apply blk_drew | apply blk_alloc)); refine blk_put (cs := #[.string ((rd_T45 qa qb).f0), .string (⟨#[]⟩ : ByteArray), .bool false]) ?_ 1 _ rfl; (with_reducible repeat (first | apply blk_drewN | apply blk_drew | apply blk_alloc)); refine blk_put (cs := #[.string (⟨#[]⟩ : ByteArray), .string (⟨#[]⟩ : ByteArray), .bool false]) ?_ 0 _ rfl; (with_reducible repeat (first | apply blk_drewN | apply blk_drew | apply blk_alloc)); exact qc.out⟩
          have n2_ : Aside0 (Below w.heap.size w (((w11.setCell ⟨qe, 0, none⟩ (.string ((rd_T45 qa qb).f0))).setCell ⟨qe, 1, none⟩ (.string ((rd_T45 qa qb).f1))).setCell ⟨qe, 2, none⟩ (.bool ((rd_T45 qa qb).f2)))) := ⟨be2 HB.out qg.out qi.out⟩
          (try clear qd); (try clear qc); (try clear HB); generalize (((w11.setCell ⟨qe, 0, none⟩ (.string ((rd_T45 qa qb).f0))).setCell ⟨qe, 1, none⟩ (.string ((rd_T45 qa qb).f1))).setCell ⟨qe, 2, none⟩ (.bool ((rd_T45 qa qb).f2))) = w27 at n0_ n1_ n2_ ⊢; have qd := n0_; have qc := n1_; have HB := n2_; clear n0_ n1_ n2_; refine Ya3 (blk_drew qd.out) (blk_drew qc.out) (below_drew1 HB.out) ?_; clear qd qc HB; intro qd qc HB; refine start_ (n := 26) (S := fun w' => w'.cell? ⟨qe, 0, none⟩ = some (.string ((rd_T45 qa qb).f0)) ∧ w'.cell? ⟨qe, 1, none⟩ = some (.string ((rd_T45 qa qb).f1)) ∧ w'.cell? ⟨qe, 2, none⟩ = some (.bool ((rd_T45 qa qb).f2))) (ds := []) (fb 26 0) (by kernel_rfl) rfl rfl ⟨(blk_cell qc.out 0).trans rfl, (blk_cell qc.out 1).trans rfl, (blk_cell qc.out 2).trans rfl⟩ (fun hHeld => ?_); refine with_tabW spec_ValidTree.tab7 spec_ValidTree.bits7 (fun HT_ HW_ => ?_); generalize w27.drew = w28 at qd qc HB hHeld ⊢; refine pu 0 22 (fb 26 1) HT_ ?_; refine tk 1 23 (fb 26 3) HT_ HW_ hHeld ?_; refine one_ (i := 2) (N := some 24) (fb 26 7) rfl rfl (one_of HT_.out (by kernel_rfl)) (by decide) (fun K hK => ?_); refine gs _ (#[.string ((rd_T45 qa qb).f0)]) Tryd.func48 ?_; (with_reducible refine (spec_ValidPath.calls k1 ((rd_T45 qa qb).f0) true _ A14.out).mono ?_); rintro e w29 ⟨rfl, hb⟩; refine ⟨_, rfl, ?_⟩; refine Ya3 (bb qd hb) (bb qc hb) (below_step (be2 HB.out qg.out qi.out) hb) ?_; clear qd qc HB; intro qd qc HB; (try clear hb); (try clear hb2); (try clear hk); (try clear hi); refine hK.out _ _ ⟨(blk_cell qc.out 0).trans rfl, (blk_cell qc.out 1).trans rfl, (blk_cell qc.out 2).trans rfl⟩ (fun hHeld => ?_); clear hK K; refine norm_ (a' := ?_) ?_ ?_; rotate_left
          ·show Act.put _ (some 24) _ = _
           simp only [Act.put, List.setIfInBounds_toArray, List.set_cons_zero, List.set_cons_succ, i64_w, i32_w]; rfl
          refine pu 3 25 (fb 26 15) HT_ ?_; refine pu 4 26 (fb 26 31) HT_ ?_; refine pu 5 27 (fb 26 63) HT_ ?_; refine tk 6 28 (fb 26 127) HT_ HW_ hHeld ?_; refine pu 7 29 (fb 26 255) HT_ ?_; refine pu 8 30 (fb 26 511) HT_ ?_; refine pu 9 31 (fb 26 1023) HT_ ?_; refine pu 10 32 (fb 26 2047) HT_ ?_; refine pu 11 33 (fb 26 4095) HT_ ?_; refine pu 12 34 (fb 26 8191) HT_ ?_; refine pu 13 35 (fb 26 16383) HT_ ?_; refine pn 14 36 (fb 26 32767) HT_ ?_; refine pn 15 37 (fb 26 65535) HT_ ?_; refine pn 16 38 (fb 26 131071) HT_ ?_; refine pn 17 39 (fb 26 262143) HT_ ?_; refine pn 18 40 (fb 26 524287) HT_ ?_; refine pn 19 41 (fb 26 1048575) HT_ ?_; refine pn 20 42 (fb 26 2097151) HT_ ?_; refine pn 21 43 (fb 26 4194303) HT_ ?_; refine pn 22 44 (fb 26 8388607) HT_ ?_; refine pn 23 45 (fb 26 16777215) HT_ ?_; refine pu 24 46 (fb 26 33554431) HT_ ?_; refine pu 25 47 (fb 26 67108863) HT_ ?_; refine done_ (done_of HT_.out (by kernel_rfl)) ?_
          try go_wp2
          go_meet
          case rel => exact ⟨_, (false), Ye1, H', ⟨by have := HK1.out; first | omega | exact Nat.le_refl _⟩, ⟨bk qd.out⟩, ⟨bk qc.out⟩, ⟨be2 HB.out qg.out qi.out⟩⟩
       ·replace c15 := Bool.eq_false_iff.mpr c15; subst c15
        have H1 : (spec_ValidTree.j1 k1 qb true qa ((rd_T45 qa qb).f0) ((rd_T45 qa qb).f1) ((rd_T45 qa qb).f2)) = some r := by rw [if_neg (show ¬ (false = true) by decide)] at H; exact H
        clear H; have H := H1; clear H1; have H' := Aside0.mk H; clear H
        try go_wp2
        have n0_ : Aside0 ((((w11.setCell ⟨qe, 0, none⟩ (.string ((rd_T45 qa qb).f0))).setCell ⟨qe, 1, none⟩ (.string ((rd_T45 qa qb).f1))).setCell ⟨qe, 2, none⟩ (.bool ((rd_T45 qa qb).f2))).heap[gb122]? = some (.cells #[.slice (some ad123) qa.length c0_0] 29 (0, 0))) := ⟨bkf qd.out qj.out⟩
        have n1_ : Aside0 ((((w11.setCell ⟨qe, 0, none⟩ (.string ((rd_T45 qa qb).f0))).setCell ⟨qe, 1, none⟩ (.string ((rd_T45 qa qb).f1))).setCell ⟨qe, 2, none⟩ (.bool ((rd_T45 qa qb).f2))).heap[qe]? = some (.cells #[.string ((rd_T45 qa qb).f0), .string ((rd_T45 qa qb).f1), .bool ((rd_T45 qa qb).f2)] 45 (0, 0))) := ⟨by (with_reducible repeat (first | apply blk_drewN | apply blk_drew | apply blk_alloc)); refine blk_put (cs := #[.string ((rd_T45 qa qb).f0), .string ((rd_T45 qa qb).f1), .bool false]) ?_ 2 _ rfl; (with_reducible repeat (first | apply blk_drewN | apply blk_drew | apply blk_alloc)); refine blk_put (cs := #[.string ((rd_T45 qa qb).f0), .string (⟨#[]⟩ : ByteArray), .bool false]) ?_ 1 _ rfl; (with_reducible repeat (first | apply blk_drewN | apply blk_drew | apply blk_alloc)); refine blk_put (cs := #[.string (⟨#[]⟩ : ByteArray), .string (⟨#[]⟩ : ByteArray), .bool false]) ?_ 0 _ rfl; (with_reducible repeat (first | apply blk_drewN | apply blk_drew | apply blk_alloc)); exact qc.out⟩
        have n2_ : Aside0 (Below w.heap.size w (((w11.setCell ⟨qe, 0, none⟩ (.string ((rd_T45 qa qb).f0))).setCell ⟨qe, 1, none⟩ (.string ((rd_T45 qa qb).f1))).setCell ⟨qe, 2, none⟩ (.bool ((rd_T45 qa qb).f2)))) := ⟨be2 HB.out qg.out qi.out⟩
        (try clear qd); (try clear qc); (try clear HB); generalize (((w11.setCell ⟨qe, 0, none⟩ (.string ((rd_T45 qa qb).f0))).setCell ⟨qe, 1, none⟩ (.string ((rd_T45 qa qb).f1))).setCell ⟨qe, 2, none⟩ (.bool ((rd_T45 qa qb).f2))) = w30 at n0_ n1_ n2_ ⊢; have qd := n0_; have qc := n1_; have HB := n2_; clear n0_ n1_ n2_; refine Ya3 (blk_drew qd.out) (blk_drew qc.out) (below_drew1 HB.out) ?_; clear qd qc HB; intro qd qc HB; refine start_ (n := 26) (S := fun w' => w'.cell? ⟨qe, 0, none⟩ = some (.string ((rd_T45 qa qb).f0)) ∧ w'.cell? ⟨qe, 1, none⟩ = some (.string ((rd_T45 qa qb).f1)) ∧ w'.cell? ⟨qe, 2, none⟩ = some (.bool ((rd_T45 qa qb).f2))) (ds := []) (fb 26 0) (by kernel_rfl) rfl rfl ⟨(blk_cell qc.out 0).trans rfl, (blk_cell qc.out 1).trans rfl, (blk_cell qc.out 2).trans rfl⟩ (fun hHeld => ?_); refine with_tabW spec_ValidTree.tab7 spec_ValidTree.bits7 (fun HT_ HW_ => ?_); generalize w30.drew = w31 at qd qc HB hHeld ⊢; refine pu 0 22 (fb 26 1) HT_ ?_; refine tk 1 23 (fb 26 3) HT_ HW_ hHeld ?_; refine one_ (i := 2) (N := some 24) (fb 26 7) rfl rfl (one_of HT_.out (by kernel_rfl)) (by decide) (fun K hK => ?_); refine gs _ (#[.string ((rd_T45 qa qb).f0)]) Tryd.func48 ?_; (with_reducible refine (spec_ValidPath.calls k1 ((rd_T45 qa qb).f0) false _ A14.out).mono ?_); rintro e w32 ⟨rfl, hb⟩; refine ⟨_, rfl, ?_⟩; refine Ya3 (bb qd hb) (bb qc hb) (below_step (be2 HB.out qg.out qi.out) hb) ?_; clear qd qc HB; intro qd qc HB; (try clear hb); (try clear hb2); (try clear hk); (try clear hi); refine hK.out _ _ ⟨(blk_cell qc.out 0).trans rfl, (blk_cell qc.out 1).trans rfl, (blk_cell qc.out 2).trans rfl⟩ (fun hHeld => ?_); clear hK K; refine norm_ (a' := ?_) ?_ ?_; rotate_left
        ·show Act.put _ (some 24) _ = _
         simp only [Act.put, List.setIfInBounds_toArray, List.set_cons_zero, List.set_cons_succ, i64_w, i32_w]; rfl
        refine pu 3 25 (fb 26 15) HT_ ?_; refine pu 4 26 (fb 26 31) HT_ ?_; refine pn 5 27 (fb 26 63) HT_ ?_; refine pn 6 28 (fb 26 127) HT_ ?_; refine pn 7 29 (fb 26 255) HT_ ?_; refine pn 8 30 (fb 26 511) HT_ ?_; refine pu 9 31 (fb 26 1023) HT_ ?_; refine pu 10 32 (fb 26 2047) HT_ ?_; refine pn 11 33 (fb 26 4095) HT_ ?_; refine pn 12 34 (fb 26 8191) HT_ ?_; refine pn 13 35 (fb 26 16383) HT_ ?_; refine pn 14 36 (fb 26 32767) HT_ ?_; refine pn 15 37 (fb 26 65535) HT_ ?_; refine pn 16 38 (fb 26 131071) HT_ ?_; refine pn 17 39 (fb 26 262143) HT_ ?_; refine pn 18 40 (fb 26 524287) HT_ ?_; refine pn 19 41 (fb 26 1048575) HT_ ?_; refine pn 20 42 (fb 26 2097151) HT_ ?_; refine pn 21 43 (fb 26 4194303) HT_ ?_; refine pn 22 44 (fb 26 8388607) HT_ ?_; refine pn 23 45 (fb 26 16777215) HT_ ?_; refine pn 24 46 (fb 26 33554431) HT_ ?_; refine pu 25 47 (fb 26 67108863) HT_ ?_; refine done_ (done_of HT_.out (by kernel_rfl)) ?_
        try go_wp2
        go_meet
        case rel => exact ⟨_, (true), Ye1, H', ⟨by have := HK1.out; first | omega | exact Nat.le_refl _⟩, ⟨bk qd.out⟩, ⟨bk qc.out⟩, ⟨be2 HB.out qg.out qi.out⟩⟩
      case rest =>
       clear HC9; (try clear c1); (try clear c2); (try clear p2); (try clear c4); (try clear c15); (try clear c20); (try clear c20b0); (try clear c22); (try clear c23); obtain ⟨kq, x47_8, rfl, HA, HJ8, qd, qc, HB⟩ := hcut
       cases kq with
       | zero => exact absurd HA.out (by simp [spec_ValidTree.j1])
       | succ kj8 =>
        have H := HA.out; clear HA; simp only [spec_ValidTree.j1] at H
        by_cases c33 : x47_8 = true
        ·subst c33
         have H1 : (some false) = some r := by rw [if_pos rfl] at H; exact H
         clear H; have H := H1; clear H1; obtain rfl := Option.some.inj H
         go_wp2
         go_ret
         exact ⟨Ye2, (by first | exact be2 HB.out qg.out qi.out | exact be1 HB.out qg.out | exact be HB.out)⟩
        ·replace c33 := Bool.eq_false_iff.mpr c33; subst c33
         have H1 : (spec_ValidTree.l1 kj8 qb 0 qa ((rd_T45 qa qb).f0) ((rd_T45 qa qb).f1) ((rd_T45 qa qb).f2)) = some r := by rw [if_neg (show ¬ (false = true) by decide)] at H; exact H
         clear H; have H := H1; clear H1; have H' := Aside0.mk H; clear H
         go_wp2
         go_loopg [5] kj8 (fun kq v5 w' => ∃ (qf : Int), v5 = .int .i64 qf ∧ Aside0 (spec_ValidTree.l1 kq qb qf qa ((rd_T45 qa qb).f0) ((rd_T45 qa qb).f1) ((rd_T45 qa qb).f2) = some r) ∧ Aside0 (kq ≤ kj8) ∧ Aside0 (w'.heap[gb122]? = some (.cells #[(.slice (some ad123) qa.length c0_0)] 29 (0, 0))) ∧ Aside0 (w'.heap[qe]? = some (.cells #[.string ((rd_T45 qa qb).f0), .string ((rd_T45 qa qb).f1), .bool ((rd_T45 qa qb).f2)] 45 (0, 0))) ∧ Aside0 (Below w.heap.size w w'))
         case atStart => exact ⟨(0), Ye1, H', ⟨Nat.le_refl _⟩, ⟨bk qd.out⟩, ⟨bk qc.out⟩, ⟨be2 HB.out qg.out qi.out⟩⟩
         case round =>
          clear H'; (try clear c1); (try clear c2); (try clear p2); (try clear c3); (try clear c4); (try clear c15); (try clear c20); (try clear c20b0); (try clear c22); (try clear c23); (try clear c33); (try clear p2); obtain ⟨qf, rfl, HA, HK3, qd, qc, HB⟩ := hrel
          cases gk with
          | zero => exact absurd HA.out (by simp [spec_ValidTree.l1])
          | succ k3 =>
           have H := HA.out; clear HA; simp only [spec_ValidTree.l1] at H
           by_cases c34 : qf < qb
           ·rw [if_pos c34] at H
            have c34b0 : decide (qf < qb) = true := decide_eq_true c34; clear c34
            by_cases c35 : 0 ≤ qf
            ·rw [if_pos c35] at H
             have c35b0 : decide (0 ≤ qf) = true := decide_eq_true c35; clear c35
             by_cases c36 : qf < (qa.length : Int)
             ·rw [if_pos c36] at H
              have c36b0 : decide (qf < (qa.length : Int)) = true := decide_eq_true c36; clear c36; replace H := Option.bind_eq_some_iff.mp H; obtain ⟨t128, A370, H⟩ := H; replace H : (if t128 = true then (some false) else (spec_ValidTree.l1 k3 qb (wrap64 (qf + 1)) qa ((rd_T45 qa qb).f0) ((rd_T45 qa qb).f1) ((rd_T45 qa qb).f2))) = some r := H; have A37 := Aside0.mk A370; clear A370
              by_cases c38 : t128 = true
              ·subst c38
               have H1 : (some false) = some r := by rw [if_pos rfl] at H; exact H
               clear H; have H := H1; clear H1; obtain rfl := Option.some.inj H
               try go_wp2
               refine Ya3 (blk_drew qd.out) (blk_drew qc.out) (below_drew1 HB.out) ?_; clear qd qc HB; intro qd qc HB; have p127 : 0 ≤ (qf : Int) := oda; have q127 : qf < (qa.length : Int) := oda; obtain ⟨ad127, e127, hx127_0, hx127_1, hx127_2⟩ := at_T45 HR0_0.out qf p127 q127; have hw127_2 := hx127_2; have hw127_1 := hx127_1; have hw127_0 := hx127_0
               obtain rfl : ad123 = ad127 := (by injection e127)
               replace hx127_0 := pw_cell_below HB.out hx127_0; replace hx127_1 := pw_cell_below HB.out hx127_1; replace hx127_2 := pw_cell_below HB.out hx127_2; replace p127 := eq_true p127; replace q127 := eq_true q127; refine start_ (n := 9) (S := fun w' => w'.cell? ⟨gb122, 0, none⟩ = some (.slice (some ad123) qa.length c0_0) ∧ w'.cell? ⟨qe, 0, none⟩ = some (.string ((rd_T45 qa qb).f0)) ∧ w'.cell? ⟨qe, 1, none⟩ = some (.string ((rd_T45 qa qb).f1)) ∧ w'.cell? ⟨qe, 2, none⟩ = some (.bool ((rd_T45 qa qb).f2)) ∧ w'.cell? (ad123.add ((qf).toNat * 3)) = some (.string ((rd_T45 qa qf).f0)) ∧ w'.cell? ⟨(ad123.add ((qf).toNat * 3)).block, (ad123.add ((qf).toNat * 3)).off + 1, none⟩ = some (.string ((rd_T45 qa qf).f1)) ∧ w'.cell? ⟨(ad123.add ((qf).toNat * 3)).block, (ad123.add ((qf).toNat * 3)).off + 2, none⟩ = some (.bool ((rd_T45 qa qf).f2))) (ds := []) (fb 9 0) (by kernel_rfl) rfl rfl ⟨(blk_cell qd.out 0).trans rfl, (blk_cell qc.out 0).trans rfl, (blk_cell qc.out 1).trans rfl, (blk_cell qc.out 2).trans rfl, (pw_cell_below HB.out hw127_0), (pw_cell_below HB.out hw127_1), (pw_cell_below HB.out hw127_2)⟩ (fun hHeld => ?_); refine with_tabW spec_ValidTree.tab12 spec_ValidTree.bits12 (fun HT_ HW_ => ?_); generalize wr.drew = w39 at qd qc HB hx127_0 hx127_1 hx127_2 hHeld ⊢; refine pu 0 53 (fb 9 1) HT_ ?_; refine pu 2 55 (fb 9 5) HT_ ?_; refine pu 6 59 (fb 9 69) HT_ ?_; refine tk 1 54 (fb 9 71) HT_ HW_ hHeld ?_; refine pu 3 56 (fb 9 79) HT_ ?_; refine pu 4 57 (fb 9 95) HT_ ?_; refine tk 5 58 (fb 9 127) HT_ HW_ hHeld ?_; refine tk 7 60 (fb 9 255) HT_ HW_ hHeld ?_; refine one_ (i := 8) (N := some 61) (fb 9 511) rfl rfl (one_of HT_.out (by kernel_rfl)) (by decide) (fun K hK => ?_); refine gs _ (#[.string ((rd_T45 qa qf).f0), .string ((rd_T45 qa qb).f0)]) Tryd.func49 ?_; (with_reducible refine (spec_l5Begins.calls ((rd_T45 qa qf).f0) ((rd_T45 qa qb).f0) true _ A37.out).mono ?_); rintro e w' ⟨rfl, ⟨nd, rfl⟩⟩; refine ⟨_, rfl, ?_⟩; refine hK.out _ _ ⟨(blk_cell qd.out 0).trans rfl, (blk_cell qc.out 0).trans rfl, (blk_cell qc.out 1).trans rfl, (blk_cell qc.out 2).trans rfl, (pw_cell_below HB.out hw127_0), (pw_cell_below HB.out hw127_1), (pw_cell_below HB.out hw127_2)⟩ (fun hHeld => ?_); clear hK K; refine norm_ (a' := ?_) ?_ ?_; rotate_left
               ·show Act.put _ (some 61) _ = _
                simp only [Act.put, List.setIfInBounds_toArray, List.set_cons_zero, List.set_cons_succ, i64_w, i32_w]; rfl
               refine done_ (done_of HT_.out (by kernel_rfl)) ?_
               try go_wp2
               go_ret
               exact ⟨Ye2, (by first | exact be2 HB.out qg.out qi.out | exact be1 HB.out qg.out | exact be HB.out)⟩
              ·replace c38 := Bool.eq_false_iff.mpr c38; subst c38
               have H1 : (spec_ValidTree.l1 k3 qb (wrap64 (qf + 1)) qa ((rd_T45 qa qb).f0) ((rd_T45 qa qb).f1) ((rd_T45 qa qb).f2)) = some r := by rw [if_neg (show ¬ (false = true) by decide)] at H; exact H
               clear H; have H := H1; clear H1; have H' := Aside0.mk H; clear H
               try go_wp2
               refine Ya3 (blk_drew qd.out) (blk_drew qc.out) (below_drew1 HB.out) ?_; clear qd qc HB; intro qd qc HB; have p127 : 0 ≤ (qf : Int) := oda; have q127 : qf < (qa.length : Int) := oda; obtain ⟨ad127, e127, hx127_0, hx127_1, hx127_2⟩ := at_T45 HR0_0.out qf p127 q127; have hw127_2 := hx127_2; have hw127_1 := hx127_1; have hw127_0 := hx127_0
               obtain rfl : ad123 = ad127 := (by injection e127)
               replace hx127_0 := pw_cell_below HB.out hx127_0; replace hx127_1 := pw_cell_below HB.out hx127_1; replace hx127_2 := pw_cell_below HB.out hx127_2; replace p127 := eq_true p127; replace q127 := eq_true q127; refine start_ (n := 9) (S := fun w' => w'.cell? ⟨gb122, 0, none⟩ = some (.slice (some ad123) qa.length c0_0) ∧ w'.cell? ⟨qe, 0, none⟩ = some (.string ((rd_T45 qa qb).f0)) ∧ w'.cell? ⟨qe, 1, none⟩ = some (.string ((rd_T45 qa qb).f1)) ∧ w'.cell? ⟨qe, 2, none⟩ = some (.bool ((rd_T45 qa qb).f2)) ∧ w'.cell? (ad123.add ((qf).toNat * 3)) = some (.string ((rd_T45 qa qf).f0)) ∧ w'.cell? ⟨(ad123.add ((qf).toNat * 3)).block, (ad123.add ((qf).toNat * 3)).off + 1, none⟩ = some (.string ((rd_T45 qa qf).f1)) ∧ w'.cell? ⟨(ad123.add ((qf).toNat * 3)).block, (ad123.add ((qf).toNat * 3)).off + 2, none⟩ = some (.bool ((rd_T45 qa qf).f2))) (ds := []) (fb 9 0) (by kernel_rfl) rfl rfl ⟨(blk_cell qd.out 0).trans rfl, (blk_cell qc.out 0).trans rfl, (blk_cell qc.out 1).trans rfl, (blk_cell qc.out 2).trans rfl, (pw_cell_below HB.out hw127_0), (pw_cell_below HB.out hw127_1), (pw_cell_below HB.out hw127_2)⟩ (fun hHeld => ?_); refine with_tabW spec_ValidTree.tab12 spec_ValidTree.bits12 (fun HT_ HW_ => ?_); generalize wr.drew = w40 at qd qc HB hx127_0 hx127_1 hx127_2 hHeld ⊢; refine pu 0 53 (fb 9 1) HT_ ?_; refine pu 2 55 (fb 9 5) HT_ ?_; refine pu 6 59 (fb 9 69) HT_ ?_; refine tk 1 54 (fb 9 71) HT_ HW_ hHeld ?_; refine pu 3 56 (fb 9 79) HT_ ?_; refine pu 4 57 (fb 9 95) HT_ ?_; refine tk 5 58 (fb 9 127) HT_ HW_ hHeld ?_; refine tk 7 60 (fb 9 255) HT_ HW_ hHeld ?_; refine one_ (i := 8) (N := some 61) (fb 9 511) rfl rfl (one_of HT_.out (by kernel_rfl)) (by decide) (fun K hK => ?_); refine gs _ (#[.string ((rd_T45 qa qf).f0), .string ((rd_T45 qa qb).f0)]) Tryd.func49 ?_; (with_reducible refine (spec_l5Begins.calls ((rd_T45 qa qf).f0) ((rd_T45 qa qb).f0) false _ A37.out).mono ?_); rintro e w' ⟨rfl, ⟨nd, rfl⟩⟩; refine ⟨_, rfl, ?_⟩; refine hK.out _ _ ⟨(blk_cell qd.out 0).trans rfl, (blk_cell qc.out 0).trans rfl, (blk_cell qc.out 1).trans rfl, (blk_cell qc.out 2).trans rfl, (pw_cell_below HB.out hw127_0), (pw_cell_below HB.out hw127_1), (pw_cell_below HB.out hw127_2)⟩ (fun hHeld => ?_); clear hK K; refine norm_ (a' := ?_) ?_ ?_; rotate_left
               ·show Act.put _ (some 61) _ = _
                simp only [Act.put, List.setIfInBounds_toArray, List.set_cons_zero, List.set_cons_succ, i64_w, i32_w]; rfl
               refine done_ (done_of HT_.out (by kernel_rfl)) ?_
               try go_wp2
               go_roundg k3
               case measure => have := HK1.out; have := HJ8.out; have := HK3.out; omega
               case rel => exact ⟨(wrap64 (qf + 1)), Ye1, H', ⟨by have := HK1.out; have := HJ8.out; have := HK3.out; omega⟩, ⟨bk qd.out⟩, ⟨bk qc.out⟩, ⟨be2 HB.out qg.out qi.out⟩⟩
             ·rw [if_neg c36] at H
              exact absurd H (by simp)
            ·rw [if_neg c35] at H
             exact absurd H (by simp)
           ·rw [if_neg c34] at H
            have c34b0 : decide (qf < qb) = false := decide_eq_false c34; clear c34; have H' := Aside0.mk H; clear H
            go_wp2
            go_roundg k3
            case measure => have := HK1.out; have := HJ8.out; have := HK3.out; omega
            case rel => exact ⟨(wrap64 (qb + 1)), Ye1, H', ⟨by have := HK1.out; have := HJ8.out; have := HK3.out; omega⟩, ⟨bk qd.out⟩, ⟨be2 HB.out qg.out qi.out⟩⟩
     ·rw [if_neg c8] at H
      exact absurd H (by simp)
    ·rw [if_neg c7] at H
     have c7b0 : decide (qb < (qa.length : Int)) = false := decide_eq_false c7; clear c7; obtain rfl := Option.some.inj H; have ⟨hcz41_0, hfz41_0⟩ := Yc1 qd.out
     go_wp2
     go_ret
     exact ⟨Ye2, (by first | exact be1 HB.out qg.out | exact be HB.out)⟩

end Go.Proofs.YtkdghhkpmkfjhaaDoor.P


namespace Go.Proofs.YtkdghhkpmkfjhaaDoor.P
open Go.RowKit Go.Proofs.YtkdghhkpmkfjhaaDoorW.PrintWords Go.Proofs.YtkdghhkpmkfjhaaDoorW.PrintLast Go.Proofs.YtkdghhkpmkfjhaaDoorW.PrintMore
attribute [local go_sem] max2_int min2_int max_two min_two max_three min_three max_four min_four
set_option linter.unusedVariables false
set_option linter.unusedSimpArgs false

/-! ### spec_Put: function 42 -/
mutual
def spec_Put.j0 : Nat → Bool → List (S45) → ByteArray → ByteArray → Bool → Option ((List (S45)) × Int)
 | 0, _, _, _, _, _ => none
 | k + 1, x21, x623000, x624000, x624001, x624002 => if x21 = true then (some (([] : List (S45)), 2)) else (spec_Put.l0 k 0 x623000 x624000 x624001 x624002)
def spec_Put.l0 : Nat → Int → List (S45) → ByteArray → ByteArray → Bool → Option ((List (S45)) × Int)
 | 0, _, _, _, _, _ => none
 | k + 1, x6, x623000, x624000, x624001, x624002 => if x6 < (x623000.length : Int) then (if 0 ≤ x6 then ((spec_l5Begins.f ((rd_T45 x623000 x6).f0) x624000).bind fun t632 => (if t632 = true then (some (([] : List (S45)), 3)) else ((spec_l5Begins.f x624000 ((rd_T45 x623000 x6).f0)).bind fun t634 => (if t634 = true then (some (([] : List (S45)), 3)) else (spec_Put.l0 k (wrap64 (x6 + 1)) x623000 x624000 x624001 x624002))))) else (none)) else ((spec_l5Set.f k x623000 x624000 x624001 x624002).bind fun t627 => (if (t627.length : Int) > 100 then (some (([] : List (S45)), 4)) else (some (t627, 0))))
end
def spec_Put.f (k : Nat) (qf : List (S45)) (a1_0 : ByteArray) (a1_1 : ByteArray) (a1_2 : Bool) : Option ((List (S45)) × Int) := (spec_ValidTree.f k qf).bind fun t625 => (if t625 = true then ((spec_ValidPath.f k a1_0).bind fun t626 => (if t626 = true then (spec_Put.j0 k (decide ((a1_1.size : Int) > 1500)) qf a1_0 a1_1 a1_2) else (spec_Put.j0 k true qf a1_0 a1_1 a1_2))) else (some (([] : List (S45)), 1)))
theorem spec_Put.mono_l : ∀ k, (∀ y0 y1 y2 y3 y4, LeO (spec_Put.j0 k y0 y1 y2 y3 y4) (spec_Put.j0 (k + 1) y0 y1 y2 y3 y4)) ∧ (∀ y0 y1 y2 y3 y4, LeO (spec_Put.l0 k y0 y1 y2 y3 y4) (spec_Put.l0 (k + 1) y0 y1 y2 y3 y4))
 | 0 => ⟨fun _ _ _ _ _ r h => by simp [spec_Put.j0] at h, fun _ _ _ _ _ r h => by simp [spec_Put.l0] at h⟩
 | k + 1 => by
  obtain ⟨ih0, ih1⟩ := spec_Put.mono_l k; refine ⟨?_, ?_⟩
  ·intro y0 y1 y2 y3 y4
   unfold spec_Put.j0
   repeat' first
   | (with_reducible exact ih0 _ _ _ _ _)
   | (with_reducible exact ih1 _ _ _ _ _)
   | (with_reducible exact spec_ValidPath.mono _ _)
   | (with_reducible exact spec_ValidTree.mono _ _)
   | (with_reducible exact spec_l5Set.mono _ _ _ _ _)
   | (with_reducible exact LeO.refl _)
   | (with_reducible exact LeO.none _)
   | (with_reducible refine LeO.ite ?_ ?_)
   | (with_reducible refine LeO.bind ?_ (fun _ => ?_))
   | exact ih0 _ _ _ _ _
   | exact ih1 _ _ _ _ _
   | exact spec_ValidPath.mono _ _
   | exact spec_ValidTree.mono _ _
   | exact spec_l5Set.mono _ _ _ _ _
   | exact LeO.none _
   | refine LeO.ite ?_ ?_
   | refine LeO.bind ?_ (fun _ => ?_)
  ·intro y0 y1 y2 y3 y4
   unfold spec_Put.l0
   repeat' first
   | (with_reducible exact ih0 _ _ _ _ _)
   | (with_reducible exact ih1 _ _ _ _ _)
   | (with_reducible exact spec_ValidPath.mono _ _)
   | (with_reducible exact spec_ValidTree.mono _ _)
   | (with_reducible exact spec_l5Set.mono _ _ _ _ _)
   | (with_reducible exact LeO.refl _)
   | (with_reducible exact LeO.none _)
   | (with_reducible refine LeO.ite ?_ ?_)
   | (with_reducible refine LeO.bind ?_ (fun _ => ?_))
   | exact ih0 _ _ _ _ _
   | exact ih1 _ _ _ _ _
   | exact spec_ValidPath.mono _ _
   | exact spec_ValidTree.mono _ _
   | exact spec_l5Set.mono _ _ _ _ _
   | exact LeO.none _
   | refine LeO.ite ?_ ?_
   | refine LeO.bind ?_ (fun _ => ?_)
theorem spec_Put.mono : ∀ a0 a1 a2 a3 k, LeO (spec_Put.f k a0 a1 a2 a3) (spec_Put.f (k + 1) a0 a1 a2 a3) := by
 intro a0 a1 a2 a3 k; obtain ⟨ih0, ih1⟩ := spec_Put.mono_l k
 unfold spec_Put.f
 repeat' first
   | (with_reducible exact ih0 _ _ _ _ _)
   | (with_reducible exact ih1 _ _ _ _ _)
   | (with_reducible exact spec_ValidPath.mono _ _)
   | (with_reducible exact spec_ValidTree.mono _ _)
   | (with_reducible exact spec_l5Set.mono _ _ _ _ _)
   | (with_reducible exact LeO.refl _)
   | (with_reducible exact LeO.none _)
   | (with_reducible refine LeO.ite ?_ ?_)
   | (with_reducible refine LeO.bind ?_ (fun _ => ?_))
   | exact ih0 _ _ _ _ _
   | exact ih1 _ _ _ _ _
   | exact spec_ValidPath.mono _ _
   | exact spec_ValidTree.mono _ _
   | exact spec_l5Set.mono _ _ _ _ _
   | exact LeO.none _
   | refine LeO.ite ?_ ?_
   | refine LeO.bind ?_ (fun _ => ?_)
set_option maxHeartbeats 8000000 in
set_option maxRecDepth 100000 in
theorem spec_Put.calls (k : Nat) (A0_0 : Option Addr) (c0_0 : Nat) (qf : List (S45)) (a1_0 : ByteArray) (a1_1 : ByteArray) (a1_2 : Bool) (r1 : List (S45)) (r2 : Int) (w : World) (hr0_0 : Kd.C k45 w A0_0 qf.length qf) (hc0_0 : qf.length ≤ c0_0) (h : spec_Put.f k qf a1_0 a1_1 a1_2 = some (r1, r2)) :
  Calls Tryd.prog 42 #[.agg #[.slice A0_0 qf.length c0_0], .agg #[.string a1_0, .string a1_1, .bool a1_2]] w fun e w' => ∃ v0_ : Value, e = .returned (.tuple #[.agg #[v0_], .int .i64 r2]) ∧ Kd.R k45 45 w' w.heap.size (fun _ => True) v0_ r1 ∧ Below w.heap.size w w' := by
 have hu29 := Tryd.underlying29; have hu45 := Tryd.underlying45; have HR0_0 := Aside0.mk hr0_0; have HC0_0 := Aside0.mk hc0_0; clear hr0_0 hc0_0; have HB := Aside0.mk (Below.refl w.heap.size w); have H : ((spec_ValidTree.f k qf).bind fun t625 => (if t625 = true then ((spec_ValidPath.f k a1_0).bind fun t626 => (if t626 = true then (spec_Put.j0 k (decide ((a1_1.size : Int) > 1500)) qf a1_0 a1_1 a1_2) else (spec_Put.j0 k true qf a1_0 a1_1 a1_2))) else (some (([] : List (S45)), 1)))) = some (r1, r2) := h; clear h; replace H := Option.bind_eq_some_iff.mp H; obtain ⟨t625, A30, H⟩ := H; replace H : (if t625 = true then ((spec_ValidPath.f k a1_0).bind fun t626 => (if t626 = true then (spec_Put.j0 k (decide ((a1_1.size : Int) > 1500)) qf a1_0 a1_1 a1_2) else (spec_Put.j0 k true qf a1_0 a1_1 a1_2))) else (some (([] : List (S45)), 1))) = some (r1, r2) := H; have A3 := Aside0.mk A30; clear A30
 by_cases c4 : t625 = true
 ·subst c4
  have H1 : ((spec_ValidPath.f k a1_0).bind fun t626 => (if t626 = true then (spec_Put.j0 k (decide ((a1_1.size : Int) > 1500)) qf a1_0 a1_1 a1_2) else (spec_Put.j0 k true qf a1_0 a1_1 a1_2))) = some (r1, r2) := by rw [if_pos rfl] at H; exact H
  clear H; have H := H1; clear H1; have HC5 := Aside0.mk H; clear H
  go_enter Tryd.func42, Tryd.ntmps42
  go_upto_region 3 with (first | ((with_reducible refine gd 2 rfl ?_); (try (refine gate_guard (by rfl) ?_; dsimp only)); refine bx 2 29 (#[.slice A0_0 qf.length c0_0]) ?_; intro gb622 hg w6 hbox hb; refine Ya4 (below_step (be HB.out) hb) (hbox) (bs hg (be HB.out)) (bs hg (be HB.out)) ?_; clear HB; intro HB qa GW622 qd; clear hb hbox hg) | ((with_reducible refine gd 3 rfl ?_); (try (refine gate_guard (by rfl) ?_; dsimp only)); refine bx 3 45 (#[.string a1_0, .string a1_1, .bool a1_2]) ?_; intro qr hg w7 hbox hb; refine Ya7 (bb qa hb) (below_step (be1 HB.out qd.out) hb) (hbox) (bs hg (be1 HB.out qd.out)) (bs hg (be1 HB.out qd.out)) (bl hg qa) (br hg qa) ?_; clear qa HB; intro qa HB qb GW623 qe qj qk; clear hb hbox hg) | ((with_reducible refine gd 4 rfl ?_); (try (refine gate_guard (by rfl) ?_; dsimp only)); refine bx 4 29 (#[.slice none 0 0]) ?_; intro qp hg w8 hbox hb; have n0_ := Aside0.mk (bb qa hb); have n1_ := Aside0.mk (bb qb hb); have n2_ := Aside0.mk (below_step (be2 HB.out qd.out qe.out) hb); have n3_ := Aside0.mk (hbox); have n4_ := Aside0.mk (bs hg (be2 HB.out qd.out qe.out)); have n5_ := Aside0.mk (bs hg (be2 HB.out qd.out qe.out)); have n6_ := Aside0.mk (bl hg qa); have n7_ := Aside0.mk (br hg qa); have n8_ := Aside0.mk (bl hg qb); have n9_ := Aside0.mk (br hg qb); clear qa; clear qb; clear HB; have qa := n0_; have qb := n1_; have HB := n2_; have qc := n3_; have GW624 := n4_; have qg := n5_; have ql := n6_; have qm := n7_; have qn := n8_; have qo := n9_; clear n0_ n1_ n2_ n3_ n4_ n5_ n6_ n7_ n8_ n9_; clear hb hbox hg; have hnb9 := qj.out; have hnc9 := qk.out; have hnb10 := ql.out; have hnc10 := qm.out; have ⟨hcz11_0, hfz11_0⟩ := Yc1 qa.out) | (go_at_call 13; (with_reducible refine (spec_ValidTree.calls k _ _ qf true _ ?side1 ?side2 A3.out).mono ?_); (case side1 => exact cb (Kd.C_below HR0_0.out HB.out)); (case side2 => exact HC0_0.out); rintro e w12 ⟨rfl, hb⟩; refine Ya4 (bb qa hb) (bb qb hb) (bb qc hb) (below_step (be3 HB.out qd.out qe.out qg.out) hb) ?_; clear qa qb qc HB; intro qa qb qc HB; (try clear hb); (try clear hb2); (try clear hk); (try clear hi)))
  try have ⟨hcz11_0, hfz11_0⟩ := Yc1 qa.out
  repeat (go_quiet (first | ((with_reducible refine gd 2 rfl ?_); (try (refine gate_guard (by rfl) ?_; dsimp only)); refine bx 2 29 (#[.slice A0_0 qf.length c0_0]) ?_; intro gb622 hg w6 hbox hb; refine Ya4 (below_step (be HB.out) hb) (hbox) (bs hg (be HB.out)) (bs hg (be HB.out)) ?_; clear HB; intro HB qa GW622 qd; clear hb hbox hg) | ((with_reducible refine gd 3 rfl ?_); (try (refine gate_guard (by rfl) ?_; dsimp only)); refine bx 3 45 (#[.string a1_0, .string a1_1, .bool a1_2]) ?_; intro qr hg w7 hbox hb; refine Ya7 (bb qa hb) (below_step (be1 HB.out qd.out) hb) (hbox) (bs hg (be1 HB.out qd.out)) (bs hg (be1 HB.out qd.out)) (bl hg qa) (br hg qa) ?_; clear qa HB; intro qa HB qb GW623 qe qj qk; clear hb hbox hg) | ((with_reducible refine gd 4 rfl ?_); (try (refine gate_guard (by rfl) ?_; dsimp only)); refine bx 4 29 (#[.slice none 0 0]) ?_; intro qp hg w8 hbox hb; have n0_ := Aside0.mk (bb qa hb); have n1_ := Aside0.mk (bb qb hb); have n2_ := Aside0.mk (below_step (be2 HB.out qd.out qe.out) hb); have n3_ := Aside0.mk (hbox); have n4_ := Aside0.mk (bs hg (be2 HB.out qd.out qe.out)); have n5_ := Aside0.mk (bs hg (be2 HB.out qd.out qe.out)); have n6_ := Aside0.mk (bl hg qa); have n7_ := Aside0.mk (br hg qa); have n8_ := Aside0.mk (bl hg qb); have n9_ := Aside0.mk (br hg qb); clear qa; clear qb; clear HB; have qa := n0_; have qb := n1_; have HB := n2_; have qc := n3_; have GW624 := n4_; have qg := n5_; have ql := n6_; have qm := n7_; have qn := n8_; have qo := n9_; clear n0_ n1_ n2_ n3_ n4_ n5_ n6_ n7_ n8_ n9_; clear hb hbox hg; have hnb9 := qj.out; have hnc9 := qk.out; have hnb10 := ql.out; have hnc10 := qm.out) | (go_at_call 13; (with_reducible refine (spec_ValidTree.calls k _ _ qf true _ ?side1 ?side2 A3.out).mono ?_); (case side1 => exact cb (Kd.C_below HR0_0.out HB.out)); (case side2 => exact HC0_0.out); rintro e w12 ⟨rfl, hb⟩; refine Ya4 (bb qa hb) (bb qb hb) (bb qc hb) (below_step (be3 HB.out qd.out qe.out qg.out) hb) ?_; clear qa qb qc HB; intro qa qb qc HB; (try clear hb); (try clear hb2); (try clear hk); (try clear hi))); go_upto_region 3 with (first | ((with_reducible refine gd 2 rfl ?_); (try (refine gate_guard (by rfl) ?_; dsimp only)); refine bx 2 29 (#[.slice A0_0 qf.length c0_0]) ?_; intro gb622 hg w6 hbox hb; refine Ya4 (below_step (be HB.out) hb) (hbox) (bs hg (be HB.out)) (bs hg (be HB.out)) ?_; clear HB; intro HB qa GW622 qd; clear hb hbox hg) | ((with_reducible refine gd 3 rfl ?_); (try (refine gate_guard (by rfl) ?_; dsimp only)); refine bx 3 45 (#[.string a1_0, .string a1_1, .bool a1_2]) ?_; intro qr hg w7 hbox hb; refine Ya7 (bb qa hb) (below_step (be1 HB.out qd.out) hb) (hbox) (bs hg (be1 HB.out qd.out)) (bs hg (be1 HB.out qd.out)) (bl hg qa) (br hg qa) ?_; clear qa HB; intro qa HB qb GW623 qe qj qk; clear hb hbox hg) | ((with_reducible refine gd 4 rfl ?_); (try (refine gate_guard (by rfl) ?_; dsimp only)); refine bx 4 29 (#[.slice none 0 0]) ?_; intro qp hg w8 hbox hb; have n0_ := Aside0.mk (bb qa hb); have n1_ := Aside0.mk (bb qb hb); have n2_ := Aside0.mk (below_step (be2 HB.out qd.out qe.out) hb); have n3_ := Aside0.mk (hbox); have n4_ := Aside0.mk (bs hg (be2 HB.out qd.out qe.out)); have n5_ := Aside0.mk (bs hg (be2 HB.out qd.out qe.out)); have n6_ := Aside0.mk (bl hg qa); have n7_ := Aside0.mk (br hg qa); have n8_ := Aside0.mk (bl hg qb); have n9_ := Aside0.mk (br hg qb); clear qa; clear qb; clear HB; have qa := n0_; have qb := n1_; have HB := n2_; have qc := n3_; have GW624 := n4_; have qg := n5_; have ql := n6_; have qm := n7_; have qn := n8_; have qo := n9_; clear n0_ n1_ n2_ n3_ n4_ n5_ n6_ n7_ n8_ n9_; clear hb hbox hg; have hnb9 := qj.out; have hnc9 := qk.out; have hnb10 := ql.out; have hnc10 := qm.out; have ⟨hcz11_0, hfz11_0⟩ := Yc1 qa.out) | (go_at_call 13; (with_reducible refine (spec_ValidTree.calls k _ _ qf true _ ?side1 ?side2 A3.out).mono ?_); (case side1 => exact cb (Kd.C_below HR0_0.out HB.out)); (case side2 => exact HC0_0.out); rintro e w12 ⟨rfl, hb⟩; refine Ya4 (bb qa hb) (bb qb hb) (bb qc hb) (below_step (be3 HB.out qd.out qe.out qg.out) hb) ?_; clear qa qb qc HB; intro qa qb qc HB; (try clear hb); (try clear hb2); (try clear hk); (try clear hi))))
  (try simp only [Act.put, List.setIfInBounds_toArray, List.set_cons_zero, List.set_cons_succ])
  go_cut [21] (fun v21 wc => ∃ (kq : Nat) (x21_4 : Bool), v21 = .bool x21_4 ∧ Aside0 (spec_Put.j0 kq x21_4 qf a1_0 a1_1 a1_2 = some (r1, r2)) ∧ Aside0 (kq ≤ k) ∧ Aside0 (wc.heap[gb622]? = some (.cells #[(.slice A0_0 qf.length c0_0)] 29 (0, 0))) ∧ Aside0 (wc.heap[qr]? = some (.cells #[.string a1_0, .string a1_1, .bool a1_2] 45 (0, 0))) ∧ Aside0 (wc.heap[qp]? = some (.cells #[(.slice none 0 0)] 29 (0, 0))) ∧ Aside0 (Below w.heap.size w wc))
  case first =>
   have H := HC5.out; clear HC5; replace H := Option.bind_eq_some_iff.mp H; obtain ⟨t626, A130, H⟩ := H; replace H : (if t626 = true then (spec_Put.j0 k (decide ((a1_1.size : Int) > 1500)) qf a1_0 a1_1 a1_2) else (spec_Put.j0 k true qf a1_0 a1_1 a1_2)) = some (r1, r2) := H; have A13 := Aside0.mk A130; clear A130
   by_cases c14 : t626 = true
   ·subst c14
    have H1 : (spec_Put.j0 k (decide ((a1_1.size : Int) > 1500)) qf a1_0 a1_1 a1_2) = some (r1, r2) := by rw [if_pos rfl] at H; exact H
    clear H; have H := H1; clear H1; have H' := Aside0.mk H; clear H; have hnb15 := qk.out; have hnc15 := qj.out; have hnb16 := qn.out; have hnc16 := qo.out; have ⟨hcz17_0, hcz17_1, hcz17_2, hfz17_0, hfz17_1, hfz17_2⟩ := Yc3 qb.out
    go_wp2_with (first | (go_at_call 48; (with_reducible refine (spec_ValidPath.calls k a1_0 true _ A13.out).mono ?_); rintro e w18 ⟨rfl, hb⟩; refine Ya4 (bb qa hb) (bb qb hb) (bb qc hb) (below_step (be3 HB.out qd.out qe.out qg.out) hb) ?_; clear qa qb qc HB; intro qa qb qc HB; (try clear hb); (try clear hb2); (try clear hk); (try clear hi); have ⟨hcz19_0, hcz19_1, hcz19_2, hfz19_0, hfz19_1, hfz19_2⟩ := Yc3 qb.out))
    try have ⟨hcz19_0, hcz19_1, hcz19_2, hfz19_0, hfz19_1, hfz19_2⟩ := Yc3 qb.out
    repeat (go_quiet (first | (go_at_call 48; (with_reducible refine (spec_ValidPath.calls k a1_0 true _ A13.out).mono ?_); rintro e w18 ⟨rfl, hb⟩; refine Ya4 (bb qa hb) (bb qb hb) (bb qc hb) (below_step (be3 HB.out qd.out qe.out qg.out) hb) ?_; clear qa qb qc HB; intro qa qb qc HB; (try clear hb); (try clear hb2); (try clear hk); (try clear hi))); try go_wp2_with (first | (go_at_call 48; (with_reducible refine (spec_ValidPath.calls k a1_0 true _ A13.out).mono ?_); rintro e w18 ⟨rfl, hb⟩; refine Ya4 (bb qa hb) (bb qb hb) (bb qc hb) (below_step (be3 HB.out qd.out qe.out qg.out) hb) ?_; clear qa qb qc HB; intro qa qb qc HB; (try clear hb); (try clear hb2); (try clear hk); (try clear hi); have ⟨hcz19_0, hcz19_1, hcz19_2, hfz19_0, hfz19_1, hfz19_2⟩ := Yc3 qb.out)))
    go_meet
    case rel => exact ⟨_, (decide ((a1_1.size : Int) > 1500)), Ye1, H', ⟨by first | omega | exact Nat.le_refl _⟩, ⟨bk qa.out⟩, ⟨bk qb.out⟩, ⟨bk qc.out⟩, ⟨be3 HB.out qd.out qe.out qg.out⟩⟩
   ·replace c14 := Bool.eq_false_iff.mpr c14; subst c14
    have H1 : (spec_Put.j0 k true qf a1_0 a1_1 a1_2) = some (r1, r2) := by rw [if_neg (show ¬ (false = true) by decide)] at H; exact H
    clear H; have H := H1; clear H1; have H' := Aside0.mk H; clear H; have hnb20 := qk.out; have hnc20 := qj.out; have hnb21 := qn.out; have hnc21 := qo.out; have ⟨hcz22_0, hcz22_1, hcz22_2, hfz22_0, hfz22_1, hfz22_2⟩ := Yc3 qb.out
    go_wp2_with (first | (go_at_call 48; (with_reducible refine (spec_ValidPath.calls k a1_0 false _ A13.out).mono ?_); rintro e w23 ⟨rfl, hb⟩; refine Ya4 (bb qa hb) (bb qb hb) (bb qc hb) (below_step (be3 HB.out qd.out qe.out qg.out) hb) ?_; clear qa qb qc HB; intro qa qb qc HB; (try clear hb); (try clear hb2); (try clear hk); (try clear hi)))
    repeat (go_quiet (first | (go_at_call 48; (with_reducible refine (spec_ValidPath.calls k a1_0 false _ A13.out).mono ?_); rintro e w23 ⟨rfl, hb⟩; refine Ya4 (bb qa hb) (bb qb hb) (bb qc hb) (below_step (be3 HB.out qd.out qe.out qg.out) hb) ?_; clear qa qb qc HB; intro qa qb qc HB; (try clear hb); (try clear hb2); (try clear hk); (try clear hi))); try go_wp2_with (first | (go_at_call 48; (with_reducible refine (spec_ValidPath.calls k a1_0 false _ A13.out).mono ?_); rintro e w23 ⟨rfl, hb⟩; refine Ya4 (bb qa hb) (bb qb hb) (bb qc hb) (below_step (be3 HB.out qd.out qe.out qg.out) hb) ?_; clear qa qb qc HB; intro qa qb qc HB; (try clear hb); (try clear hb2); (try clear hk); (try clear hi))))
    go_meet
    case rel => exact ⟨_, (true), Ye1, H', ⟨by first | omega | exact Nat.le_refl _⟩, ⟨bk qa.out⟩, ⟨bk qb.out⟩, ⟨bk qc.out⟩, ⟨be3 HB.out qd.out qe.out qg.out⟩⟩
  case rest =>
   clear HC5; (try clear c1); (try clear c2); (try clear p2); (try clear c4); (try clear c9); (try clear c10); (try clear c14); (try clear c15); (try clear c16); (try clear c20); (try clear c21); (try clear hcz11_0); (try clear hcz17_0); (try clear hcz17_1); (try clear hcz17_2); (try clear hcz19_0); (try clear hcz19_1); (try clear hcz19_2); (try clear hcz22_0); (try clear hcz22_1); (try clear hcz22_2); (try clear hfz11_0); (try clear hfz17_0); (try clear hfz17_1); (try clear hfz17_2); (try clear hfz19_0); (try clear hfz19_1); (try clear hfz19_2); (try clear hfz22_0); (try clear hfz22_1); (try clear hfz22_2); obtain ⟨kq, x21_4, rfl, HA, HJ4, qa, qb, qc, HB⟩ := hcut
   cases kq with
   | zero => exact absurd HA.out (by simp [spec_Put.j0])
   | succ kj4 =>
    have H := HA.out; clear HA; simp only [spec_Put.j0] at H
    by_cases c24 : x21_4 = true
    ·subst c24
     have H1 : (some (([] : List (S45)), 2)) = some (r1, r2) := by rw [if_pos rfl] at H; exact H
     clear H; have H := H1; clear H1; simp only [Option.some.injEq, Prod.mk.injEq] at H; obtain ⟨rfl, rfl⟩ := H; have hnb25 := qm.out; have hnc25 := ql.out; have hnb26 := qo.out; have hnc26 := qn.out; have ⟨hcz27_0, hfz27_0⟩ := Yc1 qc.out
     go_wp2
     repeat (go_quiet (fail); try go_wp2)
     refine bodyPost_ret (results_ct rfl _ _ qp 29 #[.slice none 0 0] (0, 0) _ rfl (by (with_reducible repeat (first | apply blk_drewN | apply blk_drew | apply blk_alloc)); refine blk_put (cs := #[.slice none 0 0]) ?_ 0 _ rfl; (with_reducible repeat (first | apply blk_drewN | apply blk_drew | apply blk_alloc)); exact qc.out) Tryd.underlying29 rfl (by kernel_rfl)) rfl ?_; exact ⟨_, Ye2, nl, (by first | exact be3 HB.out qd.out qe.out qg.out | exact be2 HB.out qd.out qe.out | exact be1 HB.out qd.out)⟩
    ·replace c24 := Bool.eq_false_iff.mpr c24; subst c24
     have H1 : (spec_Put.l0 kj4 0 qf a1_0 a1_1 a1_2) = some (r1, r2) := by rw [if_neg (show ¬ (false = true) by decide)] at H; exact H
     clear H; have H := H1; clear H1; have H' := Aside0.mk H; clear H
     go_wp2
     repeat (go_quiet (fail); try go_wp2)
     go_loopg [6] kj4 (fun kq v6 w' => ∃ (qh : Int), v6 = .int .i64 qh ∧ Aside0 (spec_Put.l0 kq qh qf a1_0 a1_1 a1_2 = some (r1, r2)) ∧ Aside0 (kq ≤ kj4) ∧ Aside0 (w'.heap[gb622]? = some (.cells #[(.slice A0_0 qf.length c0_0)] 29 (0, 0))) ∧ Aside0 (w'.heap[qr]? = some (.cells #[.string a1_0, .string a1_1, .bool a1_2] 45 (0, 0))) ∧ Aside0 (w'.heap[qp]? = some (.cells #[(.slice none 0 0)] 29 (0, 0))) ∧ Aside0 (Below w.heap.size w w'))
     case atStart => exact ⟨(0), Ye1, H', ⟨Nat.le_refl _⟩, ⟨bk qa.out⟩, ⟨bk qb.out⟩, ⟨bk qc.out⟩, ⟨be3 HB.out qd.out qe.out qg.out⟩⟩
     case round =>
      clear H'; (try clear c1); (try clear c2); (try clear p2); (try clear c4); (try clear c9); (try clear c10); (try clear c14); (try clear c15); (try clear c16); (try clear c20); (try clear c21); (try clear c24); (try clear c25); (try clear c26); (try clear hcz11_0); (try clear hcz17_0); (try clear hcz17_1); (try clear hcz17_2); (try clear hcz19_0); (try clear hcz19_1); (try clear hcz19_2); (try clear hcz22_0); (try clear hcz22_1); (try clear hcz22_2); (try clear hcz27_0); (try clear hfz11_0); (try clear hfz17_0); (try clear hfz17_1); (try clear hfz17_2); (try clear hfz19_0); (try clear hfz19_1); (try clear hfz19_2); (try clear hfz22_0); (try clear hfz22_1); (try clear hfz22_2); (try clear hfz27_0); (try clear p2); obtain ⟨qh, rfl, HA, HK2, qa, qb, qc, HB⟩ := hrel
      cases gk with
      | zero => exact absurd HA.out (by simp [spec_Put.l0])
      | succ k2 =>
       have H := HA.out; clear HA; simp only [spec_Put.l0] at H
       by_cases c28 : qh < (qf.length : Int)
       ·rw [if_pos c28] at H
        have c28b0 : decide (qh < (qf.length : Int)) = true := decide_eq_true c28; clear c28
        by_cases c29 : 0 ≤ qh
        ·rw [if_pos c29] at H
         have c29b0 : decide (0 ≤ qh) = true := decide_eq_true c29; clear c29; replace H := Option.bind_eq_some_iff.mp H; obtain ⟨t632, A300, H⟩ := H; replace H : (if t632 = true then (some (([] : List (S45)), 3)) else ((spec_l5Begins.f a1_0 ((rd_T45 qf qh).f0)).bind fun t634 => (if t634 = true then (some (([] : List (S45)), 3)) else (spec_Put.l0 k2 (wrap64 (qh + 1)) qf a1_0 a1_1 a1_2)))) = some (r1, r2) := H; have A30 := Aside0.mk A300; clear A300
         by_cases c31 : t632 = true
         ·subst c31
          have H1 : (some (([] : List (S45)), 3)) = some (r1, r2) := by rw [if_pos rfl] at H; exact H
          clear H; have H := H1; clear H1; simp only [Option.some.injEq, Prod.mk.injEq] at H; obtain ⟨rfl, rfl⟩ := H; have hnb32 := qj.out; have hnc32 := qk.out; have hnb33 := ql.out; have hnc33 := qm.out; have ⟨hcz34_0, hfz34_0⟩ := Yc1 qa.out; have p631 : 0 ≤ (qh : Int) := oda; have q631 : qh < (qf.length : Int) := oda; obtain ⟨ad631, e631, hx631_0, hx631_1, hx631_2⟩ := at_T45 (Kd.C_below HR0_0.out HB.out) qh p631 q631
          cases e631
          replace p631 := eq_true p631; replace q631 := eq_true q631; have hnb35 := qn.out; have hnc35 := qo.out; have ⟨hcz36_0, hcz36_1, hcz36_2, hfz36_0, hfz36_1, hfz36_2⟩ := Yc3 qb.out
          go_wp2_with (first | (go_at_call 49; (with_reducible refine (spec_l5Begins.calls ((rd_T45 qf qh).f0) a1_0 true _ A30.out).mono ?_); rintro e w' ⟨rfl, ⟨nd, rfl⟩⟩; (try first | exact ⟨rfl, _, World.drewN_drewN _ _ _⟩ | exact ⟨rfl, _, Eq.trans (World.drewN_drewN _ _ _) (congrArg (World.drewN _) (Nat.add_assoc _ _ _))⟩); have ⟨hcz37_0, hfz37_0⟩ := Yc1 qc.out))
          try have ⟨hcz37_0, hfz37_0⟩ := Yc1 qc.out
          repeat (go_quiet (first | (go_at_call 49; (with_reducible refine (spec_l5Begins.calls ((rd_T45 qf qh).f0) a1_0 true _ A30.out).mono ?_); rintro e w' ⟨rfl, ⟨nd, rfl⟩⟩; (try first | exact ⟨rfl, _, World.drewN_drewN _ _ _⟩ | exact ⟨rfl, _, Eq.trans (World.drewN_drewN _ _ _) (congrArg (World.drewN _) (Nat.add_assoc _ _ _))⟩))); try go_wp2_with (first | (go_at_call 49; (with_reducible refine (spec_l5Begins.calls ((rd_T45 qf qh).f0) a1_0 true _ A30.out).mono ?_); rintro e w' ⟨rfl, ⟨nd, rfl⟩⟩; (try first | exact ⟨rfl, _, World.drewN_drewN _ _ _⟩ | exact ⟨rfl, _, Eq.trans (World.drewN_drewN _ _ _) (congrArg (World.drewN _) (Nat.add_assoc _ _ _))⟩); have ⟨hcz37_0, hfz37_0⟩ := Yc1 qc.out)))
          refine bodyPost_ret (results_ct rfl _ _ qp 29 #[.slice none 0 0] (0, 0) _ rfl (by (with_reducible repeat (first | apply blk_drewN | apply blk_drew | apply blk_alloc)); refine blk_put (cs := #[.slice none 0 0]) ?_ 0 _ rfl; (with_reducible repeat (first | apply blk_drewN | apply blk_drew | apply blk_alloc)); exact qc.out) Tryd.underlying29 rfl (by kernel_rfl)) rfl ?_; exact ⟨_, Ye2, nl, (by first | exact be3 HB.out qd.out qe.out qg.out | exact be2 HB.out qd.out qe.out | exact be1 HB.out qd.out)⟩
         ·replace c31 := Bool.eq_false_iff.mpr c31; subst c31
          have H1 : ((spec_l5Begins.f a1_0 ((rd_T45 qf qh).f0)).bind fun t634 => (if t634 = true then (some (([] : List (S45)), 3)) else (spec_Put.l0 k2 (wrap64 (qh + 1)) qf a1_0 a1_1 a1_2))) = some (r1, r2) := by rw [if_neg (show ¬ (false = true) by decide)] at H; exact H
          clear H; have H := H1; clear H1; replace H := Option.bind_eq_some_iff.mp H; obtain ⟨t634, A380, H⟩ := H; replace H : (if t634 = true then (some (([] : List (S45)), 3)) else (spec_Put.l0 k2 (wrap64 (qh + 1)) qf a1_0 a1_1 a1_2)) = some (r1, r2) := H; have A38 := Aside0.mk A380; clear A380
          by_cases c39 : t634 = true
          ·subst c39
           have H1 : (some (([] : List (S45)), 3)) = some (r1, r2) := by rw [if_pos rfl] at H; exact H
           clear H; have H := H1; clear H1; simp only [Option.some.injEq, Prod.mk.injEq] at H; obtain ⟨rfl, rfl⟩ := H; have hnb40 := qj.out; have hnc40 := qk.out; have hnb41 := ql.out; have hnc41 := qm.out; have ⟨hcz42_0, hfz42_0⟩ := Yc1 qa.out; have p631 : 0 ≤ (qh : Int) := oda; have q631 : qh < (qf.length : Int) := oda; obtain ⟨ad631, e631, hx631_0, hx631_1, hx631_2⟩ := at_T45 (Kd.C_below HR0_0.out HB.out) qh p631 q631
           cases e631
           replace p631 := eq_true p631; replace q631 := eq_true q631; have hnb43 := qn.out; have hnc43 := qo.out; have ⟨hcz44_0, hcz44_1, hcz44_2, hfz44_0, hfz44_1, hfz44_2⟩ := Yc3 qb.out
           go_wp2_with (first | (go_at_call 49; (with_reducible refine (spec_l5Begins.calls ((rd_T45 qf qh).f0) a1_0 false _ A30.out).mono ?_); rintro e w' ⟨rfl, ⟨nd, rfl⟩⟩; (try first | exact ⟨rfl, _, World.drewN_drewN _ _ _⟩ | exact ⟨rfl, _, Eq.trans (World.drewN_drewN _ _ _) (congrArg (World.drewN _) (Nat.add_assoc _ _ _))⟩); have p633 : 0 ≤ (qh : Int) := oda; have q633 : qh < (qf.length : Int) := oda; obtain ⟨ad633, e633, hx633_0, hx633_1, hx633_2⟩ := at_T45 HR0_0.out qh p633 q633; obtain rfl : ad631 = ad633 := (by injection e633); replace hx633_0 := pw_cell_below HB.out hx633_0; replace hx633_1 := pw_cell_below HB.out hx633_1; replace hx633_2 := pw_cell_below HB.out hx633_2; replace p633 := eq_true p633; replace q633 := eq_true q633) | (go_at_call 49; (with_reducible refine (spec_l5Begins.calls a1_0 ((rd_T45 qf qh).f0) true _ A38.out).mono ?_); rintro e w' ⟨rfl, ⟨nd, rfl⟩⟩; (try first | exact ⟨rfl, _, World.drewN_drewN _ _ _⟩ | exact ⟨rfl, _, Eq.trans (World.drewN_drewN _ _ _) (congrArg (World.drewN _) (Nat.add_assoc _ _ _))⟩); have ⟨hcz45_0, hfz45_0⟩ := Yc1 qc.out))
           try have ⟨hcz45_0, hfz45_0⟩ := Yc1 qc.out
           repeat (go_quiet (first | (go_at_call 49; (with_reducible refine (spec_l5Begins.calls ((rd_T45 qf qh).f0) a1_0 false _ A30.out).mono ?_); rintro e w' ⟨rfl, ⟨nd, rfl⟩⟩; (try first | exact ⟨rfl, _, World.drewN_drewN _ _ _⟩ | exact ⟨rfl, _, Eq.trans (World.drewN_drewN _ _ _) (congrArg (World.drewN _) (Nat.add_assoc _ _ _))⟩); have p633 : 0 ≤ (qh : Int) := oda; have q633 : qh < (qf.length : Int) := oda; obtain ⟨ad633, e633, hx633_0, hx633_1, hx633_2⟩ := at_T45 HR0_0.out qh p633 q633; obtain rfl : ad631 = ad633 := (by injection e633); replace hx633_0 := pw_cell_below HB.out hx633_0; replace hx633_1 := pw_cell_below HB.out hx633_1; replace hx633_2 := pw_cell_below HB.out hx633_2; replace p633 := eq_true p633; replace q633 := eq_true q633) | (go_at_call 49; (with_reducible refine (spec_l5Begins.calls a1_0 ((rd_T45 qf qh).f0) true _ A38.out).mono ?_); rintro e w' ⟨rfl, ⟨nd, rfl⟩⟩; (try first | exact ⟨rfl, _, World.drewN_drewN _ _ _⟩ | exact ⟨rfl, _, Eq.trans (World.drewN_drewN _ _ _) (congrArg (World.drewN _) (Nat.add_assoc _ _ _))⟩))); try go_wp2_with (first | (go_at_call 49; (with_reducible refine (spec_l5Begins.calls ((rd_T45 qf qh).f0) a1_0 false _ A30.out).mono ?_); rintro e w' ⟨rfl, ⟨nd, rfl⟩⟩; (try first | exact ⟨rfl, _, World.drewN_drewN _ _ _⟩ | exact ⟨rfl, _, Eq.trans (World.drewN_drewN _ _ _) (congrArg (World.drewN _) (Nat.add_assoc _ _ _))⟩); have p633 : 0 ≤ (qh : Int) := oda; have q633 : qh < (qf.length : Int) := oda; obtain ⟨ad633, e633, hx633_0, hx633_1, hx633_2⟩ := at_T45 HR0_0.out qh p633 q633; obtain rfl : ad631 = ad633 := (by injection e633); replace hx633_0 := pw_cell_below HB.out hx633_0; replace hx633_1 := pw_cell_below HB.out hx633_1; replace hx633_2 := pw_cell_below HB.out hx633_2; replace p633 := eq_true p633; replace q633 := eq_true q633) | (go_at_call 49; (with_reducible refine (spec_l5Begins.calls a1_0 ((rd_T45 qf qh).f0) true _ A38.out).mono ?_); rintro e w' ⟨rfl, ⟨nd, rfl⟩⟩; (try first | exact ⟨rfl, _, World.drewN_drewN _ _ _⟩ | exact ⟨rfl, _, Eq.trans (World.drewN_drewN _ _ _) (congrArg (World.drewN _) (Nat.add_assoc _ _ _))⟩); have ⟨hcz45_0, hfz45_0⟩ := Yc1 qc.out)))
           refine bodyPost_ret (results_ct rfl _ _ qp 29 #[.slice none 0 0] (0, 0) _ rfl (by (with_reducible repeat (first | apply blk_drewN | apply blk_drew | apply blk_alloc)); refine blk_put (cs := #[.slice none 0 0]) ?_ 0 _ rfl; (with_reducible repeat (first | apply blk_drewN | apply blk_drew | apply blk_alloc)); exact qc.out) Tryd.underlying29 rfl (by kernel_rfl)) rfl ?_; exact ⟨_, Ye2, nl, (by first | exact be3 HB.out qd.out qe.out qg.out | exact be2 HB.out qd.out qe.out | exact be1 HB.out qd.out)⟩
          ·replace c39 := Bool.eq_false_iff.mpr c39; subst c39
           have H1 : (spec_Put.l0 k2 (wrap64 (qh + 1)) qf a1_0 a1_1 a1_2) = some (r1, r2) := by rw [if_neg (show ¬ (false = true) by decide)] at H; exact H
           clear H; have H := H1; clear H1; have H' := Aside0.mk H; clear H; have hnb46 := qj.out; have hnc46 := qk.out; have hnb47 := ql.out; have hnc47 := qm.out; have ⟨hcz48_0, hfz48_0⟩ := Yc1 qa.out; have p631 : 0 ≤ (qh : Int) := oda; have q631 : qh < (qf.length : Int) := oda; obtain ⟨ad631, e631, hx631_0, hx631_1, hx631_2⟩ := at_T45 (Kd.C_below HR0_0.out HB.out) qh p631 q631
           cases e631
           replace p631 := eq_true p631; replace q631 := eq_true q631; have hnb49 := qn.out; have hnc49 := qo.out; have ⟨hcz50_0, hcz50_1, hcz50_2, hfz50_0, hfz50_1, hfz50_2⟩ := Yc3 qb.out
           go_wp2_with (first | (go_at_call 49; (with_reducible refine (spec_l5Begins.calls ((rd_T45 qf qh).f0) a1_0 false _ A30.out).mono ?_); rintro e w' ⟨rfl, ⟨nd, rfl⟩⟩; (try first | exact ⟨rfl, _, World.drewN_drewN _ _ _⟩ | exact ⟨rfl, _, Eq.trans (World.drewN_drewN _ _ _) (congrArg (World.drewN _) (Nat.add_assoc _ _ _))⟩); have p633 : 0 ≤ (qh : Int) := oda; have q633 : qh < (qf.length : Int) := oda; obtain ⟨ad633, e633, hx633_0, hx633_1, hx633_2⟩ := at_T45 HR0_0.out qh p633 q633; obtain rfl : ad631 = ad633 := (by injection e633); replace hx633_0 := pw_cell_below HB.out hx633_0; replace hx633_1 := pw_cell_below HB.out hx633_1; replace hx633_2 := pw_cell_below HB.out hx633_2; replace p633 := eq_true p633; replace q633 := eq_true q633) | (go_at_call 49; (with_reducible refine (spec_l5Begins.calls a1_0 ((rd_T45 qf qh).f0) false _ A38.out).mono ?_); rintro e w' ⟨rfl, ⟨nd, rfl⟩⟩; (try first | exact ⟨rfl, _, World.drewN_drewN _ _ _⟩ | exact ⟨rfl, _, Eq.trans (World.drewN_drewN _ _ _) (congrArg (World.drewN _) (Nat.add_assoc _ _ _))⟩)))
           repeat (go_quiet (first | (go_at_call 49; (with_reducible refine (spec_l5Begins.calls ((rd_T45 qf qh).f0) a1_0 false _ A30.out).mono ?_); rintro e w' ⟨rfl, ⟨nd, rfl⟩⟩; (try first | exact ⟨rfl, _, World.drewN_drewN _ _ _⟩ | exact ⟨rfl, _, Eq.trans (World.drewN_drewN _ _ _) (congrArg (World.drewN _) (Nat.add_assoc _ _ _))⟩); have p633 : 0 ≤ (qh : Int) := oda; have q633 : qh < (qf.length : Int) := oda; obtain ⟨ad633, e633, hx633_0, hx633_1, hx633_2⟩ := at_T45 HR0_0.out qh p633 q633; obtain rfl : ad631 = ad633 := (by injection e633); replace hx633_0 := pw_cell_below HB.out hx633_0; replace hx633_1 := pw_cell_below HB.out hx633_1; replace hx633_2 := pw_cell_below HB.out hx633_2; replace p633 := eq_true p633; replace q633 := eq_true q633) | (go_at_call 49; (with_reducible refine (spec_l5Begins.calls a1_0 ((rd_T45 qf qh).f0) false _ A38.out).mono ?_); rintro e w' ⟨rfl, ⟨nd, rfl⟩⟩; (try first | exact ⟨rfl, _, World.drewN_drewN _ _ _⟩ | exact ⟨rfl, _, Eq.trans (World.drewN_drewN _ _ _) (congrArg (World.drewN _) (Nat.add_assoc _ _ _))⟩))); try go_wp2_with (first | (go_at_call 49; (with_reducible refine (spec_l5Begins.calls ((rd_T45 qf qh).f0) a1_0 false _ A30.out).mono ?_); rintro e w' ⟨rfl, ⟨nd, rfl⟩⟩; (try first | exact ⟨rfl, _, World.drewN_drewN _ _ _⟩ | exact ⟨rfl, _, Eq.trans (World.drewN_drewN _ _ _) (congrArg (World.drewN _) (Nat.add_assoc _ _ _))⟩); have p633 : 0 ≤ (qh : Int) := oda; have q633 : qh < (qf.length : Int) := oda; obtain ⟨ad633, e633, hx633_0, hx633_1, hx633_2⟩ := at_T45 HR0_0.out qh p633 q633; obtain rfl : ad631 = ad633 := (by injection e633); replace hx633_0 := pw_cell_below HB.out hx633_0; replace hx633_1 := pw_cell_below HB.out hx633_1; replace hx633_2 := pw_cell_below HB.out hx633_2; replace p633 := eq_true p633; replace q633 := eq_true q633) | (go_at_call 49; (with_reducible refine (spec_l5Begins.calls a1_0 ((rd_T45 qf qh).f0) false _ A38.out).mono ?_); rintro e w' ⟨rfl, ⟨nd, rfl⟩⟩; (try first | exact ⟨rfl, _, World.drewN_drewN _ _ _⟩ | exact ⟨rfl, _, Eq.trans (World.drewN_drewN _ _ _) (congrArg (World.drewN _) (Nat.add_assoc _ _ _))⟩))))
           go_roundg k2
           case measure => have := HJ4.out; have := HK2.out; omega
           case rel => exact ⟨(wrap64 (qh + 1)), Ye1, H', ⟨by have := HJ4.out; have := HK2.out; omega⟩, ⟨bk qa.out⟩, ⟨bk qb.out⟩, ⟨bk qc.out⟩, ⟨be3 HB.out qd.out qe.out qg.out⟩⟩
        ·rw [if_neg c29] at H
         exact absurd H (by simp)
       ·rw [if_neg c28] at H
        have c28b0 : decide (qh < (qf.length : Int)) = false := decide_eq_false c28; clear c28; replace H := Option.bind_eq_some_iff.mp H; obtain ⟨t627, A510, H⟩ := H; replace H : (if (t627.length : Int) > 100 then (some (([] : List (S45)), 4)) else (some (t627, 0))) = some (r1, r2) := H; have A51 := Aside0.mk A510; clear A510
        by_cases c52 : (t627.length : Int) > 100
        ·rw [if_pos c52] at H
         have c52b0 : decide (100 < (t627.length : Int)) = true := decide_eq_true c52; have c52b1 : decide (100 < t627.length) = true := decide_eq_true (by omega); clear c52; simp only [Option.some.injEq, Prod.mk.injEq] at H; obtain ⟨rfl, rfl⟩ := H; have hnb53 := qj.out; have hnc53 := qk.out; have hnb54 := ql.out; have hnc54 := qm.out; have ⟨hcz55_0, hfz55_0⟩ := Yc1 qa.out; have hnb56 := qn.out; have hnc56 := qo.out; have ⟨hcz57_0, hcz57_1, hcz57_2, hfz57_0, hfz57_1, hfz57_2⟩ := Yc3 qb.out
         go_wp2_with (first | (go_at_call 72; (with_reducible refine (spec_l5Set.calls k2 _ _ qf a1_0 a1_1 a1_2 t627 _ ?side1 ?side2 A51.out).mono ?_); (case side1 => exact cb (Kd.C_below HR0_0.out HB.out)); (case side2 => exact HC0_0.out); rintro e w58 ⟨v628, rfl, ho0, hb⟩; refine Ya5 (Kd.R_lower (Kd.R_newB ho0 (g := qr) (o := .cells #[.string a1_0, .string a1_1, .bool a1_2] 45 (0, 0)) (bk qb.out)) (below_size (be3 HB.out qd.out qe.out qg.out))) (bb qa hb) (bb qb hb) (bb qc hb) (below_step (be3 HB.out qd.out qe.out qg.out) hb) ?_; clear qa qb qc HB; intro qi qa qb qc HB; (try clear hb); (try clear hb2); (try clear hk); (try clear hi); (try clear ho0)) | ((with_reducible refine gd 7 rfl ?_); (try (refine gate_guard (by rfl) ?_; dsimp only)); refine bx 7 29 (#[.slice none 0 0]) ?_; intro gb630 hg w59 hbox hb; have n0_ := Aside0.mk (Kd.R_below (kr qi.out) hb); have n1_ := Aside0.mk (bb qa hb); have n2_ := Aside0.mk (bb qb hb); have n3_ := Aside0.mk (bb qc hb); have n4_ := Aside0.mk (below_step (be3 HB.out qd.out qe.out qg.out) hb); have n5_ := Aside0.mk (hbox); have n6_ := Aside0.mk (bs hg (be3 HB.out qd.out qe.out qg.out)); have n7_ := Aside0.mk (bs hg (be3 HB.out qd.out qe.out qg.out)); have n8_ := Aside0.mk (bl hg qa); have n9_ := Aside0.mk (br hg qa); have n10_ := Aside0.mk (bl hg qb); have n11_ := Aside0.mk (br hg qb); have n12_ := Aside0.mk (bl hg qc); have n13_ := Aside0.mk (br hg qc); clear qi; clear qa; clear qb; clear qc; clear HB; have qi := n0_; have qa := n1_; have qb := n2_; have qc := n3_; have HB := n4_; have BK630 := n5_; have GW630 := n6_; have GE630 := n7_; have qu := n8_; have qv := n9_; have qw := n10_; have qx := n11_; have qt := n12_; have qy := n13_; clear n0_ n1_ n2_ n3_ n4_ n5_ n6_ n7_ n8_ n9_ n10_ n11_ n12_ n13_; clear hb hbox hg; obtain ⟨Ao60, co60, eo60⟩ := Kd.R_slice qi.out; subst eo60; have hnb61 := qv.out; have hnc61 := qu.out; have hnb62 := qx.out; have hnc62 := qw.out; have hnb63 := qy.out; have hnc63 := qt.out; have ⟨hcz64_0, hfz64_0⟩ := Yc1 BK630.out; have ⟨hcz65_0, hfz65_0⟩ := Yc1 qc.out))
         try have ⟨hcz65_0, hfz65_0⟩ := Yc1 qc.out
         repeat (go_quiet (first | (go_at_call 72; (with_reducible refine (spec_l5Set.calls k2 _ _ qf a1_0 a1_1 a1_2 t627 _ ?side1 ?side2 A51.out).mono ?_); (case side1 => exact cb (Kd.C_below HR0_0.out HB.out)); (case side2 => exact HC0_0.out); rintro e w58 ⟨v628, rfl, ho0, hb⟩; refine Ya5 (Kd.R_lower (Kd.R_newB ho0 (g := qr) (o := .cells #[.string a1_0, .string a1_1, .bool a1_2] 45 (0, 0)) (bk qb.out)) (below_size (be3 HB.out qd.out qe.out qg.out))) (bb qa hb) (bb qb hb) (bb qc hb) (below_step (be3 HB.out qd.out qe.out qg.out) hb) ?_; clear qa qb qc HB; intro qi qa qb qc HB; (try clear hb); (try clear hb2); (try clear hk); (try clear hi); (try clear ho0)) | ((with_reducible refine gd 7 rfl ?_); (try (refine gate_guard (by rfl) ?_; dsimp only)); refine bx 7 29 (#[.slice none 0 0]) ?_; intro gb630 hg w59 hbox hb; have n0_ := Aside0.mk (Kd.R_below (kr qi.out) hb); have n1_ := Aside0.mk (bb qa hb); have n2_ := Aside0.mk (bb qb hb); have n3_ := Aside0.mk (bb qc hb); have n4_ := Aside0.mk (below_step (be3 HB.out qd.out qe.out qg.out) hb); have n5_ := Aside0.mk (hbox); have n6_ := Aside0.mk (bs hg (be3 HB.out qd.out qe.out qg.out)); have n7_ := Aside0.mk (bs hg (be3 HB.out qd.out qe.out qg.out)); have n8_ := Aside0.mk (bl hg qa); have n9_ := Aside0.mk (br hg qa); have n10_ := Aside0.mk (bl hg qb); have n11_ := Aside0.mk (br hg qb); have n12_ := Aside0.mk (bl hg qc); have n13_ := Aside0.mk (br hg qc); clear qi; clear qa; clear qb; clear qc; clear HB; have qi := n0_; have qa := n1_; have qb := n2_; have qc := n3_; have HB := n4_; have BK630 := n5_; have GW630 := n6_; have GE630 := n7_; have qu := n8_; have qv := n9_; have qw := n10_; have qx := n11_; have qt := n12_; have qy := n13_; clear n0_ n1_ n2_ n3_ n4_ n5_ n6_ n7_ n8_ n9_ n10_ n11_ n12_ n13_; clear hb hbox hg; obtain ⟨Ao60, co60, eo60⟩ := Kd.R_slice qi.out; subst eo60; have hnb61 := qv.out; have hnc61 := qu.out; have hnb62 := qx.out; have hnc62 := qw.out; have hnb63 := qy.out; have hnc63 := qt.out; have ⟨hcz64_0, hfz64_0⟩ := Yc1 BK630.out)); try go_wp2_with (first | (go_at_call 72; (with_reducible refine (spec_l5Set.calls k2 _ _ qf a1_0 a1_1 a1_2 t627 _ ?side1 ?side2 A51.out).mono ?_); (case side1 => exact cb (Kd.C_below HR0_0.out HB.out)); (case side2 => exact HC0_0.out); rintro e w58 ⟨v628, rfl, ho0, hb⟩; refine Ya5 (Kd.R_lower (Kd.R_newB ho0 (g := qr) (o := .cells #[.string a1_0, .string a1_1, .bool a1_2] 45 (0, 0)) (bk qb.out)) (below_size (be3 HB.out qd.out qe.out qg.out))) (bb qa hb) (bb qb hb) (bb qc hb) (below_step (be3 HB.out qd.out qe.out qg.out) hb) ?_; clear qa qb qc HB; intro qi qa qb qc HB; (try clear hb); (try clear hb2); (try clear hk); (try clear hi); (try clear ho0)) | ((with_reducible refine gd 7 rfl ?_); (try (refine gate_guard (by rfl) ?_; dsimp only)); refine bx 7 29 (#[.slice none 0 0]) ?_; intro gb630 hg w59 hbox hb; have n0_ := Aside0.mk (Kd.R_below (kr qi.out) hb); have n1_ := Aside0.mk (bb qa hb); have n2_ := Aside0.mk (bb qb hb); have n3_ := Aside0.mk (bb qc hb); have n4_ := Aside0.mk (below_step (be3 HB.out qd.out qe.out qg.out) hb); have n5_ := Aside0.mk (hbox); have n6_ := Aside0.mk (bs hg (be3 HB.out qd.out qe.out qg.out)); have n7_ := Aside0.mk (bs hg (be3 HB.out qd.out qe.out qg.out)); have n8_ := Aside0.mk (bl hg qa); have n9_ := Aside0.mk (br hg qa); have n10_ := Aside0.mk (bl hg qb); have n11_ := Aside0.mk (br hg qb); have n12_ := Aside0.mk (bl hg qc); have n13_ := Aside0.mk (br hg qc); clear qi; clear qa; clear qb; clear qc; clear HB; have qi := n0_; have qa := n1_; have qb := n2_; have qc := n3_; have HB := n4_; have BK630 := n5_; have GW630 := n6_; have GE630 := n7_; have qu := n8_; have qv := n9_; have qw := n10_; have qx := n11_; have qt := n12_; have qy := n13_; clear n0_ n1_ n2_ n3_ n4_ n5_ n6_ n7_ n8_ n9_ n10_ n11_ n12_ n13_; clear hb hbox hg; obtain ⟨Ao60, co60, eo60⟩ := Kd.R_slice qi.out; subst eo60; have hnb61 := qv.out; have hnc61 := qu.out; have hnb62 := qx.out; have hnc62 := qw.out; have hnb63 := qy.out; have hnc63 := qt.out; have ⟨hcz64_0, hfz64_0⟩ := Yc1 BK630.out; have ⟨hcz65_0, hfz65_0⟩ := Yc1 qc.out)))
         refine bodyPost_ret (results_ct rfl _ _ qp 29 #[.slice none 0 0] (0, 0) _ rfl (by (with_reducible repeat (first | apply blk_drewN | apply blk_drew | apply blk_alloc)); refine blk_put (cs := #[.slice none 0 0]) ?_ 0 _ rfl; (with_reducible repeat (first | apply blk_drewN | apply blk_drew | apply blk_alloc)); refine blk_far ?_ qt.out _; (with_reducible repeat (first | apply blk_drewN | apply blk_drew | apply blk_alloc)); exact qc.out) Tryd.underlying29 rfl (by kernel_rfl)) rfl ?_; exact ⟨_, Ye2, nl, (by first | exact be4 HB.out qd.out qe.out qg.out GE630.out | exact be3 HB.out qd.out qe.out qg.out | exact be2 HB.out qd.out qe.out)⟩
        ·rw [if_neg c52] at H
         have c52b0 : decide (100 < (t627.length : Int)) = false := decide_eq_false c52; have c52b1 : decide (100 < t627.length) = false := decide_eq_false (by omega); clear c52; simp only [Option.some.injEq, Prod.mk.injEq] at H; obtain ⟨rfl, rfl⟩ := H; have hnb66 := qj.out; have hnc66 := qk.out; have hnb67 := ql.out; have hnc67 := qm.out; have ⟨hcz68_0, hfz68_0⟩ := Yc1 qa.out; have hnb69 := qn.out; have hnc69 := qo.out; have ⟨hcz70_0, hcz70_1, hcz70_2, hfz70_0, hfz70_1, hfz70_2⟩ := Yc3 qb.out
         go_wp2_with (first | (go_at_call 72; (with_reducible refine (spec_l5Set.calls k2 _ _ qf a1_0 a1_1 a1_2 t627 _ ?side1 ?side2 A51.out).mono ?_); (case side1 => exact cb (Kd.C_below HR0_0.out HB.out)); (case side2 => exact HC0_0.out); rintro e w71 ⟨v628, rfl, ho0, hb⟩; refine Ya5 (Kd.R_lower (Kd.R_newB ho0 (g := qr) (o := .cells #[.string a1_0, .string a1_1, .bool a1_2] 45 (0, 0)) (bk qb.out)) (below_size (be3 HB.out qd.out qe.out qg.out))) (bb qa hb) (bb qb hb) (bb qc hb) (below_step (be3 HB.out qd.out qe.out qg.out) hb) ?_; clear qa qb qc HB; intro qi qa qb qc HB; (try clear hb); (try clear hb2); (try clear hk); (try clear hi); (try clear ho0)) | ((with_reducible refine gd 7 rfl ?_); (try (refine gate_guard (by rfl) ?_; dsimp only)); refine bx 7 29 (#[.slice none 0 0]) ?_; intro gb630 hg w72 hbox hb; have n0_ := Aside0.mk (Kd.R_below (kr qi.out) hb); have n1_ := Aside0.mk (bb qa hb); have n2_ := Aside0.mk (bb qb hb); have n3_ := Aside0.mk (bb qc hb); have n4_ := Aside0.mk (below_step (be3 HB.out qd.out qe.out qg.out) hb); have n5_ := Aside0.mk (hbox); have n6_ := Aside0.mk (bs hg (be3 HB.out qd.out qe.out qg.out)); have n7_ := Aside0.mk (bs hg (be3 HB.out qd.out qe.out qg.out)); have n8_ := Aside0.mk (bl hg qa); have n9_ := Aside0.mk (br hg qa); have n10_ := Aside0.mk (bl hg qb); have n11_ := Aside0.mk (br hg qb); have n12_ := Aside0.mk (bl hg qc); have n13_ := Aside0.mk (br hg qc); clear qi; clear qa; clear qb; clear qc; clear HB; have qi := n0_; have qa := n1_; have qb := n2_; have qc := n3_; have HB := n4_; have BK630 := n5_; have GW630 := n6_; have GE630 := n7_; have qu := n8_; have qv := n9_; have qw := n10_; have qx := n11_; have qt := n12_; have qy := n13_; clear n0_ n1_ n2_ n3_ n4_ n5_ n6_ n7_ n8_ n9_ n10_ n11_ n12_ n13_; clear hb hbox hg; obtain ⟨Ao73, co73, eo73⟩ := Kd.R_slice qi.out; subst eo73; have hnb74 := qv.out; have hnc74 := qu.out; have hnb75 := qx.out; have hnc75 := qw.out; have hnb76 := qy.out; have hnc76 := qt.out; have ⟨hcz77_0, hfz77_0⟩ := Yc1 BK630.out; have ⟨hcz78_0, hfz78_0⟩ := Yc1 qc.out))
         try have ⟨hcz78_0, hfz78_0⟩ := Yc1 qc.out
         repeat (go_quiet (first | (go_at_call 72; (with_reducible refine (spec_l5Set.calls k2 _ _ qf a1_0 a1_1 a1_2 t627 _ ?side1 ?side2 A51.out).mono ?_); (case side1 => exact cb (Kd.C_below HR0_0.out HB.out)); (case side2 => exact HC0_0.out); rintro e w71 ⟨v628, rfl, ho0, hb⟩; refine Ya5 (Kd.R_lower (Kd.R_newB ho0 (g := qr) (o := .cells #[.string a1_0, .string a1_1, .bool a1_2] 45 (0, 0)) (bk qb.out)) (below_size (be3 HB.out qd.out qe.out qg.out))) (bb qa hb) (bb qb hb) (bb qc hb) (below_step (be3 HB.out qd.out qe.out qg.out) hb) ?_; clear qa qb qc HB; intro qi qa qb qc HB; (try clear hb); (try clear hb2); (try clear hk); (try clear hi); (try clear ho0)) | ((with_reducible refine gd 7 rfl ?_); (try (refine gate_guard (by rfl) ?_; dsimp only)); refine bx 7 29 (#[.slice none 0 0]) ?_; intro gb630 hg w72 hbox hb; have n0_ := Aside0.mk (Kd.R_below (kr qi.out) hb); have n1_ := Aside0.mk (bb qa hb); have n2_ := Aside0.mk (bb qb hb); have n3_ := Aside0.mk (bb qc hb); have n4_ := Aside0.mk (below_step (be3 HB.out qd.out qe.out qg.out) hb); have n5_ := Aside0.mk (hbox); have n6_ := Aside0.mk (bs hg (be3 HB.out qd.out qe.out qg.out)); have n7_ := Aside0.mk (bs hg (be3 HB.out qd.out qe.out qg.out)); have n8_ := Aside0.mk (bl hg qa); have n9_ := Aside0.mk (br hg qa); have n10_ := Aside0.mk (bl hg qb); have n11_ := Aside0.mk (br hg qb); have n12_ := Aside0.mk (bl hg qc); have n13_ := Aside0.mk (br hg qc); clear qi; clear qa; clear qb; clear qc; clear HB; have qi := n0_; have qa := n1_; have qb := n2_; have qc := n3_; have HB := n4_; have BK630 := n5_; have GW630 := n6_; have GE630 := n7_; have qu := n8_; have qv := n9_; have qw := n10_; have qx := n11_; have qt := n12_; have qy := n13_; clear n0_ n1_ n2_ n3_ n4_ n5_ n6_ n7_ n8_ n9_ n10_ n11_ n12_ n13_; clear hb hbox hg; obtain ⟨Ao73, co73, eo73⟩ := Kd.R_slice qi.out; subst eo73; have hnb74 := qv.out; have hnc74 := qu.out; have hnb75 := qx.out; have hnc75 := qw.out; have hnb76 := qy.out; have hnc76 := qt.out; have ⟨hcz77_0, hfz77_0⟩ := Yc1 BK630.out)); try go_wp2_with (first | (go_at_call 72; (with_reducible refine (spec_l5Set.calls k2 _ _ qf a1_0 a1_1 a1_2 t627 _ ?side1 ?side2 A51.out).mono ?_); (case side1 => exact cb (Kd.C_below HR0_0.out HB.out)); (case side2 => exact HC0_0.out); rintro e w71 ⟨v628, rfl, ho0, hb⟩; refine Ya5 (Kd.R_lower (Kd.R_newB ho0 (g := qr) (o := .cells #[.string a1_0, .string a1_1, .bool a1_2] 45 (0, 0)) (bk qb.out)) (below_size (be3 HB.out qd.out qe.out qg.out))) (bb qa hb) (bb qb hb) (bb qc hb) (below_step (be3 HB.out qd.out qe.out qg.out) hb) ?_; clear qa qb qc HB; intro qi qa qb qc HB; (try clear hb); (try clear hb2); (try clear hk); (try clear hi); (try clear ho0)) | ((with_reducible refine gd 7 rfl ?_); (try (refine gate_guard (by rfl) ?_; dsimp only)); refine bx 7 29 (#[.slice none 0 0]) ?_; intro gb630 hg w72 hbox hb; have n0_ := Aside0.mk (Kd.R_below (kr qi.out) hb); have n1_ := Aside0.mk (bb qa hb); have n2_ := Aside0.mk (bb qb hb); have n3_ := Aside0.mk (bb qc hb); have n4_ := Aside0.mk (below_step (be3 HB.out qd.out qe.out qg.out) hb); have n5_ := Aside0.mk (hbox); have n6_ := Aside0.mk (bs hg (be3 HB.out qd.out qe.out qg.out)); have n7_ := Aside0.mk (bs hg (be3 HB.out qd.out qe.out qg.out)); have n8_ := Aside0.mk (bl hg qa); have n9_ := Aside0.mk (br hg qa); have n10_ := Aside0.mk (bl hg qb); have n11_ := Aside0.mk (br hg qb); have n12_ := Aside0.mk (bl hg qc); have n13_ := Aside0.mk (br hg qc); clear qi; clear qa; clear qb; clear qc; clear HB; have qi := n0_; have qa := n1_; have qb := n2_; have qc := n3_; have HB := n4_; have BK630 := n5_; have GW630 := n6_; have GE630 := n7_; have qu := n8_; have qv := n9_; have qw := n10_; have qx := n11_; have qt := n12_; have qy := n13_; clear n0_ n1_ n2_ n3_ n4_ n5_ n6_ n7_ n8_ n9_ n10_ n11_ n12_ n13_; clear hb hbox hg; obtain ⟨Ao73, co73, eo73⟩ := Kd.R_slice qi.out; subst eo73; have hnb74 := qv.out; have hnc74 := qu.out; have hnb75 := qx.out; have hnc75 := qw.out; have hnb76 := qy.out; have hnc76 := qt.out; have ⟨hcz77_0, hfz77_0⟩ := Yc1 BK630.out; have ⟨hcz78_0, hfz78_0⟩ := Yc1 qc.out)))
         refine bodyPost_ret (results_ct rfl _ _ qp 29 #[.slice Ao73 t627.length co73] (0, 0) _ rfl (by (with_reducible repeat (first | apply blk_drewN | apply blk_drew | apply blk_alloc)); refine blk_put (cs := #[.slice none 0 0]) ?_ 0 _ rfl; (with_reducible repeat (first | apply blk_drewN | apply blk_drew | apply blk_alloc)); refine blk_far ?_ qt.out _; (with_reducible repeat (first | apply blk_drewN | apply blk_drew | apply blk_alloc)); exact qc.out) Tryd.underlying29 rfl (by kernel_rfl)) rfl ?_; exact ⟨_, Ye2, by (with_reducible repeat (first | apply Kd.R_alloc | apply Kd.R_drewN | apply Kd.R_drew)); exact Kd.R_mono (Kd.R_far (p := ⟨qp, 0, none⟩) (Kd.R_far (p := ⟨gb630, 0, none⟩) (Kd.R_types (Kd.R_types qi.out BK630.out (by decide)) qc.out (by decide)) (fun _ hk => hk.1.2) (.slice Ao73 t627.length co73)) (fun _ hk => hk.2) (.slice Ao73 t627.length co73)) (fun _ hk => trivial), (by first | exact be4 HB.out qd.out qe.out qg.out GE630.out | exact be3 HB.out qd.out qe.out qg.out | exact be2 HB.out qd.out qe.out)⟩
 ·replace c4 := Bool.eq_false_iff.mpr c4; subst c4
  have H1 : (some (([] : List (S45)), 1)) = some (r1, r2) := by rw [if_neg (show ¬ (false = true) by decide)] at H; exact H
  clear H; have H := H1; clear H1; simp only [Option.some.injEq, Prod.mk.injEq] at H; obtain ⟨rfl, rfl⟩ := H
  go_enter Tryd.func42, Tryd.ntmps42
  go_wp2_with (first | ((with_reducible refine gd 2 rfl ?_); (try (refine gate_guard (by rfl) ?_; dsimp only)); refine bx 2 29 (#[.slice A0_0 qf.length c0_0]) ?_; intro gb622 hg w79 hbox hb; refine Ya4 (below_step (be HB.out) hb) (hbox) (bs hg (be HB.out)) (bs hg (be HB.out)) ?_; clear HB; intro HB qa GW622 qd; clear hb hbox hg) | ((with_reducible refine gd 3 rfl ?_); (try (refine gate_guard (by rfl) ?_; dsimp only)); refine bx 3 45 (#[.string a1_0, .string a1_1, .bool a1_2]) ?_; intro qr hg w80 hbox hb; refine Ya7 (bb qa hb) (below_step (be1 HB.out qd.out) hb) (hbox) (bs hg (be1 HB.out qd.out)) (bs hg (be1 HB.out qd.out)) (bl hg qa) (br hg qa) ?_; clear qa HB; intro qa HB qb GW623 qe qj qk; clear hb hbox hg) | ((with_reducible refine gd 4 rfl ?_); (try (refine gate_guard (by rfl) ?_; dsimp only)); refine bx 4 29 (#[.slice none 0 0]) ?_; intro qp hg w81 hbox hb; have n0_ := Aside0.mk (bb qa hb); have n1_ := Aside0.mk (bb qb hb); have n2_ := Aside0.mk (below_step (be2 HB.out qd.out qe.out) hb); have n3_ := Aside0.mk (hbox); have n4_ := Aside0.mk (bs hg (be2 HB.out qd.out qe.out)); have n5_ := Aside0.mk (bs hg (be2 HB.out qd.out qe.out)); have n6_ := Aside0.mk (bl hg qa); have n7_ := Aside0.mk (br hg qa); have n8_ := Aside0.mk (bl hg qb); have n9_ := Aside0.mk (br hg qb); clear qa; clear qb; clear HB; have qa := n0_; have qb := n1_; have HB := n2_; have qc := n3_; have GW624 := n4_; have qg := n5_; have ql := n6_; have qm := n7_; have qn := n8_; have qo := n9_; clear n0_ n1_ n2_ n3_ n4_ n5_ n6_ n7_ n8_ n9_; clear hb hbox hg; have hnb82 := qj.out; have hnc82 := qk.out; have hnb83 := ql.out; have hnc83 := qm.out; have ⟨hcz84_0, hfz84_0⟩ := Yc1 qa.out) | (go_at_call 13; (with_reducible refine (spec_ValidTree.calls k _ _ qf false _ ?side1 ?side2 A3.out).mono ?_); (case side1 => exact cb (Kd.C_below HR0_0.out HB.out)); (case side2 => exact HC0_0.out); rintro e w85 ⟨rfl, hb⟩; refine Ya4 (bb qa hb) (bb qb hb) (bb qc hb) (below_step (be3 HB.out qd.out qe.out qg.out) hb) ?_; clear qa qb qc HB; intro qa qb qc HB; (try clear hb); (try clear hb2); (try clear hk); (try clear hi); have hnb86 := qo.out; have hnc86 := qn.out; have ⟨hcz87_0, hfz87_0⟩ := Yc1 qc.out))
  try have ⟨hcz84_0, hfz84_0⟩ := Yc1 qa.out
  try have ⟨hcz87_0, hfz87_0⟩ := Yc1 qc.out
  repeat (go_quiet (first | ((with_reducible refine gd 2 rfl ?_); (try (refine gate_guard (by rfl) ?_; dsimp only)); refine bx 2 29 (#[.slice A0_0 qf.length c0_0]) ?_; intro gb622 hg w79 hbox hb; refine Ya4 (below_step (be HB.out) hb) (hbox) (bs hg (be HB.out)) (bs hg (be HB.out)) ?_; clear HB; intro HB qa GW622 qd; clear hb hbox hg) | ((with_reducible refine gd 3 rfl ?_); (try (refine gate_guard (by rfl) ?_; dsimp only)); refine bx 3 45 (#[.string a1_0, .string a1_1, .bool a1_2]) ?_; intro qr hg w80 hbox hb; refine Ya7 (bb qa hb) (below_step (be1 HB.out qd.out) hb) (hbox) (bs hg (be1 HB.out qd.out)) (bs hg (be1 HB.out qd.out)) (bl hg qa) (br hg qa) ?_; clear qa HB; intro qa HB qb GW623 qe qj qk; clear hb hbox hg) | ((with_reducible refine gd 4 rfl ?_); (try (refine gate_guard (by rfl) ?_; dsimp only)); refine bx 4 29 (#[.slice none 0 0]) ?_; intro qp hg w81 hbox hb; have n0_ := Aside0.mk (bb qa hb); have n1_ := Aside0.mk (bb qb hb); have n2_ := Aside0.mk (below_step (be2 HB.out qd.out qe.out) hb); have n3_ := Aside0.mk (hbox); have n4_ := Aside0.mk (bs hg (be2 HB.out qd.out qe.out)); have n5_ := Aside0.mk (bs hg (be2 HB.out qd.out qe.out)); have n6_ := Aside0.mk (bl hg qa); have n7_ := Aside0.mk (br hg qa); have n8_ := Aside0.mk (bl hg qb); have n9_ := Aside0.mk (br hg qb); clear qa; clear qb; clear HB; have qa := n0_; have qb := n1_; have HB := n2_; have qc := n3_; have GW624 := n4_; have qg := n5_; have ql := n6_; have qm := n7_; have qn := n8_; have qo := n9_; clear n0_ n1_ n2_ n3_ n4_ n5_ n6_ n7_ n8_ n9_; clear hb hbox hg; have hnb82 := qj.out; have hnc82 := qk.out; have hnb83 := ql.out; have hnc83 := qm.out) | (go_at_call 13; (with_reducible refine (spec_ValidTree.calls k _ _ qf false _ ?side1 ?side2 A3.out).mono ?_); (case side1 => exact cb (Kd.C_below HR0_0.out HB.out)); (case side2 => exact HC0_0.out); rintro e w85 ⟨rfl, hb⟩; refine Ya4 (bb qa hb) (bb qb hb) (bb qc hb) (below_step (be3 HB.out qd.out qe.out qg.out) hb) ?_; clear qa qb qc HB; intro qa qb qc HB; (try clear hb); (try clear hb2); (try clear hk); (try clear hi); have hnb86 := qo.out; have hnc86 := qn.out)); try go_wp2_with (first | ((with_reducible refine gd 2 rfl ?_); (try (refine gate_guard (by rfl) ?_; dsimp only)); refine bx 2 29 (#[.slice A0_0 qf.length c0_0]) ?_; intro gb622 hg w79 hbox hb; refine Ya4 (below_step (be HB.out) hb) (hbox) (bs hg (be HB.out)) (bs hg (be HB.out)) ?_; clear HB; intro HB qa GW622 qd; clear hb hbox hg) | ((with_reducible refine gd 3 rfl ?_); (try (refine gate_guard (by rfl) ?_; dsimp only)); refine bx 3 45 (#[.string a1_0, .string a1_1, .bool a1_2]) ?_; intro qr hg w80 hbox hb; refine Ya7 (bb qa hb) (below_step (be1 HB.out qd.out) hb) (hbox) (bs hg (be1 HB.out qd.out)) (bs hg (be1 HB.out qd.out)) (bl hg qa) (br hg qa) ?_; clear qa HB; intro qa HB qb GW623 qe qj qk; clear hb hbox hg) | ((with_reducible refine gd 4 rfl ?_); (try (refine gate_guard (by rfl) ?_; dsimp only)); refine bx 4 29 (#[.slice none 0 0]) ?_; intro qp hg w81 hbox hb; have n0_ := Aside0.mk (bb qa hb); have n1_ := Aside0.mk (bb qb hb); have n2_ := Aside0.mk (below_step (be2 HB.out qd.out qe.out) hb); have n3_ := Aside0.mk (hbox); have n4_ := Aside0.mk (bs hg (be2 HB.out qd.out qe.out)); have n5_ := Aside0.mk (bs hg (be2 HB.out qd.out qe.out)); have n6_ := Aside0.mk (bl hg qa); have n7_ := Aside0.mk (br hg qa); have n8_ := Aside0.mk (bl hg qb); have n9_ := Aside0.mk (br hg qb); clear qa; clear qb; clear HB; have qa := n0_; have qb := n1_; have HB := n2_; have qc := n3_; have GW624 := n4_; have qg := n5_; have ql := n6_; have qm := n7_; have qn := n8_; have qo := n9_; clear n0_ n1_ n2_ n3_ n4_ n5_ n6_ n7_ n8_ n9_; clear hb hbox hg; have hnb82 := qj.out; have hnc82 := qk.out; have hnb83 := ql.out; have hnc83 := qm.out; have ⟨hcz84_0, hfz84_0⟩ := Yc1 qa.out) | (go_at_call 13; (with_reducible refine (spec_ValidTree.calls k _ _ qf false _ ?side1 ?side2 A3.out).mono ?_); (case side1 => exact cb (Kd.C_below HR0_0.out HB.out)); (case side2 => exact HC0_0.out); rintro e w85 ⟨rfl, hb⟩; refine Ya4 (bb qa hb) (bb qb hb) (bb qc hb) (below_step (be3 HB.out qd.out qe.out qg.out) hb) ?_; clear qa qb qc HB; intro qa qb qc HB; (try clear hb); (try clear hb2); (try clear hk); (try clear hi); have hnb86 := qo.out; have hnc86 := qn.out; have ⟨hcz87_0, hfz87_0⟩ := Yc1 qc.out)))
  refine bodyPost_ret (results_ct rfl _ _ qp 29 #[.slice none 0 0] (0, 0) _ rfl (by (with_reducible repeat (first | apply blk_drewN | apply blk_drew | apply blk_alloc)); refine blk_put (cs := #[.slice none 0 0]) ?_ 0 _ rfl; (with_reducible repeat (first | apply blk_drewN | apply blk_drew | apply blk_alloc)); exact qc.out) Tryd.underlying29 rfl (by kernel_rfl)) rfl ?_; exact ⟨_, Ye2, nl, (by first | exact be3 HB.out qd.out qe.out qg.out | exact be2 HB.out qd.out qe.out | exact be1 HB.out qd.out)⟩

end Go.Proofs.YtkdghhkpmkfjhaaDoor.P


namespace Go.Proofs.YtkdghhkpmkfjhaaDoor.P
open Go.RowKit Go.Proofs.YtkdghhkpmkfjhaaDoorW.PrintWords Go.Proofs.YtkdghhkpmkfjhaaDoorW.PrintLast Go.Proofs.YtkdghhkpmkfjhaaDoorW.PrintMore
attribute [local go_sem] max2_int min2_int max_two min_two max_three min_three max_four min_four
set_option linter.unusedVariables false
set_option linter.unusedSimpArgs false

/-! ### impl_find: function 60 -/
def impl_find.g (l : List S45) (path : ByteArray) (i : Nat) : Int := Go.Lib.compareBytes path.data.toList (rd_T45 l (i : Int)).f0.data.toList
def impl_find.l0 (g : Nat → Int) : Nat → Nat → Nat → Option Nat
 | 0, _, _ => none
 | k + 1, i, j => if i < j then (if g ((i + j) / 2) > 0 then impl_find.l0 g k ((i + j) / 2 + 1) j else impl_find.l0 g k i ((i + j) / 2)) else some i
def impl_find.f (k : Nat) (l0 : List S45) (a1 : ByteArray) : Option (Int × Bool) := if l0.length ≤ 4611686018427387904 then ((impl_find.l0 (impl_find.g l0 a1) k 0 l0.length).bind fun i => some ((i : Int), if i < l0.length then (impl_find.g l0 a1 i == 0) else false)) else none
theorem impl_find.mono_l (g : Nat → Int) : ∀ k i j, LeO (impl_find.l0 g k i j) (impl_find.l0 g (k + 1) i j)
 | 0, _, _ => fun r h => by simp [impl_find.l0] at h
 | k + 1, i, j => by
  unfold impl_find.l0
  exact LeO.ite (LeO.ite (impl_find.mono_l g k _ _) (impl_find.mono_l g k _ _)) (LeO.refl _)
theorem impl_find.mono : ∀ l0 a1 k, LeO (impl_find.f k l0 a1) (impl_find.f (k + 1) l0 a1) := fun l0 a1 k => by
 unfold impl_find.f
 exact LeO.ite (LeO.bind (impl_find.mono_l _ _ _ _) (fun _ => LeO.refl _)) (LeO.refl _)
set_option maxHeartbeats 1000000 in
set_option maxRecDepth 100000 in
theorem impl_find.cmp_calls (A : Option Addr) (c : Nat) (l : List S45) (path : ByteArray) (Bp Bt : Nat) (W : World) (hp : W.cell? ⟨Bp, 0, none⟩ = some (.string path)) (ht : W.cell? ⟨Bt, 0, none⟩ = some (.slice A l.length c)) (hc : Kd.C k45 W A l.length l) (i : Nat) (hi : i < l.length) :
  Calls Tryd.prog 81 #[.int .i64 (i : Int), .pointer (some ⟨Bp, 0, none⟩), .pointer (some ⟨Bt, 0, none⟩)] W fun e w' => e = .returned (.int .i64 (impl_find.g l path i)) ∧ ∃ nd, w' = W.drewN nd := by
 obtain ⟨ad, e1, hx0⟩ := at_T45 hc (i : Int) (by omega) (by omega); subst e1; have hu29 := Tryd.underlying29; have hu45 := Tryd.underlying45; obtain ⟨hx1, hx2, hx3⟩ := hx0
 rw [Int.toNat_natCast] at hx1 hx2 hx3
 have c1 : decide ((i : Int) < (l.length : Int)) = true := decide_eq_true (by omega); have c2 : decide (0 ≤ (i : Int)) = true := decide_eq_true (by omega); have c3 : decide (i < l.length) = true := decide_eq_true hi
 go_enter Tryd.func81, Tryd.ntmps81
 go_wp2
 go_quiet (first | (go_at_call 82; exact Calls.quiet_of_same (Tryd.strings_Compare path (rd_T45 l (i : Int)).f0 _)))
 go_wp2
 go_ret
 exact ⟨rfl, nq, rfl⟩
set_option maxHeartbeats 1000000 in
set_option maxRecDepth 100000 in
theorem impl_find.calls (k : Nat) (A0_0 : Option Addr) (c0_0 : Nat) (qa : List S45) (a1 : ByteArray) (r1 : Int) (r2 : Bool) (w : World) (hr0_0 : Kd.C k45 w A0_0 qa.length qa) (hc0_0 : qa.length ≤ c0_0) (h : impl_find.f k qa a1 = some (r1, r2)) :
  Calls Tryd.prog 60 #[.agg #[.slice A0_0 qa.length c0_0], .string a1] w fun e w' => e = .returned (.tuple #[.int .i64 r1, .bool r2]) ∧ Below w.heap.size w w' := by
 have hu29 := Tryd.underlying29; have hu45 := Tryd.underlying45
 unfold impl_find.f at h
 have hl62 : qa.length ≤ 4611686018427387904 := by
  refine Classical.byContradiction fun hn => ?_
  rw [if_neg hn] at h
  cases h
 rw [if_pos hl62] at h
 have HL := Aside0.mk hl62; clear hl62; obtain ⟨m, hm, h2⟩ := Option.bind_eq_some_iff.1 h; obtain ⟨rfl, rfl⟩ := Prod.mk.inj (Option.some.inj h2); clear h h2; have HM := Aside0.mk hm; clear hm
 go_enter Tryd.func60, Tryd.ntmps60
 go_wp2
 have ht : ((w.alloc (.cells #[.slice A0_0 qa.length c0_0] 29)).alloc (.cells #[.string a1] 9)).cell? ⟨w.heap.size, 0, none⟩ = some (.slice A0_0 qa.length c0_0) := by simp
 have hp : ((w.alloc (.cells #[.slice A0_0 qa.length c0_0] 29)).alloc (.cells #[.string a1] 9)).cell? ⟨w.heap.size + 1, 0, none⟩ = some (.string a1) := by simp
 have hc : Kd.C k45 ((w.alloc (.cells #[.slice A0_0 qa.length c0_0] 29)).alloc (.cells #[.string a1] 9)) A0_0 qa.length qa := Kd.C_alloc (Kd.C_alloc hr0_0 _) _; have hb : Below w.heap.size w ((w.alloc (.cells #[.slice A0_0 qa.length c0_0] 29)).alloc (.cells #[.string a1] 9)) := below_alloc (below_alloc (Below.refl _ _) _) _; generalize ((w.alloc (.cells #[.slice A0_0 qa.length c0_0] 29)).alloc (.cells #[.string a1] 9)) = W at ht hp hc hb ⊢
 have HC := fun (nd i : Nat) (hi : i < qa.length) => impl_find.cmp_calls A0_0 c0_0 qa a1 (w.heap.size + 1) w.heap.size (W.drewN nd) hp ht (Kd.C_drewN hc nd) i hi
 clear hc hp ht hr0_0
 go_loopg [4, 6] k (fun kq v4 v6 w' => ∃ (i j nd : Nat), v4 = .int .i64 (i : Int) ∧ v6 = .int .i64 (j : Int) ∧ Aside0 (impl_find.l0 (impl_find.g qa a1) kq i j = some m) ∧ Aside0 (j ≤ qa.length) ∧ w' = W.drewN nd)
 case atStart => exact ⟨0, qa.length, 0, rfl, rfl, HM, ⟨Nat.le_refl _⟩, rfl⟩
 case round =>
  clear HM; obtain ⟨i, j, nd, rfl, rfl, HM, HJ, rfl⟩ := hrel
  cases gk with
  | zero => exact absurd HM.out (by simp [impl_find.l0])
  | succ k1 =>
   have H := HM.out; clear HM
   unfold impl_find.l0 at H
   by_cases hij : i < j
   ·rw [if_pos hij] at H
    have c1 : decide ((i : Int) < (j : Int)) = true := decide_eq_true (by omega); have c2 : decide (i < j) = true := decide_eq_true hij
    have he : wrap64 (IntKind.u64.wrap (wrap64 ((i : Int) + (j : Int))) / 2) = (((i + j) / 2 : Nat) : Int) := by
     have hl := HL.out; have hj := HJ.out
     have e1 : wrap64 ((i : Int) + (j : Int)) = (i : Int) + (j : Int) := by unfold wrap64; omega
     have e2 : IntKind.u64.wrap ((i : Int) + (j : Int)) = (i : Int) + (j : Int) := by simp [IntKind.wrap, IntKind.bits, IntKind.signed]; omega
     rw [e1, e2]
     unfold wrap64
     omega
    have hh : (i + j) / 2 < qa.length := by have := HJ.out; omega
    by_cases hg : impl_find.g qa a1 ((i + j) / 2) > 0
    ·rw [if_pos hg] at H
     have d1 : decide (0 < impl_find.g qa a1 ((i + j) / 2)) = true := decide_eq_true hg; have H' := Aside0.mk H; clear H
     go_wp2_with (go_at_call 81; rw [he]; refine (HC nd _ hh).mono ?_; rintro e w' ⟨rfl, nd2, rfl⟩)
     go_roundg k1
     case measure => omega
     case rel => exact ⟨(i + j) / 2 + 1, j, nd + nd2, by rw [show wrap64 (((i : Int) + (j : Int)) / 2 + 1) = (((i + j) / 2 + 1 : Nat) : Int) from by have := HL.out; have := HJ.out; unfold wrap64; omega], rfl, H', HJ, rfl⟩
    ·rw [if_neg hg] at H
     have d1 : decide (0 < impl_find.g qa a1 ((i + j) / 2)) = false := decide_eq_false hg; have H' := Aside0.mk H; clear H
     go_wp2_with (go_at_call 81; rw [he]; refine (HC nd _ hh).mono ?_; rintro e w' ⟨rfl, nd2, rfl⟩)
     go_roundg k1
     case measure => omega
     case rel => exact ⟨i, (i + j) / 2, nd + nd2, rfl, by rw [show ((i : Int) + (j : Int)) / 2 = (((i + j) / 2 : Nat) : Int) from by omega], H', ⟨by have := HJ.out; omega⟩, rfl⟩
   ·rw [if_neg hij] at H
    obtain rfl := Option.some.inj H; have c1 : decide ((i : Int) < (j : Int)) = false := decide_eq_false (by omega); have c2 : decide (i < j) = false := decide_eq_false hij
    by_cases hi : i < qa.length
    ·have d1 : decide ((i : Int) < (qa.length : Int)) = true := decide_eq_true (by omega); have d2 : decide (i < qa.length) = true := decide_eq_true hi
     go_wp2_with (go_at_call 81; refine (HC nd i hi).mono ?_; rintro e w' ⟨rfl, nd2, rfl⟩)
     go_ret2
     exact ⟨by simp [hi], pw_below_drewN hb _⟩
    ·have d1 : decide ((i : Int) < (qa.length : Int)) = false := decide_eq_false (by omega); have d2 : decide (i < qa.length) = false := decide_eq_false hi
     go_wp2
     go_ret2
     exact ⟨by simp [hi], pw_below_drewN hb _⟩


end Go.Proofs.YtkdghhkpmkfjhaaDoor.P

