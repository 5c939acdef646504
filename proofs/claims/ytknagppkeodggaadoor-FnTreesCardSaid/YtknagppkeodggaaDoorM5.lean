/- Several texts of this claim in one file: YtknagppkeodggaaDoorPSpecL4PartOk, YtknagppkeodggaaDoorPSpecL4Parts, YtknagppkeodggaaDoorPSpecL4Ok, YtknagppkeodggaaDoorPSpecValidPath, YtknagppkeodggaaDoorPSpecValidTree, YtknagppkeodggaaDoorPSpecPut, YtknagppkeodggaaDoorPSpecL5Copy. -/
import Derived.Test.YtknagppkeodggaaDoorM2
import Derived.Test.YtknagppkeodggaaDoorM3
import Derived.Test.YtknagppkeodggaaDoorM4
namespace Go.Proofs.YtknagppkeodggaaDoor.P
open Go.RowKit Go.Proofs.YtknagppkeodggaaDoorW.PrintWords Go.Proofs.YtknagppkeodggaaDoorW.PrintLast Go.Proofs.YtknagppkeodggaaDoorW.PrintMore
attribute [local go_sem] max2_int min2_int max_two min_two max_three min_three max_four min_four
set_option linter.unusedVariables false
set_option linter.unusedSimpArgs false

/-! ### spec_l4PartOk: function 149 -/
mutual
def spec_l4PartOk.j0 : Nat → ByteArray → Bool → Bool → Option (Bool)
 | 0, _, _, _ => none
 | k + 1, x0, x1, x17 => if x17 = true then (some false) else (spec_l4PartOk.l0 k x0 x1 0)
def spec_l4PartOk.l0 : Nat → ByteArray → Bool → Int → Option (Bool)
 | 0, _, _, _ => none
 | k + 1, x0, x1, x5 => if x5 < (x0.size : Int) then (if 0 ≤ x5 then (if (bt x0 x5) < 33 then (some false) else (if (bt x0 x5) > 126 then (some false) else (if (bt x0 x5) = 47 then (some false) else (if (bt x0 x5) = 34 then (some false) else (if x1 = true then (spec_l4PartOk.l0 k x0 x1 (wrap64 (x5 + 1))) else (if (bt x0 x5) = 42 then (some false) else (if (bt x0 x5) = 63 then (some false) else (spec_l4PartOk.l0 k x0 x1 (wrap64 (x5 + 1)))))))))) else (none)) else (some true)
end
def spec_l4PartOk.f (k : Nat) (a0 : ByteArray) (a1 : Bool) : Option (Bool) := (spec_l1In.f (a0.size : Int) 1 20).bind fun a8 => (if a8 = true then (if a0.toList = ([46] : List UInt8) then (spec_l4PartOk.j0 k a0 a1 true) else (spec_l4PartOk.j0 k a0 a1 (a0.toList == ([46, 46] : List UInt8)))) else (spec_l4PartOk.j0 k a0 a1 true))
theorem spec_l4PartOk.mono_l : ∀ k, (∀ y0 y1 y2, LeO (spec_l4PartOk.j0 k y0 y1 y2) (spec_l4PartOk.j0 (k + 1) y0 y1 y2)) ∧ (∀ y0 y1 y2, LeO (spec_l4PartOk.l0 k y0 y1 y2) (spec_l4PartOk.l0 (k + 1) y0 y1 y2))
 | 0 => ⟨fun _ _ _ r h => by simp [spec_l4PartOk.j0] at h, fun _ _ _ r h => by simp [spec_l4PartOk.l0] at h⟩
 | k + 1 => by
  obtain ⟨ih0, ih1⟩ := spec_l4PartOk.mono_l k; refine ⟨?_, ?_⟩
  ·intro y0 y1 y2
   unfold spec_l4PartOk.j0
   repeat' first
   | (with_reducible exact ih0 _ _ _)
   | (with_reducible exact ih1 _ _ _)
   | (with_reducible exact LeO.refl _)
   | (with_reducible exact LeO.none _)
   | (with_reducible refine LeO.ite ?_ ?_)
   | (with_reducible refine LeO.bind ?_ (fun _ => ?_))
   | exact ih0 _ _ _
   | exact ih1 _ _ _
   | exact LeO.none _
   | refine LeO.ite ?_ ?_
   | refine LeO.bind ?_ (fun _ => ?_)
  ·intro y0 y1 y2
   unfold spec_l4PartOk.l0
   repeat' first
   | (with_reducible exact ih0 _ _ _)
   | (with_reducible exact ih1 _ _ _)
   | (with_reducible exact LeO.refl _)
   | (with_reducible exact LeO.none _)
   | (with_reducible refine LeO.ite ?_ ?_)
   | (with_reducible refine LeO.bind ?_ (fun _ => ?_))
   | exact ih0 _ _ _
   | exact ih1 _ _ _
   | exact LeO.none _
   | refine LeO.ite ?_ ?_
   | refine LeO.bind ?_ (fun _ => ?_)
theorem spec_l4PartOk.mono : ∀ a0 a1 k, LeO (spec_l4PartOk.f k a0 a1) (spec_l4PartOk.f (k + 1) a0 a1) := by
 intro a0 a1 k; obtain ⟨ih0, ih1⟩ := spec_l4PartOk.mono_l k
 unfold spec_l4PartOk.f
 repeat' first
   | (with_reducible exact ih0 _ _ _)
   | (with_reducible exact ih1 _ _ _)
   | (with_reducible exact LeO.refl _)
   | (with_reducible exact LeO.none _)
   | (with_reducible refine LeO.ite ?_ ?_)
   | (with_reducible refine LeO.bind ?_ (fun _ => ?_))
   | exact ih0 _ _ _
   | exact ih1 _ _ _
   | exact LeO.none _
   | refine LeO.ite ?_ ?_
   | refine LeO.bind ?_ (fun _ => ?_)
set_option maxHeartbeats 8000000 in
set_option maxRecDepth 100000 in
theorem spec_l4PartOk.calls (k : Nat) (a0 : ByteArray) (a1 : Bool) (r : Bool) (w : World) (h : spec_l4PartOk.f k a0 a1 = some r) :
  Calls Tryd.prog 149 #[.string a0, .bool a1] w fun e w' => e = .returned (.bool r) ∧ Drawn0 w w' := by
 have H : ((spec_l1In.f (a0.size : Int) 1 20).bind fun a8 => (if a8 = true then (if a0.toList = ([46] : List UInt8) then (spec_l4PartOk.j0 k a0 a1 true) else (spec_l4PartOk.j0 k a0 a1 (a0.toList == ([46, 46] : List UInt8)))) else (spec_l4PartOk.j0 k a0 a1 true))) = some r := h; clear h; have ad := Aside0.mk H; clear H
 go_enter Tryd.func149, Tryd.ntmps149
 go_upto_region 1 with (fail)
 go_cut [17] (fun v17 wc => ∃ (kq : Nat) (ab : Bool), v17 = .bool ab ∧ Aside0 (spec_l4PartOk.j0 kq a0 a1 ab = some r) ∧ Aside0 (kq ≤ k) ∧ Drawn0 w wc)
 case first =>
  have H := ad.out; clear ad; replace H := Option.bind_eq_some_iff.mp H; obtain ⟨a8, A40, H⟩ := H; replace H : (if a8 = true then (if a0.toList = ([46] : List UInt8) then (spec_l4PartOk.j0 k a0 a1 true) else (spec_l4PartOk.j0 k a0 a1 (a0.toList == ([46, 46] : List UInt8)))) else (spec_l4PartOk.j0 k a0 a1 true)) = some r := H; have A4 := Aside0.mk A40; clear A40
  by_cases c5 : a8 = true
  ·subst c5
   have H1 : (if a0.toList = ([46] : List UInt8) then (spec_l4PartOk.j0 k a0 a1 true) else (spec_l4PartOk.j0 k a0 a1 (a0.toList == ([46, 46] : List UInt8)))) = some r := by rw [if_pos rfl] at H; exact H
   clear H; have H := H1; clear H1
   by_cases c6 : a0.toList = ([46] : List UInt8)
   ·rw [if_pos c6] at H
    have a3 : (a0.toList == ([46] : List UInt8)) = true := beq_iff_eq.mpr c6; have ae : (a0.toList != ([46] : List UInt8)) = false := bne_eq_false_iff_eq.mpr c6; clear c6; (first | rw [a3] | (simp only [i64_w, i32_w]; rw [a3]) | skip); have H' := Aside0.mk H; clear H
    go_wp2_with (first | ((with_reducible refine gc 131 rfl ?_); refine gl (some 8) _ (#[.int .i64 (a0.size : Int), .int .i64 1, .int .i64 20]) Tryd.func131 ?_; (with_reducible refine (spec_l1In.calls (a0.size : Int) 1 20 true _ A4.out).mono ?_); rintro e w' ⟨rfl, ⟨nd, rfl⟩⟩; refine ⟨_, rfl, ?_⟩))
    go_meet
    case rel => exact ⟨_, (true), Ye1, H', ⟨by first | omega | exact Nat.le_refl _⟩, dz⟩
   ·rw [if_neg c6] at H
    have a3 : (a0.toList == ([46] : List UInt8)) = false := beq_eq_false_iff_ne.mpr c6; have ae : (a0.toList != ([46] : List UInt8)) = true := bne_iff_ne.mpr c6; (first | rw [a3] | (simp only [i64_w, i32_w]; rw [a3]) | skip); have H' := Aside0.mk H; clear H
    go_wp2_with (first | ((with_reducible refine gc 131 rfl ?_); refine gl (some 8) _ (#[.int .i64 (a0.size : Int), .int .i64 1, .int .i64 20]) Tryd.func131 ?_; (with_reducible refine (spec_l1In.calls (a0.size : Int) 1 20 true _ A4.out).mono ?_); rintro e w' ⟨rfl, ⟨nd, rfl⟩⟩; refine ⟨_, rfl, ?_⟩))
    go_meet
    case rel => exact ⟨_, ((a0.toList == ([46, 46] : List UInt8))), Ye1, H', ⟨by first | omega | exact Nat.le_refl _⟩, dz⟩
  ·replace c5 := Bool.eq_false_iff.mpr c5; subst c5
   have H1 : (spec_l4PartOk.j0 k a0 a1 true) = some r := by rw [if_neg (show ¬ (false = true) by decide)] at H; exact H
   clear H; have H := H1; clear H1; have H' := Aside0.mk H; clear H
   go_wp2_with (first | ((with_reducible refine gc 131 rfl ?_); refine gl (some 8) _ (#[.int .i64 (a0.size : Int), .int .i64 1, .int .i64 20]) Tryd.func131 ?_; (with_reducible refine (spec_l1In.calls (a0.size : Int) 1 20 false _ A4.out).mono ?_); rintro e w' ⟨rfl, ⟨nd, rfl⟩⟩; refine ⟨_, rfl, ?_⟩))
   go_meet
   case rel => exact ⟨_, (true), Ye1, H', ⟨by first | omega | exact Nat.le_refl _⟩, dz⟩
 case rest =>
  clear ad; (try clear c1); (try clear p2); (try clear c5); (try clear c6); (try clear a3); (try clear ae); obtain ⟨kq, ab, rfl, HA, HJ2, ⟨mc2, rfl⟩⟩ := hcut
  cases kq with
  | zero => exact absurd HA.out (by simp [spec_l4PartOk.j0])
  | succ af =>
   have H := HA.out; clear HA; simp only [spec_l4PartOk.j0] at H
   by_cases c7 : ab = true
   ·subst c7
    have H1 : (some false) = some r := by rw [if_pos rfl] at H; exact H
    clear H; have H := H1; clear H1; obtain rfl := Option.some.inj H
    go_wp2
    go_ret
    exact ⟨Ye1, dz⟩
   ·replace c7 := Bool.eq_false_iff.mpr c7; subst c7
    have H1 : (spec_l4PartOk.l0 af a0 a1 0) = some r := by rw [if_neg (show ¬ (false = true) by decide)] at H; exact H
    clear H; have H := H1; clear H1; have H' := Aside0.mk H; clear H
    go_wp2
    go_loopg [5] af (fun kq v5 w' => ∃ (a2 : Int), v5 = .int .i64 a2 ∧ Aside0 (spec_l4PartOk.l0 kq a0 a1 a2 = some r) ∧ Aside0 (kq ≤ af) ∧ Drawn0 w w')
    case atStart => exact ⟨(0), Ye1, H', ⟨Nat.le_refl _⟩, dz⟩
    case round =>
     clear H'; (try clear c1); (try clear c2); (try clear p2); (try clear c5); (try clear c6); (try clear a3); (try clear ae); (try clear c7); (try clear p2); obtain ⟨a2, rfl, HA, HK2, ⟨m2, rfl⟩⟩ := hrel
     cases gk with
     | zero => exact absurd HA.out (by simp [spec_l4PartOk.l0])
     | succ k2 =>
      have H := HA.out; clear HA; simp only [spec_l4PartOk.l0] at H
      by_cases c8 : a2 < (a0.size : Int)
      ·rw [if_pos c8] at H
       have ag : decide (a2 < (a0.size : Int)) = true := decide_eq_true c8; clear c8
       by_cases c9 : 0 ≤ a2
       ·rw [if_pos c9] at H
        have c9b0 : decide (0 ≤ a2) = true := decide_eq_true c9; clear c9
        by_cases a9 : (bt a0 a2) < 33
        ·rw [if_pos a9] at H
         have ah : decide ((bt a0 a2) < 33) = true := decide_eq_true a9; clear a9; obtain rfl := Option.some.inj H; have p10 : 0 ≤ (a2 : Int) := oda; have q10 : a2 < (a0.size : Int) := oda; have hx10 := bt_at a0 a2; replace p10 := eq_true p10; replace q10 := eq_true q10
         go_wp2
         go_ret
         exact ⟨Ye1, dz⟩
        ·rw [if_neg a9] at H
         have ah : decide ((bt a0 a2) < 33) = false := decide_eq_false a9; clear a9
         by_cases aa : (bt a0 a2) > 126
         ·rw [if_pos aa] at H
          have ai : decide (126 < (bt a0 a2)) = true := decide_eq_true aa; clear aa; obtain rfl := Option.some.inj H; have p10 : 0 ≤ (a2 : Int) := oda; have q10 : a2 < (a0.size : Int) := oda; have hx10 := bt_at a0 a2; replace p10 := eq_true p10; replace q10 := eq_true q10; have p12 : 0 ≤ (a2 : Int) := oda; have q12 : a2 < (a0.size : Int) := oda; have hx12 := bt_at a0 a2; replace p12 := eq_true p12; replace q12 := eq_true q12
          go_wp2
          go_ret
          exact ⟨Ye1, dz⟩
         ·rw [if_neg aa] at H
          have ai : decide (126 < (bt a0 a2)) = false := decide_eq_false aa; clear aa
          by_cases a4 : (bt a0 a2) = 47
          ·rw [if_pos a4] at H
           have aj : ((bt a0 a2) == 47) = true := beq_iff_eq.mpr a4; have ak : ((bt a0 a2) != 47) = false := bne_eq_false_iff_eq.mpr a4; clear a4; obtain rfl := Option.some.inj H; have p10 : 0 ≤ (a2 : Int) := oda; have q10 : a2 < (a0.size : Int) := oda; have hx10 := bt_at a0 a2; replace p10 := eq_true p10; replace q10 := eq_true q10; have p12 : 0 ≤ (a2 : Int) := oda; have q12 : a2 < (a0.size : Int) := oda; have hx12 := bt_at a0 a2; replace p12 := eq_true p12; replace q12 := eq_true q12; have p14 : 0 ≤ (a2 : Int) := oda; have q14 : a2 < (a0.size : Int) := oda; have hx14 := bt_at a0 a2; replace p14 := eq_true p14; replace q14 := eq_true q14
           go_wp2
           go_ret
           exact ⟨Ye1, dz⟩
          ·rw [if_neg a4] at H
           have aj : ((bt a0 a2) == 47) = false := beq_eq_false_iff_ne.mpr a4; have ak : ((bt a0 a2) != 47) = true := bne_iff_ne.mpr a4
           by_cases a5 : (bt a0 a2) = 34
           ·rw [if_pos a5] at H
            have al : ((bt a0 a2) == 34) = true := beq_iff_eq.mpr a5; have am : ((bt a0 a2) != 34) = false := bne_eq_false_iff_eq.mpr a5; clear a5; obtain rfl := Option.some.inj H; have p10 : 0 ≤ (a2 : Int) := oda; have q10 : a2 < (a0.size : Int) := oda; have hx10 := bt_at a0 a2; replace p10 := eq_true p10; replace q10 := eq_true q10; have p12 : 0 ≤ (a2 : Int) := oda; have q12 : a2 < (a0.size : Int) := oda; have hx12 := bt_at a0 a2; replace p12 := eq_true p12; replace q12 := eq_true q12; have p14 : 0 ≤ (a2 : Int) := oda; have q14 : a2 < (a0.size : Int) := oda; have hx14 := bt_at a0 a2; replace p14 := eq_true p14; replace q14 := eq_true q14; have p16 : 0 ≤ (a2 : Int) := oda; have q16 : a2 < (a0.size : Int) := oda; have hx16 := bt_at a0 a2; replace p16 := eq_true p16; replace q16 := eq_true q16
            go_wp2
            go_ret
            exact ⟨Ye1, dz⟩
           ·rw [if_neg a5] at H
            have al : ((bt a0 a2) == 34) = false := beq_eq_false_iff_ne.mpr a5; have am : ((bt a0 a2) != 34) = true := bne_iff_ne.mpr a5
            by_cases ac : a1 = true
            ·subst ac
             have H1 : (spec_l4PartOk.l0 k2 a0 true (wrap64 (a2 + 1))) = some r := by rw [if_pos rfl] at H; exact H
             clear H; have H := H1; clear H1; have H' := Aside0.mk H; clear H; have p10 : 0 ≤ (a2 : Int) := oda; have q10 : a2 < (a0.size : Int) := oda; have hx10 := bt_at a0 a2; replace p10 := eq_true p10; replace q10 := eq_true q10; have p12 : 0 ≤ (a2 : Int) := oda; have q12 : a2 < (a0.size : Int) := oda; have hx12 := bt_at a0 a2; replace p12 := eq_true p12; replace q12 := eq_true q12; have p14 : 0 ≤ (a2 : Int) := oda; have q14 : a2 < (a0.size : Int) := oda; have hx14 := bt_at a0 a2; replace p14 := eq_true p14; replace q14 := eq_true q14; have p16 : 0 ≤ (a2 : Int) := oda; have q16 : a2 < (a0.size : Int) := oda; have hx16 := bt_at a0 a2; replace p16 := eq_true p16; replace q16 := eq_true q16
             go_wp2
             go_roundg k2
             case measure => have := HJ2.out; have := HK2.out; omega
             case rel => exact ⟨(wrap64 (a2 + 1)), Ye1, H', ⟨by have := HJ2.out; have := HK2.out; omega⟩, dz⟩
            ·replace ac := Bool.eq_false_iff.mpr ac; subst ac
             have H1 : (if (bt a0 a2) = 42 then (some false) else (if (bt a0 a2) = 63 then (some false) else (spec_l4PartOk.l0 k2 a0 false (wrap64 (a2 + 1))))) = some r := by rw [if_neg (show ¬ (false = true) by decide)] at H; exact H
             clear H; have H := H1; clear H1
             by_cases a6 : (bt a0 a2) = 42
             ·rw [if_pos a6] at H
              have an : ((bt a0 a2) == 42) = true := beq_iff_eq.mpr a6; have ao : ((bt a0 a2) != 42) = false := bne_eq_false_iff_eq.mpr a6; clear a6; obtain rfl := Option.some.inj H; have p10 : 0 ≤ (a2 : Int) := oda; have q10 : a2 < (a0.size : Int) := oda; have hx10 := bt_at a0 a2; replace p10 := eq_true p10; replace q10 := eq_true q10; have p12 : 0 ≤ (a2 : Int) := oda; have q12 : a2 < (a0.size : Int) := oda; have hx12 := bt_at a0 a2; replace p12 := eq_true p12; replace q12 := eq_true q12; have p14 : 0 ≤ (a2 : Int) := oda; have q14 : a2 < (a0.size : Int) := oda; have hx14 := bt_at a0 a2; replace p14 := eq_true p14; replace q14 := eq_true q14; have p16 : 0 ≤ (a2 : Int) := oda; have q16 : a2 < (a0.size : Int) := oda; have hx16 := bt_at a0 a2; replace p16 := eq_true p16; replace q16 := eq_true q16; have p19 : 0 ≤ (a2 : Int) := oda; have q19 : a2 < (a0.size : Int) := oda; have hx19 := bt_at a0 a2; replace p19 := eq_true p19; replace q19 := eq_true q19
              go_wp2
              go_ret
              exact ⟨Ye1, dz⟩
             ·rw [if_neg a6] at H
              have an : ((bt a0 a2) == 42) = false := beq_eq_false_iff_ne.mpr a6; have ao : ((bt a0 a2) != 42) = true := bne_iff_ne.mpr a6
              by_cases a7 : (bt a0 a2) = 63
              ·rw [if_pos a7] at H
               have ap : ((bt a0 a2) == 63) = true := beq_iff_eq.mpr a7; have aq : ((bt a0 a2) != 63) = false := bne_eq_false_iff_eq.mpr a7; clear a7; obtain rfl := Option.some.inj H; have p10 : 0 ≤ (a2 : Int) := oda; have q10 : a2 < (a0.size : Int) := oda; have hx10 := bt_at a0 a2; replace p10 := eq_true p10; replace q10 := eq_true q10; have p12 : 0 ≤ (a2 : Int) := oda; have q12 : a2 < (a0.size : Int) := oda; have hx12 := bt_at a0 a2; replace p12 := eq_true p12; replace q12 := eq_true q12; have p14 : 0 ≤ (a2 : Int) := oda; have q14 : a2 < (a0.size : Int) := oda; have hx14 := bt_at a0 a2; replace p14 := eq_true p14; replace q14 := eq_true q14; have p16 : 0 ≤ (a2 : Int) := oda; have q16 : a2 < (a0.size : Int) := oda; have hx16 := bt_at a0 a2; replace p16 := eq_true p16; replace q16 := eq_true q16; have p19 : 0 ≤ (a2 : Int) := oda; have q19 : a2 < (a0.size : Int) := oda; have hx19 := bt_at a0 a2; replace p19 := eq_true p19; replace q19 := eq_true q19; have p21 : 0 ≤ (a2 : Int) := oda; have q21 : a2 < (a0.size : Int) := oda; have hx21 := bt_at a0 a2; replace p21 := eq_true p21; replace q21 := eq_true q21
               go_wp2
               go_ret
               exact ⟨Ye1, dz⟩
              ·rw [if_neg a7] at H
               have ap : ((bt a0 a2) == 63) = false := beq_eq_false_iff_ne.mpr a7; have aq : ((bt a0 a2) != 63) = true := bne_iff_ne.mpr a7; have H' := Aside0.mk H; clear H; have p10 : 0 ≤ (a2 : Int) := oda; have q10 : a2 < (a0.size : Int) := oda; have hx10 := bt_at a0 a2; replace p10 := eq_true p10; replace q10 := eq_true q10; have p12 : 0 ≤ (a2 : Int) := oda; have q12 : a2 < (a0.size : Int) := oda; have hx12 := bt_at a0 a2; replace p12 := eq_true p12; replace q12 := eq_true q12; have p14 : 0 ≤ (a2 : Int) := oda; have q14 : a2 < (a0.size : Int) := oda; have hx14 := bt_at a0 a2; replace p14 := eq_true p14; replace q14 := eq_true q14; have p16 : 0 ≤ (a2 : Int) := oda; have q16 : a2 < (a0.size : Int) := oda; have hx16 := bt_at a0 a2; replace p16 := eq_true p16; replace q16 := eq_true q16; have p19 : 0 ≤ (a2 : Int) := oda; have q19 : a2 < (a0.size : Int) := oda; have hx19 := bt_at a0 a2; replace p19 := eq_true p19; replace q19 := eq_true q19; have p21 : 0 ≤ (a2 : Int) := oda; have q21 : a2 < (a0.size : Int) := oda; have hx21 := bt_at a0 a2; replace p21 := eq_true p21; replace q21 := eq_true q21
               go_wp2
               go_roundg k2
               case measure => have := HJ2.out; have := HK2.out; omega
               case rel => exact ⟨(wrap64 (a2 + 1)), Ye1, H', ⟨by have := HJ2.out; have := HK2.out; omega⟩, dz⟩
       ·rw [if_neg c9] at H
        exact absurd H (by simp)
      ·rw [if_neg c8] at H
       have ag : decide (a2 < (a0.size : Int)) = false := decide_eq_false c8; clear c8; obtain rfl := Option.some.inj H
       go_wp2
       go_ret
       exact ⟨Ye1, dz⟩

end Go.Proofs.YtknagppkeodggaaDoor.P


namespace Go.Proofs.YtknagppkeodggaaDoor.P
open Go.RowKit Go.Proofs.YtknagppkeodggaaDoorW.PrintWords Go.Proofs.YtknagppkeodggaaDoorW.PrintLast Go.Proofs.YtknagppkeodggaaDoorW.PrintMore
attribute [local go_sem] max2_int min2_int max_two min_two max_three min_three max_four min_four
set_option linter.unusedVariables false
set_option linter.unusedSimpArgs false

/-! ### spec_l4Parts: function 79 -/
def spec_l4Parts.l0 : Nat → ByteArray → List ByteArray → Int → Int → Option (List ByteArray)
 | 0, _, _, _, _ => none
 | k + 1, x0, x3, x4, x5 => if x5 < (x0.size : Int) then (if 0 ≤ x5 then (if (bt x0 x5) = 47 then (if 0 ≤ x4 then (if x4 ≤ x5 then (if x5 ≤ (x0.size : Int) then (if x3.length < 8796093022208 then (spec_l4Parts.l0 k x0 (x3 ++ [x0.extract (x4 : Int).toNat (x5 : Int).toNat]) (wrap64 (x5 + 1)) (wrap64 (x5 + 1))) else (none)) else (none)) else (none)) else (none)) else (spec_l4Parts.l0 k x0 x3 x4 (wrap64 (x5 + 1)))) else (none)) else (if 0 ≤ x4 then (if x4 ≤ (x0.size : Int) then (if x3.length < 8796093022208 then (some (x3 ++ [x0.extract (x4 : Int).toNat x0.size])) else (none)) else (none)) else (none))
def spec_l4Parts.f (k : Nat) (a0 : ByteArray) : Option (List ByteArray) := spec_l4Parts.l0 k a0 (([] : List ByteArray)) 0 0
theorem spec_l4Parts.mono_l : ∀ k, (∀ y0 y1 y2 y3, LeO (spec_l4Parts.l0 k y0 y1 y2 y3) (spec_l4Parts.l0 (k + 1) y0 y1 y2 y3))
 | 0 => fun _ _ _ _ r h => by simp [spec_l4Parts.l0] at h
 | k + 1 => by
  have ih0 := spec_l4Parts.mono_l k
  ·intro y0 y1 y2 y3
   unfold spec_l4Parts.l0
   repeat' first
   | (with_reducible exact ih0 _ _ _ _)
   | (with_reducible exact LeO.refl _)
   | (with_reducible exact LeO.none _)
   | (with_reducible refine LeO.ite ?_ ?_)
   | (with_reducible refine LeO.bind ?_ (fun _ => ?_))
   | exact ih0 _ _ _ _
   | exact LeO.none _
   | refine LeO.ite ?_ ?_
   | refine LeO.bind ?_ (fun _ => ?_)
theorem spec_l4Parts.mono : ∀ a0 k, LeO (spec_l4Parts.f k a0) (spec_l4Parts.f (k + 1) a0) := by
 intro a0 k; have ih0 := spec_l4Parts.mono_l k
 unfold spec_l4Parts.f
 repeat' first
   | (with_reducible exact ih0 _ _ _ _)
   | (with_reducible exact LeO.refl _)
   | (with_reducible exact LeO.none _)
   | (with_reducible refine LeO.ite ?_ ?_)
   | (with_reducible refine LeO.bind ?_ (fun _ => ?_))
   | exact ih0 _ _ _ _
   | exact LeO.none _
   | refine LeO.ite ?_ ?_
   | refine LeO.bind ?_ (fun _ => ?_)
set_option maxHeartbeats 8000000 in
set_option maxRecDepth 100000 in
theorem spec_l4Parts.calls (k : Nat) (a0 : ByteArray) (r : List ByteArray) (w : World) (h : spec_l4Parts.f k a0 = some r) :
  Calls Tryd.prog 79 #[.string a0] w fun e w' => ∃ v0_ : Value, e = .returned (v0_) ∧ Kd.R Kd.string 9 w' w.heap.size (fun _ => True) v0_ r ∧ Below w.heap.size w w' := by
 have HB := Aside0.mk (Below.refl w.heap.size w); have H : (spec_l4Parts.l0 k a0 (([] : List ByteArray)) 0 0) = some r := h; clear h
 obtain ⟨ac, a4⟩ : ∃ y_ : List ByteArray, y_ = (([] : List ByteArray)) := ⟨_, rfl⟩
 replace H : (spec_l4Parts.l0 k a0 ac 0 0) = some r := by first | (rw [a4]; with_reducible exact H) | (have H2_ := (Option.bind_some _ _).symm.trans H; rw [a4]; with_reducible exact H2_) | (have H2_ := (Option.bind_some _ _).symm.trans H; with_reducible exact H2_) | with_reducible exact H | (rw [a4]; exact H) | exact H
 have ad := Aside0.mk a4; clear a4; have H' := Aside0.mk H; clear H
 go_enter Tryd.func79, Tryd.ntmps79
 go_wp2_with (first | ((with_reducible refine gd 6 rfl ?_); refine Kd.R_lit Kd.string _ 9 ?hg (N := 6) ?hd (xs := ([] : List ByteArray)) (inner := []) (ok := fun _ => True) (okp := fun _ => True) ?hr ?hp (fun _ hk => hk) trivial (Below.refl _ _) (Nat.le_refl _) (by simp) ?_; (case hd => rfl); (case hg => rfl); (case hr => first | (go_simp; done) | (go_simp; rfl)); (case hp => exact (Reps.none _ _)); intro v108 w2 ho3 hb hg_ hnew_; clear hg_ hnew_; (first | rw [← ad.out] at ho3 | (simp only [Int.reduceToNat] at ho3; rw [← ad.out] at ho3)); refine Ya2 (Kd.R_lower ho3 (below_size (be HB.out))) (below_step (be HB.out) hb) ?_; clear HB; intro af HB; clear hb ho3))
 go_loopg [3, 4, 5] k (fun kq v3 v4 v5 w' => ∃ (a3 : List ByteArray) (a2 : Int) (a1 : Int), v4 = .int .i64 a2 ∧ v5 = .int .i64 a1 ∧ Aside0 (spec_l4Parts.l0 kq a0 a3 a2 a1 = some r) ∧ Aside0 (kq ≤ k) ∧ Aside0 (Kd.R Kd.string 9 w' w.heap.size (fun _ => True) v3 a3) ∧ Aside0 (Below w.heap.size w w'))
 case atStart => exact ⟨(ac), (0), (0), Ye1, Ye1, H', ⟨Nat.le_refl _⟩, ⟨kr af.out⟩, ⟨be HB.out⟩⟩
 case round =>
  clear H'; (try clear p2); obtain ⟨a3, a2, a1, rfl, rfl, HA, HK1, a5, HB⟩ := hrel
  cases gk with
  | zero => exact absurd HA.out (by simp [spec_l4Parts.l0])
  | succ k1 =>
   have H := HA.out; clear HA; simp only [spec_l4Parts.l0] at H
   by_cases c4 : a1 < (a0.size : Int)
   ·rw [if_pos c4] at H
    have ag : decide (a1 < (a0.size : Int)) = true := decide_eq_true c4; clear c4
    by_cases c5 : 0 ≤ a1
    ·rw [if_pos c5] at H
     have c5b0 : decide (0 ≤ a1) = true := decide_eq_true c5; clear c5
     by_cases c7 : (bt a0 a1) = 47
     ·rw [if_pos c7] at H
      have ah : ((bt a0 a1) == 47) = true := beq_iff_eq.mpr c7; have ai : ((bt a0 a1) != 47) = false := bne_eq_false_iff_eq.mpr c7; clear c7
      by_cases c8 : 0 ≤ a2
      ·rw [if_pos c8] at H
       have c8b0 := eq_true c8; have c8b1 : decide (0 ≤ a2) = true := decide_eq_true c8; clear c8
       by_cases c9 : a2 ≤ a1
       ·rw [if_pos c9] at H
        have c9b0 := eq_true c9; have c9b1 : decide (a2 ≤ a1) = true := decide_eq_true c9; clear c9
        by_cases c10 : a1 ≤ (a0.size : Int)
        ·rw [if_pos c10] at H
         have c10b0 := eq_true c10; have c10b1 : decide (a1 ≤ (a0.size : Int)) = true := decide_eq_true c10; clear c10
         by_cases aa : a3.length < 8796093022208
         ·rw [if_pos aa] at H
          have aj := Aside0.mk aa; clear aa
          obtain ⟨ae, a6⟩ : ∃ y_ : List ByteArray, y_ = (a3 ++ [a0.extract (a2 : Int).toNat (a1 : Int).toNat]) := ⟨_, rfl⟩
          replace H : (spec_l4Parts.l0 k1 a0 ae (wrap64 (a1 + 1)) (wrap64 (a1 + 1))) = some r := by first | (rw [a6]; with_reducible exact H) | (have H2_ := (Option.bind_some _ _).symm.trans H; rw [a6]; with_reducible exact H2_) | (have H2_ := (Option.bind_some _ _).symm.trans H; with_reducible exact H2_) | with_reducible exact H | (rw [a6]; exact H) | exact H
          have ak := Aside0.mk a6; clear a6; have H' := Aside0.mk H; clear H; have p6 : 0 ≤ (a1 : Int) := oda; have q6 : a1 < (a0.size : Int) := oda; have hx6 := bt_at a0 a1; replace p6 := eq_true p6; replace q6 := eq_true q6
          go_wp2_with (first | ((with_reducible refine gate_builtin (b := .append) (xs := #[.tmp 17, .tmp 22]) rfl ?_); at_builtin; refine Kd.R_append Kd.string (w0 := w) w.heap.size rfl (.tmp 17) (.tmp 22) 42 9 (.string ⟨#[]⟩) 16 rfl Tryd.underlying42 info9 rfl (by decide) (by omega) u3 a3 (a0.extract (a2 : Int).toNat (a1 : Int).toNat) [.string (a0.extract (a2 : Int).toNat (a1 : Int).toNat)] (fun _ => True) (fun _ => False) rfl rfl ?aP (fun _ hk => hk.elim) ?aF ?aO ?aB ?aS ?aL ?_; (case aP => exact rfl); (case aB => exact (be HB.out)); (case aF => exact (fun _ _ => trivial)); (case aO => exact (kr a5.out)); (case aS => exact (below_size (be HB.out))); (case aL => have := aj.out; omega); intro v111 w12 ho hb hg hat; rw [← ak.out] at ho; refine Ya2 (hb) (ho) ?_; clear HB a5; intro HB al; clear ho hb hg hat))
          go_roundg k1
          case measure => have := HK1.out; omega
          case rel => exact ⟨(ae), (wrap64 (a1 + 1)), (wrap64 (a1 + 1)), Ye1, Ye1, H', ⟨by have := HK1.out; omega⟩, ⟨kr al.out⟩, ⟨be HB.out⟩⟩
         ·rw [if_neg aa] at H
          exact absurd H (by simp)
        ·rw [if_neg c10] at H
         exact absurd H (by simp)
       ·rw [if_neg c9] at H
        exact absurd H (by simp)
      ·rw [if_neg c8] at H
       exact absurd H (by simp)
     ·rw [if_neg c7] at H
      have ah : ((bt a0 a1) == 47) = false := beq_eq_false_iff_ne.mpr c7; have ai : ((bt a0 a1) != 47) = true := bne_iff_ne.mpr c7; have H' := Aside0.mk H; clear H; have p6 : 0 ≤ (a1 : Int) := oda; have q6 : a1 < (a0.size : Int) := oda; have hx6 := bt_at a0 a1; replace p6 := eq_true p6; replace q6 := eq_true q6
      go_wp2
      go_roundg k1
      case measure => have := HK1.out; omega
      case rel => exact ⟨(a3), (a2), (wrap64 (a1 + 1)), Ye1, Ye1, H', ⟨by have := HK1.out; omega⟩, ⟨kr a5.out⟩, ⟨be HB.out⟩⟩
    ·rw [if_neg c5] at H
     exact absurd H (by simp)
   ·rw [if_neg c4] at H
    have ag : decide (a1 < (a0.size : Int)) = false := decide_eq_false c4; clear c4
    by_cases a7 : 0 ≤ a2
    ·rw [if_pos a7] at H
     have c13b0 := eq_true a7; have c13b1 : decide (0 ≤ a2) = true := decide_eq_true a7; clear a7
     by_cases a8 : a2 ≤ (a0.size : Int)
     ·rw [if_pos a8] at H
      have c14b0 := eq_true a8; have c14b1 : decide (a2 ≤ (a0.size : Int)) = true := decide_eq_true a8; clear a8
      by_cases ab : a3.length < 8796093022208
      ·rw [if_pos ab] at H
       have am := Aside0.mk ab; clear ab
       obtain ⟨an, a9⟩ : ∃ y_ : List ByteArray, y_ = (a3 ++ [a0.extract (a2 : Int).toNat a0.size]) := ⟨_, rfl⟩
       replace H : (some an) = some r := by first | (rw [a9]; with_reducible exact H) | (have H2_ := (Option.bind_some _ _).symm.trans H; rw [a9]; with_reducible exact H2_) | (have H2_ := (Option.bind_some _ _).symm.trans H; with_reducible exact H2_) | with_reducible exact H | (rw [a9]; exact H) | exact H
       have ao := Aside0.mk a9; clear a9; obtain rfl := Option.some.inj H
       go_wp2_with (first | ((with_reducible refine gate_builtin (b := .append) (xs := #[.tmp 26, .tmp 30]) rfl ?_); at_builtin; refine Kd.R_append Kd.string (w0 := w) w.heap.size rfl (.tmp 26) (.tmp 30) 42 9 (.string ⟨#[]⟩) 16 rfl Tryd.underlying42 info9 rfl (by decide) (by omega) u3 a3 (a0.extract (a2 : Int).toNat a0.size) [.string (a0.extract (a2 : Int).toNat a0.size)] (fun _ => True) (fun _ => False) rfl rfl ?aP (fun _ hk => hk.elim) ?aF ?aO ?aB ?aS ?aL ?_; (case aP => exact rfl); (case aB => exact (be HB.out)); (case aF => exact (fun _ _ => trivial)); (case aO => exact (kr a5.out)); (case aS => exact (below_size (be HB.out))); (case aL => have := am.out; omega); intro v114 w16 ho hb hg hat; rw [← ao.out] at ho; refine Ya2 (hb) (ho) ?_; clear HB a5; intro HB ap; clear ho hb hg hat))
       go_ret
       exact ⟨_, Ye2, kr ap.out, be HB.out⟩
      ·rw [if_neg ab] at H
       exact absurd H (by simp)
     ·rw [if_neg a8] at H
      exact absurd H (by simp)
    ·rw [if_neg a7] at H
     exact absurd H (by simp)

end Go.Proofs.YtknagppkeodggaaDoor.P


namespace Go.Proofs.YtknagppkeodggaaDoor.P
open Go.RowKit Go.Proofs.YtknagppkeodggaaDoorW.PrintWords Go.Proofs.YtknagppkeodggaaDoorW.PrintLast Go.Proofs.YtknagppkeodggaaDoorW.PrintMore
attribute [local go_sem] max2_int min2_int max_two min_two max_three min_three max_four min_four
set_option linter.unusedVariables false
set_option linter.unusedSimpArgs false

/-! ### spec_l4Ok: function 85 -/
def spec_l4Ok.l0 : Nat → Bool → List ByteArray → Int → Option (Bool)
 | 0, _, _, _ => none
 | k + 1, x1, x5, x6 => if x6 < (x5.length : Int) then (if 0 ≤ x6 then ((spec_l4PartOk.f k (rdOf ByteArray.empty x5 x6) x1).bind fun a6 => (if a6 = true then (spec_l4Ok.l0 k x1 x5 (wrap64 (x6 + 1))) else (some false))) else (none)) else (some true)
def spec_l4Ok.f (k : Nat) (a0 : ByteArray) (a1 : Bool) : Option (Bool) := if (a0.size : Int) > 126 then (some false) else ((spec_l4Parts.f k a0).bind fun a2 => (if (a2.length : Int) > 6 then (some false) else (spec_l4Ok.l0 k a1 a2 0)))
theorem spec_l4Ok.mono_l : ∀ k, (∀ y0 y1 y2, LeO (spec_l4Ok.l0 k y0 y1 y2) (spec_l4Ok.l0 (k + 1) y0 y1 y2))
 | 0 => fun _ _ _ r h => by simp [spec_l4Ok.l0] at h
 | k + 1 => by
  have ih0 := spec_l4Ok.mono_l k
  ·intro y0 y1 y2
   unfold spec_l4Ok.l0
   repeat' first
   | (with_reducible exact ih0 _ _ _)
   | (with_reducible exact spec_l4PartOk.mono _ _ _)
   | (with_reducible exact spec_l4Parts.mono _ _)
   | (with_reducible exact LeO.refl _)
   | (with_reducible exact LeO.none _)
   | (with_reducible refine LeO.ite ?_ ?_)
   | (with_reducible refine LeO.bind ?_ (fun _ => ?_))
   | exact ih0 _ _ _
   | exact spec_l4PartOk.mono _ _ _
   | exact spec_l4Parts.mono _ _
   | exact LeO.none _
   | refine LeO.ite ?_ ?_
   | refine LeO.bind ?_ (fun _ => ?_)
theorem spec_l4Ok.mono : ∀ a0 a1 k, LeO (spec_l4Ok.f k a0 a1) (spec_l4Ok.f (k + 1) a0 a1) := by
 intro a0 a1 k; have ih0 := spec_l4Ok.mono_l k
 unfold spec_l4Ok.f
 repeat' first
   | (with_reducible exact ih0 _ _ _)
   | (with_reducible exact spec_l4PartOk.mono _ _ _)
   | (with_reducible exact spec_l4Parts.mono _ _)
   | (with_reducible exact LeO.refl _)
   | (with_reducible exact LeO.none _)
   | (with_reducible refine LeO.ite ?_ ?_)
   | (with_reducible refine LeO.bind ?_ (fun _ => ?_))
   | exact ih0 _ _ _
   | exact spec_l4PartOk.mono _ _ _
   | exact spec_l4Parts.mono _ _
   | exact LeO.none _
   | refine LeO.ite ?_ ?_
   | refine LeO.bind ?_ (fun _ => ?_)
set_option maxHeartbeats 8000000 in
set_option maxRecDepth 100000 in
theorem spec_l4Ok.calls (k : Nat) (a0 : ByteArray) (a1 : Bool) (r : Bool) (w : World) (h : spec_l4Ok.f k a0 a1 = some r) :
  Calls Tryd.prog 85 #[.string a0, .bool a1] w fun e w' => e = .returned (.bool r) ∧ Below w.heap.size w w' := by
 have HB := Aside0.mk (Below.refl w.heap.size w); have H : (if (a0.size : Int) > 126 then (some false) else ((spec_l4Parts.f k a0).bind fun a2 => (if (a2.length : Int) > 6 then (some false) else (spec_l4Ok.l0 k a1 a2 0)))) = some r := h; clear h
 by_cases c3 : (a0.size : Int) > 126
 ·rw [if_pos c3] at H
  have ac : decide (126 < (a0.size : Int)) = true := decide_eq_true c3; have ad : decide (126 < a0.size) = true := decide_eq_true (by omega); clear c3; obtain rfl := Option.some.inj H
  go_enter Tryd.func85, Tryd.ntmps85
  go_wp2
  go_ret
  exact ⟨Ye2, be HB.out⟩
 ·rw [if_neg c3] at H
  have ac : decide (126 < (a0.size : Int)) = false := decide_eq_false c3; have ad : decide (126 < a0.size) = false := decide_eq_false (by omega); clear c3; replace H := Option.bind_eq_some_iff.mp H; obtain ⟨a2, A40, H⟩ := H; replace H : (if (a2.length : Int) > 6 then (some false) else (spec_l4Ok.l0 k a1 a2 0)) = some r := H; have A4 := Aside0.mk A40; clear A40
  by_cases c5 : (a2.length : Int) > 6
  ·rw [if_pos c5] at H
   have ae : decide (6 < (a2.length : Int)) = true := decide_eq_true c5; have af : decide (6 < a2.length) = true := decide_eq_true (by omega); clear c5; obtain rfl := Option.some.inj H
   go_enter Tryd.func85, Tryd.ntmps85
   go_wp2_with (first | ((with_reducible refine gc 79 rfl ?_); refine gl (some 11) _ (#[.string a0]) Tryd.func79 ?_; (with_reducible refine (spec_l4Parts.calls k a0 a2 _ A4.out).mono ?_); rintro e w6 ⟨ah, rfl, ho0, hb⟩; refine ⟨_, rfl, ?_⟩; refine Ya2 (Kd.R_lower ho0 (below_size (be HB.out))) (below_step (be HB.out) hb) ?_; clear HB; intro a7 HB; (try clear hb); (try clear hb2); (try clear hk); (try clear hi); (try clear ho0); obtain ⟨Ao7, co7, eo7⟩ := Kd.R_slice a7.out; subst eo7))
   go_ret
   exact ⟨Ye2, be HB.out⟩
  ·rw [if_neg c5] at H
   have ae : decide (6 < (a2.length : Int)) = false := decide_eq_false c5; have af : decide (6 < a2.length) = false := decide_eq_false (by omega); clear c5; have H' := Aside0.mk H; clear H
   go_enter Tryd.func85, Tryd.ntmps85
   go_wp2_with (first | ((with_reducible refine gc 79 rfl ?_); refine gl (some 11) _ (#[.string a0]) Tryd.func79 ?_; (with_reducible refine (spec_l4Parts.calls k a0 a2 _ A4.out).mono ?_); rintro e w8 ⟨ah, rfl, ho0, hb⟩; refine ⟨_, rfl, ?_⟩; refine Ya2 (Kd.R_lower ho0 (below_size (be HB.out))) (below_step (be HB.out) hb) ?_; clear HB; intro a7 HB; (try clear hb); (try clear hb2); (try clear hk); (try clear hi); (try clear ho0); obtain ⟨Ao9, co9, eo9⟩ := Kd.R_slice a7.out; subst eo9))
   go_loopg [6] k (fun kq v6 w' => ∃ (a3 : Int), v6 = .int .i64 a3 ∧ Aside0 (spec_l4Ok.l0 kq a1 a2 a3 = some r) ∧ Aside0 (kq ≤ k) ∧ Aside0 (Kd.R Kd.string 9 w' w.heap.size (fun _ => True) (.slice Ao9 a2.length co9) a2) ∧ Aside0 (Below w.heap.size w w'))
   case atStart => exact ⟨(0), Ye1, H', ⟨Nat.le_refl _⟩, ⟨kr a7.out⟩, ⟨be HB.out⟩⟩
   case round =>
    clear H'; (try clear p2); (try clear c3); (try clear ac); (try clear ad); (try clear c5); (try clear ae); (try clear af); (try clear c7); (try clear c8); obtain ⟨a3, rfl, HA, HK1, aa, HB⟩ := hrel
    cases gk with
    | zero => exact absurd HA.out (by simp [spec_l4Ok.l0])
    | succ k1 =>
     have H := HA.out; clear HA; simp only [spec_l4Ok.l0] at H
     by_cases c10 : a3 < (a2.length : Int)
     ·rw [if_pos c10] at H
      have ai : decide (a3 < (a2.length : Int)) = true := decide_eq_true c10; clear c10
      by_cases a8 : 0 ≤ a3
      ·rw [if_pos a8] at H
       have c11b0 : decide (0 ≤ a3) = true := decide_eq_true a8; clear a8; replace H := Option.bind_eq_some_iff.mp H; obtain ⟨a6, ag, H⟩ := H; replace H : (if a6 = true then (spec_l4Ok.l0 k1 a1 a2 (wrap64 (a3 + 1))) else (some false)) = some r := H; have A12 := Aside0.mk ag; clear ag
       by_cases a9 : a6 = true
       ·subst a9
        have H1 : (spec_l4Ok.l0 k1 a1 a2 (wrap64 (a3 + 1))) = some r := by rw [if_pos rfl] at H; exact H
        clear H; have H := H1; clear H1; have H' := Aside0.mk H; clear H; have a4 : 0 ≤ (a3 : Int) := oda; have a5 : a3 < (a2.length : Int) := oda; obtain ⟨aj, ab, ak⟩ := Kd.at_string (Kd.R_reads' aa.out).2.2 a3 a4 a5
        cases ab
        replace a4 := eq_true a4; replace a5 := eq_true a5
        go_wp2_with (first | ((with_reducible refine gc 149 rfl ?_); refine gl (some 26) _ (#[.string (rdOf ByteArray.empty a2 a3), .bool a1]) Tryd.func149 ?_; (with_reducible refine (spec_l4PartOk.calls k1 (rdOf ByteArray.empty a2 a3) a1 true _ A12.out).mono ?_); rintro e w' ⟨rfl, ⟨nd, rfl⟩⟩; refine ⟨_, rfl, ?_⟩))
        go_roundg k1
        case measure => have := HK1.out; omega
        case rel => exact ⟨(wrap64 (a3 + 1)), Ye1, H', ⟨by have := HK1.out; omega⟩, ⟨kr aa.out⟩, ⟨be HB.out⟩⟩
       ·replace a9 := Bool.eq_false_iff.mpr a9; subst a9
        have H1 : (some false) = some r := by rw [if_neg (show ¬ (false = true) by decide)] at H; exact H
        clear H; have H := H1; clear H1; obtain rfl := Option.some.inj H; have a4 : 0 ≤ (a3 : Int) := oda; have a5 : a3 < (a2.length : Int) := oda; obtain ⟨aj, ab, ak⟩ := Kd.at_string (Kd.R_reads' aa.out).2.2 a3 a4 a5
        cases ab
        replace a4 := eq_true a4; replace a5 := eq_true a5
        go_wp2_with (first | ((with_reducible refine gc 149 rfl ?_); refine gl (some 26) _ (#[.string (rdOf ByteArray.empty a2 a3), .bool a1]) Tryd.func149 ?_; (with_reducible refine (spec_l4PartOk.calls k1 (rdOf ByteArray.empty a2 a3) a1 false _ A12.out).mono ?_); rintro e w' ⟨rfl, ⟨nd, rfl⟩⟩; refine ⟨_, rfl, ?_⟩))
        go_ret
        exact ⟨Ye2, be HB.out⟩
      ·rw [if_neg a8] at H
       exact absurd H (by simp)
     ·rw [if_neg c10] at H
      have ai : decide (a3 < (a2.length : Int)) = false := decide_eq_false c10; clear c10; obtain rfl := Option.some.inj H
      go_wp2
      go_ret
      exact ⟨Ye2, be HB.out⟩

end Go.Proofs.YtknagppkeodggaaDoor.P


namespace Go.Proofs.YtknagppkeodggaaDoor.P
open Go.RowKit Go.Proofs.YtknagppkeodggaaDoorW.PrintWords Go.Proofs.YtknagppkeodggaaDoorW.PrintLast Go.Proofs.YtknagppkeodggaaDoorW.PrintMore
attribute [local go_sem] max2_int min2_int max_two min_two max_three min_three max_four min_four
set_option linter.unusedVariables false
set_option linter.unusedSimpArgs false

/-! ### spec_ValidPath: function 23 -/
def spec_ValidPath.f (k : Nat) (a0 : ByteArray) : Option (Bool) := (spec_l4Ok.f k a0 false).bind fun a1 => (some a1)
theorem spec_ValidPath.mono : ∀ a0 k, LeO (spec_ValidPath.f k a0) (spec_ValidPath.f (k + 1) a0) := by
 intro a0 k
 unfold spec_ValidPath.f
 repeat' first
   | (with_reducible exact spec_l4Ok.mono _ _ _)
   | (with_reducible exact LeO.refl _)
   | (with_reducible exact LeO.none _)
   | (with_reducible refine LeO.ite ?_ ?_)
   | (with_reducible refine LeO.bind ?_ (fun _ => ?_))
   | exact spec_l4Ok.mono _ _ _
   | exact LeO.none _
   | refine LeO.ite ?_ ?_
   | refine LeO.bind ?_ (fun _ => ?_)
set_option maxHeartbeats 8000000 in
set_option maxRecDepth 100000 in
theorem spec_ValidPath.calls (k : Nat) (a0 : ByteArray) (r : Bool) (w : World) (h : spec_ValidPath.f k a0 = some r) :
  Calls Tryd.prog 23 #[.string a0] w fun e w' => e = .returned (.bool r) ∧ Below w.heap.size w w' := by
 have HB := Aside0.mk (Below.refl w.heap.size w); have H : ((spec_l4Ok.f k a0 false).bind fun a1 => (some a1)) = some r := h; clear h; replace H := Option.bind_eq_some_iff.mp H; obtain ⟨a1, A20, H⟩ := H; replace H : (some a1) = some r := H; have A2 := Aside0.mk A20; clear A20; obtain rfl := Option.some.inj H
 go_enter Tryd.func23, Tryd.ntmps23
 go_wp2_with (first | ((with_reducible refine gc 85 rfl ?_); refine gl (some 4) _ (#[.string a0, .bool false]) Tryd.func85 ?_; (with_reducible refine (spec_l4Ok.calls k a0 false a1 _ A2.out).mono ?_); rintro e w3 ⟨rfl, hb⟩; refine ⟨_, rfl, ?_⟩; refine Ya1 (below_step (be HB.out) hb) ?_; clear HB; intro HB; (try clear hb); (try clear hb2); (try clear hk); (try clear hi)))
 go_ret
 exact ⟨Ye2, be HB.out⟩

end Go.Proofs.YtknagppkeodggaaDoor.P


namespace Go.Proofs.YtknagppkeodggaaDoor.P
open Go.RowKit Go.Proofs.YtknagppkeodggaaDoorW.PrintWords Go.Proofs.YtknagppkeodggaaDoorW.PrintLast Go.Proofs.YtknagppkeodggaaDoorW.PrintMore
attribute [local go_sem] max2_int min2_int max_two min_two max_three min_three max_four min_four
set_option linter.unusedVariables false
set_option linter.unusedSimpArgs false

/-! ### spec_ValidTree: function 39 -/
mutual
def spec_ValidTree.l0 : Nat → Int → List (S27) → Option (Bool)
 | 0, _, _ => none
 | k + 1, x3, a7 => if x3 < (a7.length : Int) then (if 0 ≤ x3 then ((spec_ValidPath.f k ((rd_T27 a7 x3).f0)).bind fun az => (if az = true then (if (((rd_T27 a7 x3).f1).size : Int) > 1500 then (spec_ValidTree.j1 k x3 true a7 ((rd_T27 a7 x3).f0) ((rd_T27 a7 x3).f1) ((rd_T27 a7 x3).f2)) else (if x3 > 0 then (if 0 ≤ (wrap64 (x3 - 1)) then (if (wrap64 (x3 - 1)) < (a7.length : Int) then (spec_ValidTree.j1 k x3 (!(Op.bytesLess (((rd_T27 a7 (wrap64 (x3 - 1))).f0).toList) (((rd_T27 a7 x3).f0).toList))) a7 ((rd_T27 a7 x3).f0) ((rd_T27 a7 x3).f1) ((rd_T27 a7 x3).f2)) else (none)) else (none)) else (spec_ValidTree.j1 k x3 false a7 ((rd_T27 a7 x3).f0) ((rd_T27 a7 x3).f1) ((rd_T27 a7 x3).f2)))) else (spec_ValidTree.j1 k x3 true a7 ((rd_T27 a7 x3).f0) ((rd_T27 a7 x3).f1) ((rd_T27 a7 x3).f2)))) else (none)) else (some true)
def spec_ValidTree.j1 : Nat → Int → Bool → List (S27) → ByteArray → ByteArray → Bool → Option (Bool)
 | 0, _, _, _, _, _, _ => none
 | k + 1, x3, x47, a7, aA, aK, aL => if x47 = true then (some false) else (spec_ValidTree.l1 k x3 0 a7 aA aK aL)
def spec_ValidTree.l1 : Nat → Int → Int → List (S27) → ByteArray → ByteArray → Bool → Option (Bool)
 | 0, _, _, _, _, _, _ => none
 | k + 1, x3, x5, a7, aA, aK, aL => if x5 < x3 then (if 0 ≤ x5 then (if x5 < (a7.length : Int) then ((spec_l5Begins.f ((rd_T27 a7 x5).f0) aA).bind fun aB => (if aB = true then (some false) else (spec_ValidTree.l1 k x3 (wrap64 (x5 + 1)) a7 aA aK aL))) else (none)) else (none)) else (spec_ValidTree.l0 k (wrap64 (x3 + 1)) a7)
end
def spec_ValidTree.f (k : Nat) (a1 : List (S27)) : Option (Bool) := if (a1.length : Int) > 100 then (some false) else (spec_ValidTree.l0 k 0 a1)
theorem spec_ValidTree.mono_l : ∀ k, (∀ y0 y1, LeO (spec_ValidTree.l0 k y0 y1) (spec_ValidTree.l0 (k + 1) y0 y1)) ∧ (∀ y0 y1 y2 y3 y4 y5, LeO (spec_ValidTree.j1 k y0 y1 y2 y3 y4 y5) (spec_ValidTree.j1 (k + 1) y0 y1 y2 y3 y4 y5)) ∧ (∀ y0 y1 y2 y3 y4 y5, LeO (spec_ValidTree.l1 k y0 y1 y2 y3 y4 y5) (spec_ValidTree.l1 (k + 1) y0 y1 y2 y3 y4 y5))
 | 0 => ⟨fun _ _ r h => by simp [spec_ValidTree.l0] at h, fun _ _ _ _ _ _ r h => by simp [spec_ValidTree.j1] at h, fun _ _ _ _ _ _ r h => by simp [spec_ValidTree.l1] at h⟩
 | k + 1 => by
  obtain ⟨ih0, ih1, ih2⟩ := spec_ValidTree.mono_l k; refine ⟨?_, ?_, ?_⟩
  ·intro y0 y1
   unfold spec_ValidTree.l0
   repeat' first
   | (with_reducible exact ih0 _ _)
   | (with_reducible exact ih1 _ _ _ _ _ _)
   | (with_reducible exact ih2 _ _ _ _ _ _)
   | (with_reducible exact spec_ValidPath.mono _ _)
   | (with_reducible exact LeO.refl _)
   | (with_reducible exact LeO.none _)
   | (with_reducible refine LeO.ite ?_ ?_)
   | (with_reducible refine LeO.bind ?_ (fun _ => ?_))
   | exact ih0 _ _
   | exact ih1 _ _ _ _ _ _
   | exact ih2 _ _ _ _ _ _
   | exact spec_ValidPath.mono _ _
   | exact LeO.none _
   | refine LeO.ite ?_ ?_
   | refine LeO.bind ?_ (fun _ => ?_)
  ·intro y0 y1 y2 y3 y4 y5
   unfold spec_ValidTree.j1
   repeat' first
   | (with_reducible exact ih0 _ _)
   | (with_reducible exact ih1 _ _ _ _ _ _)
   | (with_reducible exact ih2 _ _ _ _ _ _)
   | (with_reducible exact spec_ValidPath.mono _ _)
   | (with_reducible exact LeO.refl _)
   | (with_reducible exact LeO.none _)
   | (with_reducible refine LeO.ite ?_ ?_)
   | (with_reducible refine LeO.bind ?_ (fun _ => ?_))
   | exact ih0 _ _
   | exact ih1 _ _ _ _ _ _
   | exact ih2 _ _ _ _ _ _
   | exact spec_ValidPath.mono _ _
   | exact LeO.none _
   | refine LeO.ite ?_ ?_
   | refine LeO.bind ?_ (fun _ => ?_)
  ·intro y0 y1 y2 y3 y4 y5
   unfold spec_ValidTree.l1
   repeat' first
   | (with_reducible exact ih0 _ _)
   | (with_reducible exact ih1 _ _ _ _ _ _)
   | (with_reducible exact ih2 _ _ _ _ _ _)
   | (with_reducible exact spec_ValidPath.mono _ _)
   | (with_reducible exact LeO.refl _)
   | (with_reducible exact LeO.none _)
   | (with_reducible refine LeO.ite ?_ ?_)
   | (with_reducible refine LeO.bind ?_ (fun _ => ?_))
   | exact ih0 _ _
   | exact ih1 _ _ _ _ _ _
   | exact ih2 _ _ _ _ _ _
   | exact spec_ValidPath.mono _ _
   | exact LeO.none _
   | refine LeO.ite ?_ ?_
   | refine LeO.bind ?_ (fun _ => ?_)
theorem spec_ValidTree.mono : ∀ a0 k, LeO (spec_ValidTree.f k a0) (spec_ValidTree.f (k + 1) a0) := by
 intro a0 k; obtain ⟨ih0, ih1, ih2⟩ := spec_ValidTree.mono_l k
 unfold spec_ValidTree.f
 repeat' first
   | (with_reducible exact ih0 _ _)
   | (with_reducible exact ih1 _ _ _ _ _ _)
   | (with_reducible exact ih2 _ _ _ _ _ _)
   | (with_reducible exact spec_ValidPath.mono _ _)
   | (with_reducible exact LeO.refl _)
   | (with_reducible exact LeO.none _)
   | (with_reducible refine LeO.ite ?_ ?_)
   | (with_reducible refine LeO.bind ?_ (fun _ => ?_))
   | exact ih0 _ _
   | exact ih1 _ _ _ _ _ _
   | exact ih2 _ _ _ _ _ _
   | exact spec_ValidPath.mono _ _
   | exact LeO.none _
   | refine LeO.ite ?_ ?_
   | refine LeO.bind ?_ (fun _ => ?_)
def spec_ValidTree.T7 : Bool × List (List Nat × List Nat) := (true, [([], []), ([0], [0]), ([1], [1]), ([2], [2]), ([3, 2], [3]), ([4], [4]), ([5, 4], [4, 5]), ([6, 4], [4, 6]), ([7, 4], [4, 7]), ([4, 8], [4, 8]), ([9, 4], [9]), ([10], [10]), ([11, 10], [10, 11]), ([12, 10, 10], [10, 12]), ([13], [13]), ([14, 13], [13, 14]), ([13], [13]), ([16, 13], [13, 16]), ([15, 17, 13], [13, 15, 17]), ([18, 13], [13, 18]), ([19, 13], [13, 19]), ([13], [13]), ([21, 13], [13, 21]), ([20, 22, 13], [13, 20, 22]), ([13, 23, 10], [10, 13, 23]), ([10, 24], [10, 24])])
def spec_ValidTree.B7 : List Nat := [0, 1, 3, 7, 15, 31, 63, 127, 255, 511, 1023, 2047, 4095, 8191, 16383, 32767, 16383, 81919, 262143, 524287, 1048575, 16383, 2113535, 8388607, 16777215, 33554431]
theorem spec_ValidTree.tab7 : rtab .any (opsOf Tryd.f39 7) = spec_ValidTree.T7 := by kernel_rfl
theorem spec_ValidTree.bits7 : waitsOk spec_ValidTree.T7.2 spec_ValidTree.B7 = true := by kernel_rfl
def spec_ValidTree.T12 : Bool × List (List Nat × List Nat) := (true, [([], []), ([0], [0]), ([], []), ([1, 2], [1, 2]), ([3], [3]), ([4], [4]), ([], []), ([6], [6]), ([5, 7], [5, 7])])
def spec_ValidTree.B12 : List Nat := [0, 1, 0, 7, 15, 31, 0, 64, 255]
theorem spec_ValidTree.tab12 : rtab .any (opsOf Tryd.f39 12) = spec_ValidTree.T12 := by kernel_rfl
theorem spec_ValidTree.bits12 : waitsOk spec_ValidTree.T12.2 spec_ValidTree.B12 = true := by kernel_rfl
set_option maxHeartbeats 8000000 in
set_option maxRecDepth 100000 in
theorem spec_ValidTree.calls (k : Nat) (au : Option Addr) (ae : Nat) (a1 : List (S27)) (r : Bool) (w : World) (aV : Kd.C k27 w au a1.length a1) (aW : a1.length ≤ ae) (h : spec_ValidTree.f k a1 = some r) :
  Calls Tryd.prog 39 #[.agg #[.slice au a1.length ae]] w fun e w' => e = .returned (.bool r) ∧ Below w.heap.size w w' := by
 have hu25 := Tryd.underlying25; have hu27 := Tryd.underlying27; have aC := Aside0.mk aV; have HC0_0 := Aside0.mk aW; clear aV aW; have HB := Aside0.mk (Below.refl w.heap.size w); have H : (if (a1.length : Int) > 100 then (some false) else (spec_ValidTree.l0 k 0 a1)) = some r := h; clear h
 by_cases c2 : (a1.length : Int) > 100
 ·rw [if_pos c2] at H
  have aX : decide (100 < (a1.length : Int)) = true := decide_eq_true c2; have aY : decide (100 < a1.length) = true := decide_eq_true (by omega); clear c2; obtain rfl := Option.some.inj H
  go_enter Tryd.func39, Tryd.ntmps39
  go_wp2_with (first | ((with_reducible refine gd 1 rfl ?_); (try (refine gate_guard (by rfl) ?_; dsimp only)); refine bx 1 25 (#[.slice au a1.length ae]) ?_; intro af hg w3 hbox hb; refine Ya4 (below_step (be HB.out) hb) (hbox) (bs hg (be HB.out)) (bs hg (be HB.out)) ?_; clear HB; intro HB a4 b1 b2; clear hb hbox hg; have ⟨b3, b4⟩ := Yc1 a4.out))
  go_ret
  exact ⟨Ye2, (bf HB.out)⟩
 ·rw [if_neg c2] at H
  have aX : decide (100 < (a1.length : Int)) = false := decide_eq_false c2; have aY : decide (100 < a1.length) = false := decide_eq_false (by omega); clear c2; have H' := Aside0.mk H; clear H
  go_enter Tryd.func39, Tryd.ntmps39
  go_wp2_with (first | ((with_reducible refine gd 1 rfl ?_); (try (refine gate_guard (by rfl) ?_; dsimp only)); refine bx 1 25 (#[.slice au a1.length ae]) ?_; intro af hg w5 hbox hb; refine Ya4 (below_step (be HB.out) hb) (hbox) (bs hg (be HB.out)) (bs hg (be HB.out)) ?_; clear HB; intro HB a4 b1 b2; clear hb hbox hg; have ⟨b5, b6⟩ := Yc1 a4.out))
  go_loopg [3] k (fun kq v3 w' => ∃ (a2 : Int), v3 = .int .i64 a2 ∧ Aside0 (spec_ValidTree.l0 kq a2 a1 = some r) ∧ Aside0 (kq ≤ k) ∧ Aside0 (w'.heap[af]? = some (.cells #[(.slice au a1.length ae)] 25 (0, 0))) ∧ Aside0 (Below w.heap.size w w'))
  case atStart => exact ⟨(0), Ye1, H', ⟨Nat.le_refl _⟩, ⟨bk a4.out⟩, ⟨bf HB.out⟩⟩
  case round =>
   clear H'; (try clear c2); (try clear aX); (try clear aY); (try clear p2); (try clear c3); (try clear b3); (try clear b5); (try clear b4); (try clear b6); obtain ⟨a2, rfl, HA, HK1, a4, HB⟩ := hrel
   cases gk with
   | zero => exact absurd HA.out (by simp [spec_ValidTree.l0])
   | succ k1 =>
    have H := HA.out; clear HA; simp only [spec_ValidTree.l0] at H
    by_cases c7 : a2 < (a1.length : Int)
    ·rw [if_pos c7] at H
     have b7 : decide (a2 < (a1.length : Int)) = true := decide_eq_true c7; clear c7
     by_cases c8 : 0 ≤ a2
     ·rw [if_pos c8] at H
      have c8b0 : decide (0 ≤ a2) = true := decide_eq_true c8; clear c8; have aM := Aside0.mk H; clear H; have ⟨bi, bj⟩ := Yc1 a4.out; have aN : 0 ≤ (a2 : Int) := oda; have aO : a2 < (a1.length : Int) := oda; obtain ⟨a8, b8, bm, bn, bo⟩ := at_T27 (Kd.C_below aC.out HB.out) a2 aN aO
      cases b8
      replace aN := eq_true aN; replace aO := eq_true aO
      go_upto_region 7 with (first | ((with_reducible refine gd 4 rfl ?_); (try (refine gate_guard (by rfl) ?_; dsimp only)); refine bx 4 27 (#[.string (⟨#[]⟩ : ByteArray), .string (⟨#[]⟩ : ByteArray), .bool false]) ?_; intro a5 hg aa hbox hb; refine Ya7 (bb a4 hb) (below_step (bf HB.out) hb) (hbox) (bs hg (bf HB.out)) (bs hg (bf HB.out)) (bl hg a4) (br hg a4) ?_; clear a4 HB; intro a4 HB a3 GW125 GE125 av b9; clear hb hbox hg; have hnb12 := b9.out; have hnc12 := av.out; have ⟨bq, bu, bv, bw, bz, bA⟩ := Yc3 a3.out))
      (try simp only [Act.put, List.setIfInBounds_toArray, List.set_cons_zero, List.set_cons_succ])
      go_cut [47] (fun v47 wc => ∃ (kq : Nat) (aD : Bool), v47 = .bool aD ∧ Aside0 (spec_ValidTree.j1 kq a2 aD a1 ((rd_T27 a1 a2).f0) ((rd_T27 a1 a2).f1) ((rd_T27 a1 a2).f2) = some r) ∧ Aside0 (kq ≤ k1) ∧ Aside0 (wc.heap[af]? = some (.cells #[(.slice (some a8) a1.length ae)] 25 (0, 0))) ∧ Aside0 (wc.heap[a5]? = some (.cells #[.string ((rd_T27 a1 a2).f0), .string ((rd_T27 a1 a2).f1), .bool ((rd_T27 a1 a2).f2)] 27 (0, 0))) ∧ Aside0 (Below w.heap.size w wc))
      case first =>
       have H := aM.out; clear aM; replace H := Option.bind_eq_some_iff.mp H; obtain ⟨az, aZ, H⟩ := H; replace H : (if az = true then (if (((rd_T27 a1 a2).f1).size : Int) > 1500 then (spec_ValidTree.j1 k1 a2 true a1 ((rd_T27 a1 a2).f0) ((rd_T27 a1 a2).f1) ((rd_T27 a1 a2).f2)) else (if a2 > 0 then (if 0 ≤ (wrap64 (a2 - 1)) then (if (wrap64 (a2 - 1)) < (a1.length : Int) then (spec_ValidTree.j1 k1 a2 (!(Op.bytesLess (((rd_T27 a1 (wrap64 (a2 - 1))).f0).toList) (((rd_T27 a1 a2).f0).toList))) a1 ((rd_T27 a1 a2).f0) ((rd_T27 a1 a2).f1) ((rd_T27 a1 a2).f2)) else (none)) else (none)) else (spec_ValidTree.j1 k1 a2 false a1 ((rd_T27 a1 a2).f0) ((rd_T27 a1 a2).f1) ((rd_T27 a1 a2).f2)))) else (spec_ValidTree.j1 k1 a2 true a1 ((rd_T27 a1 a2).f0) ((rd_T27 a1 a2).f1) ((rd_T27 a1 a2).f2))) = some r := H; have aw := Aside0.mk aZ; clear aZ
       by_cases an : az = true
       ·subst an
        have H1 : (if (((rd_T27 a1 a2).f1).size : Int) > 1500 then (spec_ValidTree.j1 k1 a2 true a1 ((rd_T27 a1 a2).f0) ((rd_T27 a1 a2).f1) ((rd_T27 a1 a2).f2)) else (if a2 > 0 then (if 0 ≤ (wrap64 (a2 - 1)) then (if (wrap64 (a2 - 1)) < (a1.length : Int) then (spec_ValidTree.j1 k1 a2 (!(Op.bytesLess (((rd_T27 a1 (wrap64 (a2 - 1))).f0).toList) (((rd_T27 a1 a2).f0).toList))) a1 ((rd_T27 a1 a2).f0) ((rd_T27 a1 a2).f1) ((rd_T27 a1 a2).f2)) else (none)) else (none)) else (spec_ValidTree.j1 k1 a2 false a1 ((rd_T27 a1 a2).f0) ((rd_T27 a1 a2).f1) ((rd_T27 a1 a2).f2)))) = some r := by rw [if_pos rfl] at H; exact H
        clear H; have H := H1; clear H1
        by_cases ao : (((rd_T27 a1 a2).f1).size : Int) > 1500
        ·rw [if_pos ao] at H
         have ax : decide (1500 < (((rd_T27 a1 a2).f1).size : Int)) = true := decide_eq_true ao; have ba : decide (1500 < ((rd_T27 a1 a2).f1).size) = true := decide_eq_true (by omega); clear ao; (first | rw [ax] | (simp only [i64_w, i32_w]; rw [ax]) | skip); have H' := Aside0.mk H; clear H
         try go_wp2
         have ab : Aside0 ((((aa.setCell ⟨a5, 0, none⟩ (.string ((rd_T27 a1 a2).f0))).setCell ⟨a5, 1, none⟩ (.string ((rd_T27 a1 a2).f1))).setCell ⟨a5, 2, none⟩ (.bool ((rd_T27 a1 a2).f2))).heap[af]? = some (.cells #[.slice (some a8) a1.length ae] 25 (0, 0))) := ⟨bkf a4.out av.out⟩
         have ac : Aside0 ((((aa.setCell ⟨a5, 0, none⟩ (.string ((rd_T27 a1 a2).f0))).setCell ⟨a5, 1, none⟩ (.string ((rd_T27 a1 a2).f1))).setCell ⟨a5, 2, none⟩ (.bool ((rd_T27 a1 a2).f2))).heap[a5]? = some (.cells #[.string ((rd_T27 a1 a2).f0), .string ((rd_T27 a1 a2).f1), .bool ((rd_T27 a1 a2).f2)] 27 (0, 0))) := ⟨bp a3.out⟩
         have ad : Aside0 (Below w.heap.size w (((aa.setCell ⟨a5, 0, none⟩ (.string ((rd_T27 a1 a2).f0))).setCell ⟨a5, 1, none⟩ (.string ((rd_T27 a1 a2).f1))).setCell ⟨a5, 2, none⟩ (.bool ((rd_T27 a1 a2).f2)))) := ⟨bf HB.out⟩
         (try clear a4); (try clear a3); (try clear HB); generalize (((aa.setCell ⟨a5, 0, none⟩ (.string ((rd_T27 a1 a2).f0))).setCell ⟨a5, 1, none⟩ (.string ((rd_T27 a1 a2).f1))).setCell ⟨a5, 2, none⟩ (.bool ((rd_T27 a1 a2).f2))) = w17 at ab ac ad ⊢; have a4 := ab; have a3 := ac; have HB := ad; clear ab ac ad; refine Ya3 (blk_drew a4.out) (blk_drew a3.out) (below_drew1 HB.out) ?_; clear a4 a3 HB; intro a4 a3 HB; refine start_ (n := 26) (S := fun w' => w'.cell? ⟨a5, 0, none⟩ = some (.string ((rd_T27 a1 a2).f0)) ∧ w'.cell? ⟨a5, 1, none⟩ = some (.string ((rd_T27 a1 a2).f1)) ∧ w'.cell? ⟨a5, 2, none⟩ = some (.bool ((rd_T27 a1 a2).f2))) (ds := []) (fb 26 0) (by kernel_rfl) rfl rfl ⟨bc a3 0, bc a3 1, bc a3 2⟩ (fun hHeld => ?_); refine with_tabW spec_ValidTree.tab7 spec_ValidTree.bits7 (fun HT_ HW_ => ?_); generalize w17.drew = w18 at a4 a3 HB hHeld ⊢; refine pu 0 22 (fb 26 1) HT_ ?_; refine tk 1 23 (fb 26 3) HT_ HW_ hHeld ?_; refine o1 2 (some 24) (fb 26 7) HT_ (fun K hK => ?_); refine gs _ (#[.string ((rd_T27 a1 a2).f0)]) Tryd.func23 ?_; (with_reducible refine (spec_ValidPath.calls k1 ((rd_T27 a1 a2).f0) true _ aw.out).mono ?_); rintro e w19 ⟨rfl, hb⟩; refine ⟨_, rfl, ?_⟩; refine Ya3 (bb a4 hb) (bb a3 hb) (below_step (bf HB.out) hb) ?_; clear a4 a3 HB; intro a4 a3 HB; (try clear hb); (try clear hb2); (try clear hk); (try clear hi); refine hK.out _ _ ⟨bc a3 0, bc a3 1, bc a3 2⟩ (fun hHeld => ?_); clear hK K; refine nm 24 ?_; refine pu 3 25 (fb 26 15) HT_ ?_; refine pu 4 26 (fb 26 31) HT_ ?_; refine pu 5 27 (fb 26 63) HT_ ?_; refine tk 6 28 (fb 26 127) HT_ HW_ hHeld ?_; refine pu 7 29 (fb 26 255) HT_ ?_; refine pu 8 30 (fb 26 511) HT_ ?_; refine pu 9 31 (fb 26 1023) HT_ ?_; refine pu 10 32 (fb 26 2047) HT_ ?_; refine pn 11 33 (fb 26 4095) HT_ ?_; refine pn 12 34 (fb 26 8191) HT_ ?_; refine pn 13 35 (fb 26 16383) HT_ ?_; refine pn 14 36 (fb 26 32767) HT_ ?_; refine pn 15 37 (fb 26 65535) HT_ ?_; refine pn 16 38 (fb 26 131071) HT_ ?_; refine pn 17 39 (fb 26 262143) HT_ ?_; refine pn 18 40 (fb 26 524287) HT_ ?_; refine pn 19 41 (fb 26 1048575) HT_ ?_; refine pn 20 42 (fb 26 2097151) HT_ ?_; refine pn 21 43 (fb 26 4194303) HT_ ?_; refine pn 22 44 (fb 26 8388607) HT_ ?_; refine pn 23 45 (fb 26 16777215) HT_ ?_; refine pn 24 46 (fb 26 33554431) HT_ ?_; refine pu 25 47 (fb 26 67108863) HT_ ?_; refine done_ (done_of HT_.out (by kernel_rfl)) ?_
         try go_wp2
         go_meet
         case rel => exact ⟨_, (true), Ye1, H', ⟨by have := HK1.out; first | omega | exact Nat.le_refl _⟩, ⟨bk a4.out⟩, ⟨bk a3.out⟩, ⟨bf HB.out⟩⟩
        ·rw [if_neg ao] at H
         have ax : decide (1500 < (((rd_T27 a1 a2).f1).size : Int)) = false := decide_eq_false ao; have ba : decide (1500 < ((rd_T27 a1 a2).f1).size) = false := decide_eq_false (by omega); clear ao; (first | rw [ax] | (simp only [i64_w, i32_w]; rw [ax]) | skip)
         by_cases aj : a2 > 0
         ·rw [if_pos aj] at H
          have aP : decide (0 < a2) = true := decide_eq_true aj; clear aj
          obtain ⟨a9, ak⟩ : ∃ j_ : Int, (wrap64 (a2 - 1)) = j_ := ⟨_, rfl⟩
          replace H : (if 0 ≤ (a9) then (if (a9) < (a1.length : Int) then (spec_ValidTree.j1 k1 a2 (!(Op.bytesLess (((rd_T27 a1 (a9)).f0).toList) (((rd_T27 a1 a2).f0).toList))) a1 ((rd_T27 a1 a2).f0) ((rd_T27 a1 a2).f1) ((rd_T27 a1 a2).f2)) else (none)) else (none)) = some r := by first | (rw [ak] at H; exact H) | (simp only [ak] at H ⊢; exact H)
          (try rw [ak] at aw); have hji21w : (IntKind.i64.wrap (a2 - 1)) = a9 := (i64_w _).trans ak
          by_cases ap : 0 ≤ (a9)
          ·rw [if_pos ap] at H
           have c22b0 : decide (0 ≤ (a9)) = true := decide_eq_true ap; clear ap
           by_cases aq : (a9) < (a1.length : Int)
           ·rw [if_pos aq] at H
            have c23b0 : decide ((a9) < (a1.length : Int)) = true := decide_eq_true aq; clear aq; have H' := Aside0.mk H; clear H
            try go_wp2
            have ab : Aside0 ((((aa.setCell ⟨a5, 0, none⟩ (.string ((rd_T27 a1 a2).f0))).setCell ⟨a5, 1, none⟩ (.string ((rd_T27 a1 a2).f1))).setCell ⟨a5, 2, none⟩ (.bool ((rd_T27 a1 a2).f2))).heap[af]? = some (.cells #[.slice (some a8) a1.length ae] 25 (0, 0))) := ⟨bkf a4.out av.out⟩
            have ac : Aside0 ((((aa.setCell ⟨a5, 0, none⟩ (.string ((rd_T27 a1 a2).f0))).setCell ⟨a5, 1, none⟩ (.string ((rd_T27 a1 a2).f1))).setCell ⟨a5, 2, none⟩ (.bool ((rd_T27 a1 a2).f2))).heap[a5]? = some (.cells #[.string ((rd_T27 a1 a2).f0), .string ((rd_T27 a1 a2).f1), .bool ((rd_T27 a1 a2).f2)] 27 (0, 0))) := ⟨bp a3.out⟩
            have ad : Aside0 (Below w.heap.size w (((aa.setCell ⟨a5, 0, none⟩ (.string ((rd_T27 a1 a2).f0))).setCell ⟨a5, 1, none⟩ (.string ((rd_T27 a1 a2).f1))).setCell ⟨a5, 2, none⟩ (.bool ((rd_T27 a1 a2).f2)))) := ⟨bf HB.out⟩
            (try clear a4); (try clear a3); (try clear HB); generalize (((aa.setCell ⟨a5, 0, none⟩ (.string ((rd_T27 a1 a2).f0))).setCell ⟨a5, 1, none⟩ (.string ((rd_T27 a1 a2).f1))).setCell ⟨a5, 2, none⟩ (.bool ((rd_T27 a1 a2).f2))) = w24 at ab ac ad ⊢; have a4 := ab; have a3 := ac; have HB := ad; clear ab ac ad; refine Ya3 (blk_drew a4.out) (blk_drew a3.out) (below_drew1 HB.out) ?_; clear a4 a3 HB; intro a4 a3 HB; have aQ : 0 ≤ ((a9) : Int) := oda; have aR : (a9) < (a1.length : Int) := oda; obtain ⟨bd, bg, aE, aF, aG⟩ := at_T27 aC.out (a9) aQ aR; have hw127_2 := aG; have hw127_1 := aF; have hw127_0 := aE
            obtain rfl : a8 = bd := (by injection bg)
            replace aE := pw_cell_below HB.out aE; replace aF := pw_cell_below HB.out aF; replace aG := pw_cell_below HB.out aG; replace aQ := eq_true aQ; replace aR := eq_true aR; refine start_ (n := 26) (S := fun w' => w'.cell? ⟨a5, 0, none⟩ = some (.string ((rd_T27 a1 a2).f0)) ∧ w'.cell? ⟨a5, 1, none⟩ = some (.string ((rd_T27 a1 a2).f1)) ∧ w'.cell? ⟨a5, 2, none⟩ = some (.bool ((rd_T27 a1 a2).f2)) ∧ w'.cell? ⟨af, 0, none⟩ = some (.slice (some a8) a1.length ae) ∧ w'.cell? (a8.add (((a9)).toNat * 3)) = some (.string ((rd_T27 a1 (a9)).f0)) ∧ w'.cell? ⟨(a8.add (((a9)).toNat * 3)).block, (a8.add (((a9)).toNat * 3)).off + 1, none⟩ = some (.string ((rd_T27 a1 (a9)).f1)) ∧ w'.cell? ⟨(a8.add (((a9)).toNat * 3)).block, (a8.add (((a9)).toNat * 3)).off + 2, none⟩ = some (.bool ((rd_T27 a1 (a9)).f2))) (ds := []) (fb 26 0) (by kernel_rfl) rfl rfl ⟨bc a3 0, bc a3 1, bc a3 2, bc a4 0, (pw_cell_below HB.out hw127_0), (pw_cell_below HB.out hw127_1), (pw_cell_below HB.out hw127_2)⟩ (fun hHeld => ?_); refine with_tabW spec_ValidTree.tab7 spec_ValidTree.bits7 (fun HT_ HW_ => ?_); generalize w24.drew = w25 at a4 a3 HB aE aF aG hHeld ⊢; refine pu 0 22 (fb 26 1) HT_ ?_; refine tk 1 23 (fb 26 3) HT_ HW_ hHeld ?_; refine o1 2 (some 24) (fb 26 7) HT_ (fun K hK => ?_); refine gs _ (#[.string ((rd_T27 a1 a2).f0)]) Tryd.func23 ?_; (with_reducible refine (spec_ValidPath.calls k1 ((rd_T27 a1 a2).f0) true _ aw.out).mono ?_); rintro e w26 ⟨rfl, hb⟩; refine ⟨_, rfl, ?_⟩; refine Ya3 (bb a4 hb) (bb a3 hb) (below_step (bf HB.out) hb) ?_; clear a4 a3 HB; intro a4 a3 HB; (try clear hb); (try clear hb2); (try clear hk); (try clear hi); refine hK.out _ _ ⟨bc a3 0, bc a3 1, bc a3 2, bc a4 0, (pw_cell_below HB.out hw127_0), (pw_cell_below HB.out hw127_1), (pw_cell_below HB.out hw127_2)⟩ (fun hHeld => ?_); clear hK K; refine nm 24 ?_; refine pu 3 25 (fb 26 15) HT_ ?_; refine pu 4 26 (fb 26 31) HT_ ?_; refine pu 5 27 (fb 26 63) HT_ ?_; refine tk 6 28 (fb 26 127) HT_ HW_ hHeld ?_; refine pu 7 29 (fb 26 255) HT_ ?_; refine pu 8 30 (fb 26 511) HT_ ?_; refine pu 9 31 (fb 26 1023) HT_ ?_; refine pu 10 32 (fb 26 2047) HT_ ?_; refine pu 11 33 (fb 26 4095) HT_ ?_; refine pu 12 34 (fb 26 8191) HT_ ?_; refine pu 13 35 (fb 26 16383) HT_ ?_; refine pu 14 36 (fb 26 32767) HT_ ?_; refine pu 16 38 (fb 26 98303) HT_ ?_; refine pu 17 39 (fb 26 229375) HT_ ?_; refine pu 21 43 (fb 26 2326527) HT_ ?_; refine tk 15 37 (fb 26 2359295) HT_ HW_ hHeld ?_; refine pu 18 40 (fb 26 2621439) HT_ ?_; refine pu 19 41 (fb 26 3145727) HT_ ?_; refine tk 20 42 (fb 26 4194303) HT_ HW_ hHeld ?_; refine tk 22 44 (fb 26 8388607) HT_ HW_ hHeld ?_; refine pu 23 45 (fb 26 16777215) HT_ ?_; refine pu 24 46 (fb 26 33554431) HT_ ?_; refine pu 25 47 (fb 26 67108863) HT_ ?_; refine done_ (done_of HT_.out (by kernel_rfl)) ?_
            try go_wp2
            go_meet
            case rel => exact ⟨_, (!(Op.bytesLess (((rd_T27 a1 (a9)).f0).toList) (((rd_T27 a1 a2).f0).toList))), (by first | rfl | (simp; done) | (simp only [← ak] <;> (first | rfl | simp)) | (simp [*]; done)), (by first | exact H' | (subst ak; exact H') | (simp only [← ak] at H' ⊢; exact H')), ⟨by have := HK1.out; first | omega | exact Nat.le_refl _⟩, ⟨bk a4.out⟩, ⟨bk a3.out⟩, ⟨bf HB.out⟩⟩
           ·rw [if_neg aq] at H
            exact absurd H (by simp)
          ·rw [if_neg ap] at H
           exact absurd H (by simp)
         ·rw [if_neg aj] at H
          have aP : decide (0 < a2) = false := decide_eq_false aj; clear aj; have H' := Aside0.mk H; clear H
          try go_wp2
          have ab : Aside0 ((((aa.setCell ⟨a5, 0, none⟩ (.string ((rd_T27 a1 a2).f0))).setCell ⟨a5, 1, none⟩ (.string ((rd_T27 a1 a2).f1))).setCell ⟨a5, 2, none⟩ (.bool ((rd_T27 a1 a2).f2))).heap[af]? = some (.cells #[.slice (some a8) a1.length ae] 25 (0, 0))) := ⟨bkf a4.out av.out⟩
          have ac : Aside0 ((((aa.setCell ⟨a5, 0, none⟩ (.string ((rd_T27 a1 a2).f0))).setCell ⟨a5, 1, none⟩ (.string ((rd_T27 a1 a2).f1))).setCell ⟨a5, 2, none⟩ (.bool ((rd_T27 a1 a2).f2))).heap[a5]? = some (.cells #[.string ((rd_T27 a1 a2).f0), .string ((rd_T27 a1 a2).f1), .bool ((rd_T27 a1 a2).f2)] 27 (0, 0))) := ⟨bp a3.out⟩
          have ad : Aside0 (Below w.heap.size w (((aa.setCell ⟨a5, 0, none⟩ (.string ((rd_T27 a1 a2).f0))).setCell ⟨a5, 1, none⟩ (.string ((rd_T27 a1 a2).f1))).setCell ⟨a5, 2, none⟩ (.bool ((rd_T27 a1 a2).f2)))) := ⟨bf HB.out⟩
          (try clear a4); (try clear a3); (try clear HB); generalize (((aa.setCell ⟨a5, 0, none⟩ (.string ((rd_T27 a1 a2).f0))).setCell ⟨a5, 1, none⟩ (.string ((rd_T27 a1 a2).f1))).setCell ⟨a5, 2, none⟩ (.bool ((rd_T27 a1 a2).f2))) = w27 at ab ac ad ⊢; have a4 := ab; have a3 := ac; have HB := ad; clear ab ac ad; refine Ya3 (blk_drew a4.out) (blk_drew a3.out) (below_drew1 HB.out) ?_; clear a4 a3 HB; intro a4 a3 HB; refine start_ (n := 26) (S := fun w' => w'.cell? ⟨a5, 0, none⟩ = some (.string ((rd_T27 a1 a2).f0)) ∧ w'.cell? ⟨a5, 1, none⟩ = some (.string ((rd_T27 a1 a2).f1)) ∧ w'.cell? ⟨a5, 2, none⟩ = some (.bool ((rd_T27 a1 a2).f2))) (ds := []) (fb 26 0) (by kernel_rfl) rfl rfl ⟨bc a3 0, bc a3 1, bc a3 2⟩ (fun hHeld => ?_); refine with_tabW spec_ValidTree.tab7 spec_ValidTree.bits7 (fun HT_ HW_ => ?_); generalize w27.drew = w28 at a4 a3 HB hHeld ⊢; refine pu 0 22 (fb 26 1) HT_ ?_; refine tk 1 23 (fb 26 3) HT_ HW_ hHeld ?_; refine o1 2 (some 24) (fb 26 7) HT_ (fun K hK => ?_); refine gs _ (#[.string ((rd_T27 a1 a2).f0)]) Tryd.func23 ?_; (with_reducible refine (spec_ValidPath.calls k1 ((rd_T27 a1 a2).f0) true _ aw.out).mono ?_); rintro e w29 ⟨rfl, hb⟩; refine ⟨_, rfl, ?_⟩; refine Ya3 (bb a4 hb) (bb a3 hb) (below_step (bf HB.out) hb) ?_; clear a4 a3 HB; intro a4 a3 HB; (try clear hb); (try clear hb2); (try clear hk); (try clear hi); refine hK.out _ _ ⟨bc a3 0, bc a3 1, bc a3 2⟩ (fun hHeld => ?_); clear hK K; refine nm 24 ?_; refine pu 3 25 (fb 26 15) HT_ ?_; refine pu 4 26 (fb 26 31) HT_ ?_; refine pu 5 27 (fb 26 63) HT_ ?_; refine tk 6 28 (fb 26 127) HT_ HW_ hHeld ?_; refine pu 7 29 (fb 26 255) HT_ ?_; refine pu 8 30 (fb 26 511) HT_ ?_; refine pu 9 31 (fb 26 1023) HT_ ?_; refine pu 10 32 (fb 26 2047) HT_ ?_; refine pu 11 33 (fb 26 4095) HT_ ?_; refine pu 12 34 (fb 26 8191) HT_ ?_; refine pu 13 35 (fb 26 16383) HT_ ?_; refine pn 14 36 (fb 26 32767) HT_ ?_; refine pn 15 37 (fb 26 65535) HT_ ?_; refine pn 16 38 (fb 26 131071) HT_ ?_; refine pn 17 39 (fb 26 262143) HT_ ?_; refine pn 18 40 (fb 26 524287) HT_ ?_; refine pn 19 41 (fb 26 1048575) HT_ ?_; refine pn 20 42 (fb 26 2097151) HT_ ?_; refine pn 21 43 (fb 26 4194303) HT_ ?_; refine pn 22 44 (fb 26 8388607) HT_ ?_; refine pn 23 45 (fb 26 16777215) HT_ ?_; refine pu 24 46 (fb 26 33554431) HT_ ?_; refine pu 25 47 (fb 26 67108863) HT_ ?_; refine done_ (done_of HT_.out (by kernel_rfl)) ?_
          try go_wp2
          go_meet
          case rel => exact ⟨_, (false), Ye1, H', ⟨by have := HK1.out; first | omega | exact Nat.le_refl _⟩, ⟨bk a4.out⟩, ⟨bk a3.out⟩, ⟨bf HB.out⟩⟩
       ·replace an := Bool.eq_false_iff.mpr an; subst an
        have H1 : (spec_ValidTree.j1 k1 a2 true a1 ((rd_T27 a1 a2).f0) ((rd_T27 a1 a2).f1) ((rd_T27 a1 a2).f2)) = some r := by rw [if_neg (show ¬ (false = true) by decide)] at H; exact H
        clear H; have H := H1; clear H1; have H' := Aside0.mk H; clear H
        try go_wp2
        have ab : Aside0 ((((aa.setCell ⟨a5, 0, none⟩ (.string ((rd_T27 a1 a2).f0))).setCell ⟨a5, 1, none⟩ (.string ((rd_T27 a1 a2).f1))).setCell ⟨a5, 2, none⟩ (.bool ((rd_T27 a1 a2).f2))).heap[af]? = some (.cells #[.slice (some a8) a1.length ae] 25 (0, 0))) := ⟨bkf a4.out av.out⟩
        have ac : Aside0 ((((aa.setCell ⟨a5, 0, none⟩ (.string ((rd_T27 a1 a2).f0))).setCell ⟨a5, 1, none⟩ (.string ((rd_T27 a1 a2).f1))).setCell ⟨a5, 2, none⟩ (.bool ((rd_T27 a1 a2).f2))).heap[a5]? = some (.cells #[.string ((rd_T27 a1 a2).f0), .string ((rd_T27 a1 a2).f1), .bool ((rd_T27 a1 a2).f2)] 27 (0, 0))) := ⟨bp a3.out⟩
        have ad : Aside0 (Below w.heap.size w (((aa.setCell ⟨a5, 0, none⟩ (.string ((rd_T27 a1 a2).f0))).setCell ⟨a5, 1, none⟩ (.string ((rd_T27 a1 a2).f1))).setCell ⟨a5, 2, none⟩ (.bool ((rd_T27 a1 a2).f2)))) := ⟨bf HB.out⟩
        (try clear a4); (try clear a3); (try clear HB); generalize (((aa.setCell ⟨a5, 0, none⟩ (.string ((rd_T27 a1 a2).f0))).setCell ⟨a5, 1, none⟩ (.string ((rd_T27 a1 a2).f1))).setCell ⟨a5, 2, none⟩ (.bool ((rd_T27 a1 a2).f2))) = w30 at ab ac ad ⊢; have a4 := ab; have a3 := ac; have HB := ad; clear ab ac ad; refine Ya3 (blk_drew a4.out) (blk_drew a3.out) (below_drew1 HB.out) ?_; clear a4 a3 HB; intro a4 a3 HB; refine start_ (n := 26) (S := fun w' => w'.cell? ⟨a5, 0, none⟩ = some (.string ((rd_T27 a1 a2).f0)) ∧ w'.cell? ⟨a5, 1, none⟩ = some (.string ((rd_T27 a1 a2).f1)) ∧ w'.cell? ⟨a5, 2, none⟩ = some (.bool ((rd_T27 a1 a2).f2))) (ds := []) (fb 26 0) (by kernel_rfl) rfl rfl ⟨bc a3 0, bc a3 1, bc a3 2⟩ (fun hHeld => ?_); refine with_tabW spec_ValidTree.tab7 spec_ValidTree.bits7 (fun HT_ HW_ => ?_); generalize w30.drew = w31 at a4 a3 HB hHeld ⊢; refine pu 0 22 (fb 26 1) HT_ ?_; refine tk 1 23 (fb 26 3) HT_ HW_ hHeld ?_; refine o1 2 (some 24) (fb 26 7) HT_ (fun K hK => ?_); refine gs _ (#[.string ((rd_T27 a1 a2).f0)]) Tryd.func23 ?_; (with_reducible refine (spec_ValidPath.calls k1 ((rd_T27 a1 a2).f0) false _ aw.out).mono ?_); rintro e w32 ⟨rfl, hb⟩; refine ⟨_, rfl, ?_⟩; refine Ya3 (bb a4 hb) (bb a3 hb) (below_step (bf HB.out) hb) ?_; clear a4 a3 HB; intro a4 a3 HB; (try clear hb); (try clear hb2); (try clear hk); (try clear hi); refine hK.out _ _ ⟨bc a3 0, bc a3 1, bc a3 2⟩ (fun hHeld => ?_); clear hK K; refine nm 24 ?_; refine pu 3 25 (fb 26 15) HT_ ?_; refine pu 4 26 (fb 26 31) HT_ ?_; refine pn 5 27 (fb 26 63) HT_ ?_; refine pn 6 28 (fb 26 127) HT_ ?_; refine pn 7 29 (fb 26 255) HT_ ?_; refine pn 8 30 (fb 26 511) HT_ ?_; refine pu 9 31 (fb 26 1023) HT_ ?_; refine pu 10 32 (fb 26 2047) HT_ ?_; refine pn 11 33 (fb 26 4095) HT_ ?_; refine pn 12 34 (fb 26 8191) HT_ ?_; refine pn 13 35 (fb 26 16383) HT_ ?_; refine pn 14 36 (fb 26 32767) HT_ ?_; refine pn 15 37 (fb 26 65535) HT_ ?_; refine pn 16 38 (fb 26 131071) HT_ ?_; refine pn 17 39 (fb 26 262143) HT_ ?_; refine pn 18 40 (fb 26 524287) HT_ ?_; refine pn 19 41 (fb 26 1048575) HT_ ?_; refine pn 20 42 (fb 26 2097151) HT_ ?_; refine pn 21 43 (fb 26 4194303) HT_ ?_; refine pn 22 44 (fb 26 8388607) HT_ ?_; refine pn 23 45 (fb 26 16777215) HT_ ?_; refine pn 24 46 (fb 26 33554431) HT_ ?_; refine pu 25 47 (fb 26 67108863) HT_ ?_; refine done_ (done_of HT_.out (by kernel_rfl)) ?_
        try go_wp2
        go_meet
        case rel => exact ⟨_, (true), Ye1, H', ⟨by have := HK1.out; first | omega | exact Nat.le_refl _⟩, ⟨bk a4.out⟩, ⟨bk a3.out⟩, ⟨bf HB.out⟩⟩
      case rest =>
       clear aM; (try clear c1); (try clear c2); (try clear p2); (try clear an); (try clear aj); (try clear aP); (try clear ap); (try clear aq); obtain ⟨kq, aD, rfl, HA, HJ8, a4, a3, HB⟩ := hcut
       cases kq with
       | zero => exact absurd HA.out (by simp [spec_ValidTree.j1])
       | succ aS =>
        have H := HA.out; clear HA; simp only [spec_ValidTree.j1] at H
        by_cases ay : aD = true
        ·subst ay
         have H1 : (some false) = some r := by rw [if_pos rfl] at H; exact H
         clear H; have H := H1; clear H1; obtain rfl := Option.some.inj H
         go_wp2
         go_ret
         exact ⟨Ye2, (bf HB.out)⟩
        ·replace ay := Bool.eq_false_iff.mpr ay; subst ay
         have H1 : (spec_ValidTree.l1 aS a2 0 a1 ((rd_T27 a1 a2).f0) ((rd_T27 a1 a2).f1) ((rd_T27 a1 a2).f2)) = some r := by rw [if_neg (show ¬ (false = true) by decide)] at H; exact H
         clear H; have H := H1; clear H1; have H' := Aside0.mk H; clear H
         go_wp2
         go_loopg [5] aS (fun kq v5 w' => ∃ (a6 : Int), v5 = .int .i64 a6 ∧ Aside0 (spec_ValidTree.l1 kq a2 a6 a1 ((rd_T27 a1 a2).f0) ((rd_T27 a1 a2).f1) ((rd_T27 a1 a2).f2) = some r) ∧ Aside0 (kq ≤ aS) ∧ Aside0 (w'.heap[af]? = some (.cells #[(.slice (some a8) a1.length ae)] 25 (0, 0))) ∧ Aside0 (w'.heap[a5]? = some (.cells #[.string ((rd_T27 a1 a2).f0), .string ((rd_T27 a1 a2).f1), .bool ((rd_T27 a1 a2).f2)] 27 (0, 0))) ∧ Aside0 (Below w.heap.size w w'))
         case atStart => exact ⟨(0), Ye1, H', ⟨Nat.le_refl _⟩, ⟨bk a4.out⟩, ⟨bk a3.out⟩, ⟨bf HB.out⟩⟩
         case round =>
          clear H'; (try clear c1); (try clear c2); (try clear p2); (try clear c3); (try clear an); (try clear aj); (try clear aP); (try clear ap); (try clear aq); (try clear ay); (try clear p2); obtain ⟨a6, rfl, HA, HK3, a4, a3, HB⟩ := hrel
          cases gk with
          | zero => exact absurd HA.out (by simp [spec_ValidTree.l1])
          | succ k3 =>
           have H := HA.out; clear HA; simp only [spec_ValidTree.l1] at H
           by_cases ar : a6 < a2
           ·rw [if_pos ar] at H
            have bh : decide (a6 < a2) = true := decide_eq_true ar; clear ar
            by_cases aH : 0 ≤ a6
            ·rw [if_pos aH] at H
             have c35b0 : decide (0 ≤ a6) = true := decide_eq_true aH; clear aH
             by_cases aI : a6 < (a1.length : Int)
             ·rw [if_pos aI] at H
              have c36b0 : decide (a6 < (a1.length : Int)) = true := decide_eq_true aI; clear aI; replace H := Option.bind_eq_some_iff.mp H; obtain ⟨aB, b0, H⟩ := H; replace H : (if aB = true then (some false) else (spec_ValidTree.l1 k3 a2 (wrap64 (a6 + 1)) a1 ((rd_T27 a1 a2).f0) ((rd_T27 a1 a2).f1) ((rd_T27 a1 a2).f2))) = some r := H; have A37 := Aside0.mk b0; clear b0
              by_cases aJ : aB = true
              ·subst aJ
               have H1 : (some false) = some r := by rw [if_pos rfl] at H; exact H
               clear H; have H := H1; clear H1; obtain rfl := Option.some.inj H
               try go_wp2
               refine Ya3 (blk_drew a4.out) (blk_drew a3.out) (below_drew1 HB.out) ?_; clear a4 a3 HB; intro a4 a3 HB; have al : 0 ≤ (a6 : Int) := oda; have am : a6 < (a1.length : Int) := oda; obtain ⟨aT, aU, ag, ah, ai⟩ := at_T27 aC.out a6 al am; have hw128_2 := ai; have hw128_1 := ah; have hw128_0 := ag
               obtain rfl : a8 = aT := (by injection aU)
               replace ag := pw_cell_below HB.out ag; replace ah := pw_cell_below HB.out ah; replace ai := pw_cell_below HB.out ai; replace al := eq_true al; replace am := eq_true am; refine start_ (n := 9) (S := fun w' => w'.cell? ⟨af, 0, none⟩ = some (.slice (some a8) a1.length ae) ∧ w'.cell? ⟨a5, 0, none⟩ = some (.string ((rd_T27 a1 a2).f0)) ∧ w'.cell? ⟨a5, 1, none⟩ = some (.string ((rd_T27 a1 a2).f1)) ∧ w'.cell? ⟨a5, 2, none⟩ = some (.bool ((rd_T27 a1 a2).f2)) ∧ w'.cell? (a8.add ((a6).toNat * 3)) = some (.string ((rd_T27 a1 a6).f0)) ∧ w'.cell? ⟨(a8.add ((a6).toNat * 3)).block, (a8.add ((a6).toNat * 3)).off + 1, none⟩ = some (.string ((rd_T27 a1 a6).f1)) ∧ w'.cell? ⟨(a8.add ((a6).toNat * 3)).block, (a8.add ((a6).toNat * 3)).off + 2, none⟩ = some (.bool ((rd_T27 a1 a6).f2))) (ds := []) (fb 9 0) (by kernel_rfl) rfl rfl ⟨bc a4 0, bc a3 0, bc a3 1, bc a3 2, (pw_cell_below HB.out hw128_0), (pw_cell_below HB.out hw128_1), (pw_cell_below HB.out hw128_2)⟩ (fun hHeld => ?_); refine with_tabW spec_ValidTree.tab12 spec_ValidTree.bits12 (fun HT_ HW_ => ?_); generalize wr.drew = w39 at a4 a3 HB ag ah ai hHeld ⊢; refine pu 0 53 (fb 9 1) HT_ ?_; refine pu 2 55 (fb 9 5) HT_ ?_; refine pu 6 59 (fb 9 69) HT_ ?_; refine tk 1 54 (fb 9 71) HT_ HW_ hHeld ?_; refine pu 3 56 (fb 9 79) HT_ ?_; refine pu 4 57 (fb 9 95) HT_ ?_; refine tk 5 58 (fb 9 127) HT_ HW_ hHeld ?_; refine tk 7 60 (fb 9 255) HT_ HW_ hHeld ?_; refine o1 8 (some 61) (fb 9 511) HT_ (fun K hK => ?_); refine gs _ (#[.string ((rd_T27 a1 a6).f0), .string ((rd_T27 a1 a2).f0)]) Tryd.func72 ?_; (with_reducible refine (spec_l5Begins.calls ((rd_T27 a1 a6).f0) ((rd_T27 a1 a2).f0) true _ A37.out).mono ?_); rintro e w' ⟨rfl, ⟨nd, rfl⟩⟩; refine ⟨_, rfl, ?_⟩; refine hK.out _ _ ⟨bc a4 0, bc a3 0, bc a3 1, bc a3 2, (pw_cell_below HB.out hw128_0), (pw_cell_below HB.out hw128_1), (pw_cell_below HB.out hw128_2)⟩ (fun hHeld => ?_); clear hK K; refine nm 61 ?_; refine done_ (done_of HT_.out (by kernel_rfl)) ?_
               try go_wp2
               go_ret
               exact ⟨Ye2, (bf HB.out)⟩
              ·replace aJ := Bool.eq_false_iff.mpr aJ; subst aJ
               have H1 : (spec_ValidTree.l1 k3 a2 (wrap64 (a6 + 1)) a1 ((rd_T27 a1 a2).f0) ((rd_T27 a1 a2).f1) ((rd_T27 a1 a2).f2)) = some r := by rw [if_neg (show ¬ (false = true) by decide)] at H; exact H
               clear H; have H := H1; clear H1; have H' := Aside0.mk H; clear H
               try go_wp2
               refine Ya3 (blk_drew a4.out) (blk_drew a3.out) (below_drew1 HB.out) ?_; clear a4 a3 HB; intro a4 a3 HB; have al : 0 ≤ (a6 : Int) := oda; have am : a6 < (a1.length : Int) := oda; obtain ⟨aT, aU, ag, ah, ai⟩ := at_T27 aC.out a6 al am; have hw128_2 := ai; have hw128_1 := ah; have hw128_0 := ag
               obtain rfl : a8 = aT := (by injection aU)
               replace ag := pw_cell_below HB.out ag; replace ah := pw_cell_below HB.out ah; replace ai := pw_cell_below HB.out ai; replace al := eq_true al; replace am := eq_true am; refine start_ (n := 9) (S := fun w' => w'.cell? ⟨af, 0, none⟩ = some (.slice (some a8) a1.length ae) ∧ w'.cell? ⟨a5, 0, none⟩ = some (.string ((rd_T27 a1 a2).f0)) ∧ w'.cell? ⟨a5, 1, none⟩ = some (.string ((rd_T27 a1 a2).f1)) ∧ w'.cell? ⟨a5, 2, none⟩ = some (.bool ((rd_T27 a1 a2).f2)) ∧ w'.cell? (a8.add ((a6).toNat * 3)) = some (.string ((rd_T27 a1 a6).f0)) ∧ w'.cell? ⟨(a8.add ((a6).toNat * 3)).block, (a8.add ((a6).toNat * 3)).off + 1, none⟩ = some (.string ((rd_T27 a1 a6).f1)) ∧ w'.cell? ⟨(a8.add ((a6).toNat * 3)).block, (a8.add ((a6).toNat * 3)).off + 2, none⟩ = some (.bool ((rd_T27 a1 a6).f2))) (ds := []) (fb 9 0) (by kernel_rfl) rfl rfl ⟨bc a4 0, bc a3 0, bc a3 1, bc a3 2, (pw_cell_below HB.out hw128_0), (pw_cell_below HB.out hw128_1), (pw_cell_below HB.out hw128_2)⟩ (fun hHeld => ?_); refine with_tabW spec_ValidTree.tab12 spec_ValidTree.bits12 (fun HT_ HW_ => ?_); generalize wr.drew = w40 at a4 a3 HB ag ah ai hHeld ⊢; refine pu 0 53 (fb 9 1) HT_ ?_; refine pu 2 55 (fb 9 5) HT_ ?_; refine pu 6 59 (fb 9 69) HT_ ?_; refine tk 1 54 (fb 9 71) HT_ HW_ hHeld ?_; refine pu 3 56 (fb 9 79) HT_ ?_; refine pu 4 57 (fb 9 95) HT_ ?_; refine tk 5 58 (fb 9 127) HT_ HW_ hHeld ?_; refine tk 7 60 (fb 9 255) HT_ HW_ hHeld ?_; refine o1 8 (some 61) (fb 9 511) HT_ (fun K hK => ?_); refine gs _ (#[.string ((rd_T27 a1 a6).f0), .string ((rd_T27 a1 a2).f0)]) Tryd.func72 ?_; (with_reducible refine (spec_l5Begins.calls ((rd_T27 a1 a6).f0) ((rd_T27 a1 a2).f0) false _ A37.out).mono ?_); rintro e w' ⟨rfl, ⟨nd, rfl⟩⟩; refine ⟨_, rfl, ?_⟩; refine hK.out _ _ ⟨bc a4 0, bc a3 0, bc a3 1, bc a3 2, (pw_cell_below HB.out hw128_0), (pw_cell_below HB.out hw128_1), (pw_cell_below HB.out hw128_2)⟩ (fun hHeld => ?_); clear hK K; refine nm 61 ?_; refine done_ (done_of HT_.out (by kernel_rfl)) ?_
               try go_wp2
               go_roundg k3
               case measure => have := HK1.out; have := HJ8.out; have := HK3.out; omega
               case rel => exact ⟨(wrap64 (a6 + 1)), Ye1, H', ⟨by have := HK1.out; have := HJ8.out; have := HK3.out; omega⟩, ⟨bk a4.out⟩, ⟨bk a3.out⟩, ⟨bf HB.out⟩⟩
             ·rw [if_neg aI] at H
              exact absurd H (by simp)
            ·rw [if_neg aH] at H
             exact absurd H (by simp)
           ·rw [if_neg ar] at H
            have bh : decide (a6 < a2) = false := decide_eq_false ar; clear ar; have H' := Aside0.mk H; clear H
            go_wp2
            go_roundg k3
            case measure => have := HK1.out; have := HJ8.out; have := HK3.out; omega
            case rel => exact ⟨(wrap64 (a2 + 1)), Ye1, H', ⟨by have := HK1.out; have := HJ8.out; have := HK3.out; omega⟩, ⟨bk a4.out⟩, ⟨bf HB.out⟩⟩
     ·rw [if_neg c8] at H
      exact absurd H (by simp)
    ·rw [if_neg c7] at H
     have b7 : decide (a2 < (a1.length : Int)) = false := decide_eq_false c7; clear c7; obtain rfl := Option.some.inj H; have ⟨bB, bC⟩ := Yc1 a4.out
     go_wp2
     go_ret
     exact ⟨Ye2, (bf HB.out)⟩

end Go.Proofs.YtknagppkeodggaaDoor.P


namespace Go.Proofs.YtknagppkeodggaaDoor.P
open Go.RowKit Go.Proofs.YtknagppkeodggaaDoorW.PrintWords Go.Proofs.YtknagppkeodggaaDoorW.PrintLast Go.Proofs.YtknagppkeodggaaDoorW.PrintMore
attribute [local go_sem] max2_int min2_int max_two min_two max_three min_three max_four min_four
set_option linter.unusedVariables false
set_option linter.unusedSimpArgs false

/-! ### spec_Put: function 15 -/
mutual
def spec_Put.j0 : Nat → Bool → List (S27) → ByteArray → ByteArray → Bool → Option ((List (S27)) × Int)
 | 0, _, _, _, _, _ => none
 | k + 1, x21, aJ, aL, b9, ba => if x21 = true then (some (([] : List (S27)), 2)) else (spec_Put.l0 k 0 aJ aL b9 ba)
def spec_Put.l0 : Nat → Int → List (S27) → ByteArray → ByteArray → Bool → Option ((List (S27)) × Int)
 | 0, _, _, _, _, _ => none
 | k + 1, x6, aJ, aL, b9, ba => if x6 < (aJ.length : Int) then (if 0 ≤ x6 then ((spec_l5Begins.f ((rd_T27 aJ x6).f0) aL).bind fun bd => (if bd = true then (some (([] : List (S27)), 3)) else ((spec_l5Begins.f aL ((rd_T27 aJ x6).f0)).bind fun aH => (if aH = true then (some (([] : List (S27)), 3)) else (spec_Put.l0 k (wrap64 (x6 + 1)) aJ aL b9 ba))))) else (none)) else ((spec_l5Set.f k aJ aL b9 ba).bind fun ad => (if (ad.length : Int) > 100 then (some (([] : List (S27)), 4)) else (some (ad, 0))))
end
def spec_Put.f (k : Nat) (a7 : List (S27)) (a1_0 : ByteArray) (a1_1 : ByteArray) (a1_2 : Bool) : Option ((List (S27)) × Int) := (spec_ValidTree.f k a7).bind fun aM => (if aM = true then ((spec_ValidPath.f k a1_0).bind fun aE => (if aE = true then (spec_Put.j0 k (decide ((a1_1.size : Int) > 1500)) a7 a1_0 a1_1 a1_2) else (spec_Put.j0 k true a7 a1_0 a1_1 a1_2))) else (some (([] : List (S27)), 1)))
theorem spec_Put.mono_l : ∀ k, (∀ y0 y1 y2 y3 y4, LeO (spec_Put.j0 k y0 y1 y2 y3 y4) (spec_Put.j0 (k + 1) y0 y1 y2 y3 y4)) ∧ (∀ y0 y1 y2 y3 y4, LeO (spec_Put.l0 k y0 y1 y2 y3 y4) (spec_Put.l0 (k + 1) y0 y1 y2 y3 y4))
 | 0 => ⟨fun _ _ _ _ _ r h => by simp [spec_Put.j0] at h, fun _ _ _ _ _ r h => by simp [spec_Put.l0] at h⟩
 | k + 1 => by
  obtain ⟨ih0, ih1⟩ := spec_Put.mono_l k; refine ⟨?_, ?_⟩
  ·intro y0 y1 y2 y3 y4
   unfold spec_Put.j0
   repeat' first
   | (with_reducible exact ih0 _ _ _ _ _)
   | (with_reducible exact ih1 _ _ _ _ _)
   | (with_reducible exact spec_ValidPath.mono _ _)
   | (with_reducible exact spec_ValidTree.mono _ _)
   | (with_reducible exact spec_l5Set.mono _ _ _ _ _)
   | (with_reducible exact LeO.refl _)
   | (with_reducible exact LeO.none _)
   | (with_reducible refine LeO.ite ?_ ?_)
   | (with_reducible refine LeO.bind ?_ (fun _ => ?_))
   | exact ih0 _ _ _ _ _
   | exact ih1 _ _ _ _ _
   | exact spec_ValidPath.mono _ _
   | exact spec_ValidTree.mono _ _
   | exact spec_l5Set.mono _ _ _ _ _
   | exact LeO.none _
   | refine LeO.ite ?_ ?_
   | refine LeO.bind ?_ (fun _ => ?_)
  ·intro y0 y1 y2 y3 y4
   unfold spec_Put.l0
   repeat' first
   | (with_reducible exact ih0 _ _ _ _ _)
   | (with_reducible exact ih1 _ _ _ _ _)
   | (with_reducible exact spec_ValidPath.mono _ _)
   | (with_reducible exact spec_ValidTree.mono _ _)
   | (with_reducible exact spec_l5Set.mono _ _ _ _ _)
   | (with_reducible exact LeO.refl _)
   | (with_reducible exact LeO.none _)
   | (with_reducible refine LeO.ite ?_ ?_)
   | (with_reducible refine LeO.bind ?_ (fun _ => ?_))
   | exact ih0 _ _ _ _ _
   | exact ih1 _ _ _ _ _
   | exact spec_ValidPath.mono _ _
   | exact spec_ValidTree.mono _ _
   | exact spec_l5Set.mono _ _ _ _ _
   | exact LeO.none _
   | refine LeO.ite ?_ ?_
   | refine LeO.bind ?_ (fun _ => ?_)
theorem spec_Put.mono : ∀ a0 a1 a2 a3 k, LeO (spec_Put.f k a0 a1 a2 a3) (spec_Put.f (k + 1) a0 a1 a2 a3) := by
 intro a0 a1 a2 a3 k; obtain ⟨ih0, ih1⟩ := spec_Put.mono_l k
 unfold spec_Put.f
 repeat' first
   | (with_reducible exact ih0 _ _ _ _ _)
   | (with_reducible exact ih1 _ _ _ _ _)
   | (with_reducible exact spec_ValidPath.mono _ _)
   | (with_reducible exact spec_ValidTree.mono _ _)
   | (with_reducible exact spec_l5Set.mono _ _ _ _ _)
   | (with_reducible exact LeO.refl _)
   | (with_reducible exact LeO.none _)
   | (with_reducible refine LeO.ite ?_ ?_)
   | (with_reducible refine LeO.bind ?_ (fun _ => ?_))
   | exact ih0 _ _ _ _ _
   | exact ih1 _ _ _ _ _
   | exact spec_ValidPath.mono _ _
   | exact spec_ValidTree.mono _ _
   | exact spec_l5Set.mono _ _ _ _ _
   | exact LeO.none _
   | refine LeO.ite ?_ ?_
   | refine LeO.bind ?_ (fun _ => ?_)
set_option maxHeartbeats 8000000 in
set_option maxRecDepth 100000 in
theorem spec_Put.calls (k : Nat) (aF : Option Addr) (aG : Nat) (a7 : List (S27)) (a1_0 : ByteArray) (a1_1 : ByteArray) (a1_2 : Bool) (r1 : List (S27)) (r2 : Int) (w : World) (bC : Kd.C k27 w aF a7.length a7) (bD : a7.length ≤ aG) (h : spec_Put.f k a7 a1_0 a1_1 a1_2 = some (r1, r2)) :
  Calls Tryd.prog 15 #[.agg #[.slice aF a7.length aG], .agg #[.string a1_0, .string a1_1, .bool a1_2]] w fun e w' => ∃ v0_ : Value, e = .returned (.tuple #[.agg #[v0_], .int .i64 r2]) ∧ Kd.R k27 27 w' w.heap.size (fun _ => True) v0_ r1 ∧ Below w.heap.size w w' := by
 have hu25 := Tryd.underlying25; have hu27 := Tryd.underlying27; have ac := Aside0.mk bC; have ap := Aside0.mk bD; clear bC bD; have HB := Aside0.mk (Below.refl w.heap.size w); have H : ((spec_ValidTree.f k a7).bind fun aM => (if aM = true then ((spec_ValidPath.f k a1_0).bind fun aE => (if aE = true then (spec_Put.j0 k (decide ((a1_1.size : Int) > 1500)) a7 a1_0 a1_1 a1_2) else (spec_Put.j0 k true a7 a1_0 a1_1 a1_2))) else (some (([] : List (S27)), 1)))) = some (r1, r2) := h; clear h; replace H := Option.bind_eq_some_iff.mp H; obtain ⟨aM, aq, H⟩ := H; replace H : (if aM = true then ((spec_ValidPath.f k a1_0).bind fun aE => (if aE = true then (spec_Put.j0 k (decide ((a1_1.size : Int) > 1500)) a7 a1_0 a1_1 a1_2) else (spec_Put.j0 k true a7 a1_0 a1_1 a1_2))) else (some (([] : List (S27)), 1))) = some (r1, r2) := H; have A3 := Aside0.mk aq; clear aq
 by_cases c4 : aM = true
 ·subst c4
  have H1 : ((spec_ValidPath.f k a1_0).bind fun aE => (if aE = true then (spec_Put.j0 k (decide ((a1_1.size : Int) > 1500)) a7 a1_0 a1_1 a1_2) else (spec_Put.j0 k true a7 a1_0 a1_1 a1_2))) = some (r1, r2) := by rw [if_pos rfl] at H; exact H
  clear H; have H := H1; clear H1; have bA := Aside0.mk H; clear H
  go_enter Tryd.func15, Tryd.ntmps15
  go_upto_region 3 with (first | ((with_reducible refine gd 2 rfl ?_); (try (refine gate_guard (by rfl) ?_; dsimp only)); refine bx 2 25 (#[.slice aF a7.length aG]) ?_; intro aK hg w6 hbox hb; refine Ya4 (below_step (be HB.out) hb) (hbox) (bs hg (be HB.out)) (bs hg (be HB.out)) ?_; clear HB; intro HB a4 aU aV; clear hb hbox hg) | ((with_reducible refine gd 3 rfl ?_); (try (refine gate_guard (by rfl) ?_; dsimp only)); refine bx 3 27 (#[.string a1_0, .string a1_1, .bool a1_2]) ?_; intro ao hg w7 hbox hb; refine Ya7 (bb a4 hb) (below_step (bf HB.out) hb) (hbox) (bs hg (bf HB.out)) (bs hg (bf HB.out)) (bl hg a4) (br hg a4) ?_; clear a4 HB; intro a4 HB a5 aW aX ae af; clear hb hbox hg) | ((with_reducible refine gd 4 rfl ?_); (try (refine gate_guard (by rfl) ?_; dsimp only)); refine bx 4 25 (#[.slice none 0 0]) ?_; intro an hg w8 hbox hb; refine Ya10 (bb a4 hb) (bb a5 hb) (below_step (bf HB.out) hb) (hbox) (bs hg (bf HB.out)) (bs hg (bf HB.out)) (bl hg a4) (br hg a4) (bl hg a5) (br hg a5) ?_; clear a4 a5 HB; intro a4 a5 HB a6 aY aZ ag ah al am; clear hb hbox hg; have bE := ae.out; have bF := af.out; have bG := ag.out; have bH := ah.out; have ⟨bg, bh⟩ := Yc1 a4.out) | (go_at_call 39; (with_reducible refine (spec_ValidTree.calls k _ _ a7 true _ ?side1 ?side2 A3.out).mono ?_); (case side1 => exact cb (Kd.C_below ac.out HB.out)); (case side2 => exact ap.out); rintro e w12 ⟨rfl, hb⟩; refine Ya4 (bb a4 hb) (bb a5 hb) (bb a6 hb) (below_step (bf HB.out) hb) ?_; clear a4 a5 a6 HB; intro a4 a5 a6 HB; (try clear hb); (try clear hb2); (try clear hk); (try clear hi)))
  try have ⟨bg, bh⟩ := Yc1 a4.out
  repeat (go_quiet (first | ((with_reducible refine gd 2 rfl ?_); (try (refine gate_guard (by rfl) ?_; dsimp only)); refine bx 2 25 (#[.slice aF a7.length aG]) ?_; intro aK hg w6 hbox hb; refine Ya4 (below_step (be HB.out) hb) (hbox) (bs hg (be HB.out)) (bs hg (be HB.out)) ?_; clear HB; intro HB a4 aU aV; clear hb hbox hg) | ((with_reducible refine gd 3 rfl ?_); (try (refine gate_guard (by rfl) ?_; dsimp only)); refine bx 3 27 (#[.string a1_0, .string a1_1, .bool a1_2]) ?_; intro ao hg w7 hbox hb; refine Ya7 (bb a4 hb) (below_step (bf HB.out) hb) (hbox) (bs hg (bf HB.out)) (bs hg (bf HB.out)) (bl hg a4) (br hg a4) ?_; clear a4 HB; intro a4 HB a5 aW aX ae af; clear hb hbox hg) | ((with_reducible refine gd 4 rfl ?_); (try (refine gate_guard (by rfl) ?_; dsimp only)); refine bx 4 25 (#[.slice none 0 0]) ?_; intro an hg w8 hbox hb; refine Ya10 (bb a4 hb) (bb a5 hb) (below_step (bf HB.out) hb) (hbox) (bs hg (bf HB.out)) (bs hg (bf HB.out)) (bl hg a4) (br hg a4) (bl hg a5) (br hg a5) ?_; clear a4 a5 HB; intro a4 a5 HB a6 aY aZ ag ah al am; clear hb hbox hg; have bE := ae.out; have bF := af.out; have bG := ag.out; have bH := ah.out) | (go_at_call 39; (with_reducible refine (spec_ValidTree.calls k _ _ a7 true _ ?side1 ?side2 A3.out).mono ?_); (case side1 => exact cb (Kd.C_below ac.out HB.out)); (case side2 => exact ap.out); rintro e w12 ⟨rfl, hb⟩; refine Ya4 (bb a4 hb) (bb a5 hb) (bb a6 hb) (below_step (bf HB.out) hb) ?_; clear a4 a5 a6 HB; intro a4 a5 a6 HB; (try clear hb); (try clear hb2); (try clear hk); (try clear hi))); go_upto_region 3 with (first | ((with_reducible refine gd 2 rfl ?_); (try (refine gate_guard (by rfl) ?_; dsimp only)); refine bx 2 25 (#[.slice aF a7.length aG]) ?_; intro aK hg w6 hbox hb; refine Ya4 (below_step (be HB.out) hb) (hbox) (bs hg (be HB.out)) (bs hg (be HB.out)) ?_; clear HB; intro HB a4 aU aV; clear hb hbox hg) | ((with_reducible refine gd 3 rfl ?_); (try (refine gate_guard (by rfl) ?_; dsimp only)); refine bx 3 27 (#[.string a1_0, .string a1_1, .bool a1_2]) ?_; intro ao hg w7 hbox hb; refine Ya7 (bb a4 hb) (below_step (bf HB.out) hb) (hbox) (bs hg (bf HB.out)) (bs hg (bf HB.out)) (bl hg a4) (br hg a4) ?_; clear a4 HB; intro a4 HB a5 aW aX ae af; clear hb hbox hg) | ((with_reducible refine gd 4 rfl ?_); (try (refine gate_guard (by rfl) ?_; dsimp only)); refine bx 4 25 (#[.slice none 0 0]) ?_; intro an hg w8 hbox hb; refine Ya10 (bb a4 hb) (bb a5 hb) (below_step (bf HB.out) hb) (hbox) (bs hg (bf HB.out)) (bs hg (bf HB.out)) (bl hg a4) (br hg a4) (bl hg a5) (br hg a5) ?_; clear a4 a5 HB; intro a4 a5 HB a6 aY aZ ag ah al am; clear hb hbox hg; have bE := ae.out; have bF := af.out; have bG := ag.out; have bH := ah.out; have ⟨bg, bh⟩ := Yc1 a4.out) | (go_at_call 39; (with_reducible refine (spec_ValidTree.calls k _ _ a7 true _ ?side1 ?side2 A3.out).mono ?_); (case side1 => exact cb (Kd.C_below ac.out HB.out)); (case side2 => exact ap.out); rintro e w12 ⟨rfl, hb⟩; refine Ya4 (bb a4 hb) (bb a5 hb) (bb a6 hb) (below_step (bf HB.out) hb) ?_; clear a4 a5 a6 HB; intro a4 a5 a6 HB; (try clear hb); (try clear hb2); (try clear hk); (try clear hi))))
  (try simp only [Act.put, List.setIfInBounds_toArray, List.set_cons_zero, List.set_cons_succ])
  go_cut [21] (fun v21 wc => ∃ (kq : Nat) (bi : Bool), v21 = .bool bi ∧ Aside0 (spec_Put.j0 kq bi a7 a1_0 a1_1 a1_2 = some (r1, r2)) ∧ Aside0 (kq ≤ k) ∧ Aside0 (wc.heap[aK]? = some (.cells #[(.slice aF a7.length aG)] 25 (0, 0))) ∧ Aside0 (wc.heap[ao]? = some (.cells #[.string a1_0, .string a1_1, .bool a1_2] 27 (0, 0))) ∧ Aside0 (wc.heap[an]? = some (.cells #[(.slice none 0 0)] 25 (0, 0))) ∧ Aside0 (Below w.heap.size w wc))
  case first =>
   have H := bA.out; clear bA; replace H := Option.bind_eq_some_iff.mp H; obtain ⟨aE, bI, H⟩ := H; replace H : (if aE = true then (spec_Put.j0 k (decide ((a1_1.size : Int) > 1500)) a7 a1_0 a1_1 a1_2) else (spec_Put.j0 k true a7 a1_0 a1_1 a1_2)) = some (r1, r2) := H; have aN := Aside0.mk bI; clear bI
   by_cases aO : aE = true
   ·subst aO
    have H1 : (spec_Put.j0 k (decide ((a1_1.size : Int) > 1500)) a7 a1_0 a1_1 a1_2) = some (r1, r2) := by rw [if_pos rfl] at H; exact H
    clear H; have H := H1; clear H1; have H' := Aside0.mk H; clear H; have hnb15 := af.out; have hnc15 := ae.out; have hnb16 := al.out; have hnc16 := am.out; have ⟨bJ, bK, bL, bM, bN, bO⟩ := Yc3 a5.out
    go_wp2_with (first | (go_at_call 23; (with_reducible refine (spec_ValidPath.calls k a1_0 true _ aN.out).mono ?_); rintro e w18 ⟨rfl, hb⟩; refine Ya4 (bb a4 hb) (bb a5 hb) (bb a6 hb) (below_step (bf HB.out) hb) ?_; clear a4 a5 a6 HB; intro a4 a5 a6 HB; (try clear hb); (try clear hb2); (try clear hk); (try clear hi); have ⟨bj, bm, bn, bo, bq, bu⟩ := Yc3 a5.out))
    try have ⟨bj, bm, bn, bo, bq, bu⟩ := Yc3 a5.out
    repeat (go_quiet (first | (go_at_call 23; (with_reducible refine (spec_ValidPath.calls k a1_0 true _ aN.out).mono ?_); rintro e w18 ⟨rfl, hb⟩; refine Ya4 (bb a4 hb) (bb a5 hb) (bb a6 hb) (below_step (bf HB.out) hb) ?_; clear a4 a5 a6 HB; intro a4 a5 a6 HB; (try clear hb); (try clear hb2); (try clear hk); (try clear hi))); try go_wp2_with (first | (go_at_call 23; (with_reducible refine (spec_ValidPath.calls k a1_0 true _ aN.out).mono ?_); rintro e w18 ⟨rfl, hb⟩; refine Ya4 (bb a4 hb) (bb a5 hb) (bb a6 hb) (below_step (bf HB.out) hb) ?_; clear a4 a5 a6 HB; intro a4 a5 a6 HB; (try clear hb); (try clear hb2); (try clear hk); (try clear hi); have ⟨bj, bm, bn, bo, bq, bu⟩ := Yc3 a5.out)))
    go_meet
    case rel => exact ⟨_, (decide ((a1_1.size : Int) > 1500)), Ye1, H', ⟨by first | omega | exact Nat.le_refl _⟩, ⟨bk a4.out⟩, ⟨bk a5.out⟩, ⟨bk a6.out⟩, ⟨bf HB.out⟩⟩
   ·replace aO := Bool.eq_false_iff.mpr aO; subst aO
    have H1 : (spec_Put.j0 k true a7 a1_0 a1_1 a1_2) = some (r1, r2) := by rw [if_neg (show ¬ (false = true) by decide)] at H; exact H
    clear H; have H := H1; clear H1; have H' := Aside0.mk H; clear H; have hnb20 := af.out; have hnc20 := ae.out; have hnb21 := al.out; have hnc21 := am.out; have ⟨bP, bQ, bR, bS, bT, bU⟩ := Yc3 a5.out
    go_wp2_with (first | (go_at_call 23; (with_reducible refine (spec_ValidPath.calls k a1_0 false _ aN.out).mono ?_); rintro e w23 ⟨rfl, hb⟩; refine Ya4 (bb a4 hb) (bb a5 hb) (bb a6 hb) (below_step (bf HB.out) hb) ?_; clear a4 a5 a6 HB; intro a4 a5 a6 HB; (try clear hb); (try clear hb2); (try clear hk); (try clear hi)))
    repeat (go_quiet (first | (go_at_call 23; (with_reducible refine (spec_ValidPath.calls k a1_0 false _ aN.out).mono ?_); rintro e w23 ⟨rfl, hb⟩; refine Ya4 (bb a4 hb) (bb a5 hb) (bb a6 hb) (below_step (bf HB.out) hb) ?_; clear a4 a5 a6 HB; intro a4 a5 a6 HB; (try clear hb); (try clear hb2); (try clear hk); (try clear hi))); try go_wp2_with (first | (go_at_call 23; (with_reducible refine (spec_ValidPath.calls k a1_0 false _ aN.out).mono ?_); rintro e w23 ⟨rfl, hb⟩; refine Ya4 (bb a4 hb) (bb a5 hb) (bb a6 hb) (below_step (bf HB.out) hb) ?_; clear a4 a5 a6 HB; intro a4 a5 a6 HB; (try clear hb); (try clear hb2); (try clear hk); (try clear hi))))
    go_meet
    case rel => exact ⟨_, (true), Ye1, H', ⟨by first | omega | exact Nat.le_refl _⟩, ⟨bk a4.out⟩, ⟨bk a5.out⟩, ⟨bk a6.out⟩, ⟨bf HB.out⟩⟩
  case rest =>
   clear bA; (try clear c1); (try clear c2); (try clear p2); (try clear c4); (try clear c9); (try clear c10); (try clear aO); (try clear c15); (try clear c16); (try clear c20); (try clear c21); (try clear bg); (try clear bJ); (try clear bK); (try clear bL); (try clear bj); (try clear bm); (try clear bn); (try clear bP); (try clear bQ); (try clear bR); (try clear bh); (try clear bM); (try clear bN); (try clear bO); (try clear bo); (try clear bq); (try clear bu); (try clear bS); (try clear bT); (try clear bU); obtain ⟨kq, bi, rfl, HA, HJ4, a4, a5, a6, HB⟩ := hcut
   cases kq with
   | zero => exact absurd HA.out (by simp [spec_Put.j0])
   | succ bB =>
    have H := HA.out; clear HA; simp only [spec_Put.j0] at H
    by_cases b0 : bi = true
    ·subst b0
     have H1 : (some (([] : List (S27)), 2)) = some (r1, r2) := by rw [if_pos rfl] at H; exact H
     clear H; have H := H1; clear H1; simp only [Option.some.injEq, Prod.mk.injEq] at H; obtain ⟨rfl, rfl⟩ := H; have hnb25 := ah.out; have hnc25 := ag.out; have hnb26 := am.out; have hnc26 := al.out; have ⟨cL, cM⟩ := Yc1 a6.out
     go_wp2
     repeat (go_quiet (fail); try go_wp2)
     refine bodyPost_ret (results_ct rfl _ _ an 25 #[.slice none 0 0] (0, 0) _ rfl (bp a6.out) Tryd.underlying25 rfl (by kernel_rfl)) rfl ?_; exact ⟨_, Ye2, nl, (bf HB.out)⟩
    ·replace b0 := Bool.eq_false_iff.mpr b0; subst b0
     have H1 : (spec_Put.l0 bB 0 a7 a1_0 a1_1 a1_2) = some (r1, r2) := by rw [if_neg (show ¬ (false = true) by decide)] at H; exact H
     clear H; have H := H1; clear H1; have H' := Aside0.mk H; clear H
     go_wp2
     repeat (go_quiet (fail); try go_wp2)
     go_loopg [6] bB (fun kq v6 w' => ∃ (a8 : Int), v6 = .int .i64 a8 ∧ Aside0 (spec_Put.l0 kq a8 a7 a1_0 a1_1 a1_2 = some (r1, r2)) ∧ Aside0 (kq ≤ bB) ∧ Aside0 (w'.heap[aK]? = some (.cells #[(.slice aF a7.length aG)] 25 (0, 0))) ∧ Aside0 (w'.heap[ao]? = some (.cells #[.string a1_0, .string a1_1, .bool a1_2] 27 (0, 0))) ∧ Aside0 (w'.heap[an]? = some (.cells #[(.slice none 0 0)] 25 (0, 0))) ∧ Aside0 (Below w.heap.size w w'))
     case atStart => exact ⟨(0), Ye1, H', ⟨Nat.le_refl _⟩, ⟨bk a4.out⟩, ⟨bk a5.out⟩, ⟨bk a6.out⟩, ⟨bf HB.out⟩⟩
     case round =>
      clear H'; (try clear c1); (try clear c2); (try clear p2); (try clear c4); (try clear c9); (try clear c10); (try clear aO); (try clear c15); (try clear c16); (try clear c20); (try clear c21); (try clear b0); (try clear c25); (try clear c26); (try clear bg); (try clear bJ); (try clear bK); (try clear bL); (try clear bj); (try clear bm); (try clear bn); (try clear bP); (try clear bQ); (try clear bR); (try clear cL); (try clear bh); (try clear bM); (try clear bN); (try clear bO); (try clear bo); (try clear bq); (try clear bu); (try clear bS); (try clear bT); (try clear bU); (try clear cM); (try clear p2); obtain ⟨a8, rfl, HA, HK2, a4, a5, a6, HB⟩ := hrel
      cases gk with
      | zero => exact absurd HA.out (by simp [spec_Put.l0])
      | succ k2 =>
       have H := HA.out; clear HA; simp only [spec_Put.l0] at H
       by_cases aP : a8 < (a7.length : Int)
       ·rw [if_pos aP] at H
        have cN : decide (a8 < (a7.length : Int)) = true := decide_eq_true aP; clear aP
        by_cases bv : 0 ≤ a8
        ·rw [if_pos bv] at H
         have c29b0 : decide (0 ≤ a8) = true := decide_eq_true bv; clear bv; replace H := Option.bind_eq_some_iff.mp H; obtain ⟨bd, bV, H⟩ := H; replace H : (if bd = true then (some (([] : List (S27)), 3)) else ((spec_l5Begins.f a1_0 ((rd_T27 a7 a8).f0)).bind fun aH => (if aH = true then (some (([] : List (S27)), 3)) else (spec_Put.l0 k2 (wrap64 (a8 + 1)) a7 a1_0 a1_1 a1_2)))) = some (r1, r2) := H; have aq := Aside0.mk bV; clear bV
         by_cases bw : bd = true
         ·subst bw
          have H1 : (some (([] : List (S27)), 3)) = some (r1, r2) := by rw [if_pos rfl] at H; exact H
          clear H; have H := H1; clear H1; simp only [Option.some.injEq, Prod.mk.injEq] at H; obtain ⟨rfl, rfl⟩ := H; have hnb32 := ae.out; have hnc32 := af.out; have hnb33 := ag.out; have hnc33 := ah.out; have ⟨cQ, cR⟩ := Yc1 a4.out; have au : 0 ≤ (a8 : Int) := oda; have av : a8 < (a7.length : Int) := oda; obtain ⟨aI, b1, bW, bX, bY⟩ := at_T27 (Kd.C_below ac.out HB.out) a8 au av
          cases b1
          replace au := eq_true au; replace av := eq_true av; have hnb35 := al.out; have hnc35 := am.out; have ⟨cS, cT, cU, cV, cW, cX⟩ := Yc3 a5.out
          go_wp2_with (first | (go_at_call 72; (with_reducible refine (spec_l5Begins.calls ((rd_T27 a7 a8).f0) a1_0 true _ aq.out).mono ?_); rintro e w' ⟨rfl, ⟨nd, rfl⟩⟩; (try first | exact ⟨rfl, _, World.drewN_drewN _ _ _⟩ | exact ⟨rfl, _, Eq.trans (World.drewN_drewN _ _ _) (congrArg (World.drewN _) (Nat.add_assoc _ _ _))⟩); have ⟨bZ, c0⟩ := Yc1 a6.out))
          try have ⟨bZ, c0⟩ := Yc1 a6.out
          repeat (go_quiet (first | (go_at_call 72; (with_reducible refine (spec_l5Begins.calls ((rd_T27 a7 a8).f0) a1_0 true _ aq.out).mono ?_); rintro e w' ⟨rfl, ⟨nd, rfl⟩⟩; (try first | exact ⟨rfl, _, World.drewN_drewN _ _ _⟩ | exact ⟨rfl, _, Eq.trans (World.drewN_drewN _ _ _) (congrArg (World.drewN _) (Nat.add_assoc _ _ _))⟩))); try go_wp2_with (first | (go_at_call 72; (with_reducible refine (spec_l5Begins.calls ((rd_T27 a7 a8).f0) a1_0 true _ aq.out).mono ?_); rintro e w' ⟨rfl, ⟨nd, rfl⟩⟩; (try first | exact ⟨rfl, _, World.drewN_drewN _ _ _⟩ | exact ⟨rfl, _, Eq.trans (World.drewN_drewN _ _ _) (congrArg (World.drewN _) (Nat.add_assoc _ _ _))⟩); have ⟨bZ, c0⟩ := Yc1 a6.out)))
          refine bodyPost_ret (results_ct rfl _ _ an 25 #[.slice none 0 0] (0, 0) _ rfl (bp a6.out) Tryd.underlying25 rfl (by kernel_rfl)) rfl ?_; exact ⟨_, Ye2, nl, (bf HB.out)⟩
         ·replace bw := Bool.eq_false_iff.mpr bw; subst bw
          have H1 : ((spec_l5Begins.f a1_0 ((rd_T27 a7 a8).f0)).bind fun aH => (if aH = true then (some (([] : List (S27)), 3)) else (spec_Put.l0 k2 (wrap64 (a8 + 1)) a7 a1_0 a1_1 a1_2))) = some (r1, r2) := by rw [if_neg (show ¬ (false = true) by decide)] at H; exact H
          clear H; have H := H1; clear H1; replace H := Option.bind_eq_some_iff.mp H; obtain ⟨aH, ca, H⟩ := H; replace H : (if aH = true then (some (([] : List (S27)), 3)) else (spec_Put.l0 k2 (wrap64 (a8 + 1)) a7 a1_0 a1_1 a1_2)) = some (r1, r2) := H; have aQ := Aside0.mk ca; clear ca
          by_cases bz : aH = true
          ·subst bz
           have H1 : (some (([] : List (S27)), 3)) = some (r1, r2) := by rw [if_pos rfl] at H; exact H
           clear H; have H := H1; clear H1; simp only [Option.some.injEq, Prod.mk.injEq] at H; obtain ⟨rfl, rfl⟩ := H; have hnb40 := ae.out; have hnc40 := af.out; have hnb41 := ag.out; have hnc41 := ah.out; have ⟨cY, cZ⟩ := Yc1 a4.out; have au : 0 ≤ (a8 : Int) := oda; have av : a8 < (a7.length : Int) := oda; obtain ⟨aI, b1, bW, bX, bY⟩ := at_T27 (Kd.C_below ac.out HB.out) a8 au av
           cases b1
           replace au := eq_true au; replace av := eq_true av; have hnb43 := al.out; have hnc43 := am.out; have ⟨d0, d1, d2, d3, d4, d5⟩ := Yc3 a5.out
           go_wp2_with (first | (go_at_call 72; (with_reducible refine (spec_l5Begins.calls ((rd_T27 a7 a8).f0) a1_0 false _ aq.out).mono ?_); rintro e w' ⟨rfl, ⟨nd, rfl⟩⟩; (try first | exact ⟨rfl, _, World.drewN_drewN _ _ _⟩ | exact ⟨rfl, _, Eq.trans (World.drewN_drewN _ _ _) (congrArg (World.drewN _) (Nat.add_assoc _ _ _))⟩); have aa : 0 ≤ (a8 : Int) := oda; have ab : a8 < (a7.length : Int) := oda; obtain ⟨aw, ax, ai, aj, ak⟩ := at_T27 ac.out a8 aa ab; obtain rfl : aI = aw := (by injection ax); replace ai := pw_cell_below HB.out ai; replace aj := pw_cell_below HB.out aj; replace ak := pw_cell_below HB.out ak; replace aa := eq_true aa; replace ab := eq_true ab) | (go_at_call 72; (with_reducible refine (spec_l5Begins.calls a1_0 ((rd_T27 a7 a8).f0) true _ aQ.out).mono ?_); rintro e w' ⟨rfl, ⟨nd, rfl⟩⟩; (try first | exact ⟨rfl, _, World.drewN_drewN _ _ _⟩ | exact ⟨rfl, _, Eq.trans (World.drewN_drewN _ _ _) (congrArg (World.drewN _) (Nat.add_assoc _ _ _))⟩); have ⟨cc, cd⟩ := Yc1 a6.out))
           try have ⟨cc, cd⟩ := Yc1 a6.out
           repeat (go_quiet (first | (go_at_call 72; (with_reducible refine (spec_l5Begins.calls ((rd_T27 a7 a8).f0) a1_0 false _ aq.out).mono ?_); rintro e w' ⟨rfl, ⟨nd, rfl⟩⟩; (try first | exact ⟨rfl, _, World.drewN_drewN _ _ _⟩ | exact ⟨rfl, _, Eq.trans (World.drewN_drewN _ _ _) (congrArg (World.drewN _) (Nat.add_assoc _ _ _))⟩); have aa : 0 ≤ (a8 : Int) := oda; have ab : a8 < (a7.length : Int) := oda; obtain ⟨aw, ax, ai, aj, ak⟩ := at_T27 ac.out a8 aa ab; obtain rfl : aI = aw := (by injection ax); replace ai := pw_cell_below HB.out ai; replace aj := pw_cell_below HB.out aj; replace ak := pw_cell_below HB.out ak; replace aa := eq_true aa; replace ab := eq_true ab) | (go_at_call 72; (with_reducible refine (spec_l5Begins.calls a1_0 ((rd_T27 a7 a8).f0) true _ aQ.out).mono ?_); rintro e w' ⟨rfl, ⟨nd, rfl⟩⟩; (try first | exact ⟨rfl, _, World.drewN_drewN _ _ _⟩ | exact ⟨rfl, _, Eq.trans (World.drewN_drewN _ _ _) (congrArg (World.drewN _) (Nat.add_assoc _ _ _))⟩))); try go_wp2_with (first | (go_at_call 72; (with_reducible refine (spec_l5Begins.calls ((rd_T27 a7 a8).f0) a1_0 false _ aq.out).mono ?_); rintro e w' ⟨rfl, ⟨nd, rfl⟩⟩; (try first | exact ⟨rfl, _, World.drewN_drewN _ _ _⟩ | exact ⟨rfl, _, Eq.trans (World.drewN_drewN _ _ _) (congrArg (World.drewN _) (Nat.add_assoc _ _ _))⟩); have aa : 0 ≤ (a8 : Int) := oda; have ab : a8 < (a7.length : Int) := oda; obtain ⟨aw, ax, ai, aj, ak⟩ := at_T27 ac.out a8 aa ab; obtain rfl : aI = aw := (by injection ax); replace ai := pw_cell_below HB.out ai; replace aj := pw_cell_below HB.out aj; replace ak := pw_cell_below HB.out ak; replace aa := eq_true aa; replace ab := eq_true ab) | (go_at_call 72; (with_reducible refine (spec_l5Begins.calls a1_0 ((rd_T27 a7 a8).f0) true _ aQ.out).mono ?_); rintro e w' ⟨rfl, ⟨nd, rfl⟩⟩; (try first | exact ⟨rfl, _, World.drewN_drewN _ _ _⟩ | exact ⟨rfl, _, Eq.trans (World.drewN_drewN _ _ _) (congrArg (World.drewN _) (Nat.add_assoc _ _ _))⟩); have ⟨cc, cd⟩ := Yc1 a6.out)))
           refine bodyPost_ret (results_ct rfl _ _ an 25 #[.slice none 0 0] (0, 0) _ rfl (bp a6.out) Tryd.underlying25 rfl (by kernel_rfl)) rfl ?_; exact ⟨_, Ye2, nl, (bf HB.out)⟩
          ·replace bz := Bool.eq_false_iff.mpr bz; subst bz
           have H1 : (spec_Put.l0 k2 (wrap64 (a8 + 1)) a7 a1_0 a1_1 a1_2) = some (r1, r2) := by rw [if_neg (show ¬ (false = true) by decide)] at H; exact H
           clear H; have H := H1; clear H1; have H' := Aside0.mk H; clear H; have hnb46 := ae.out; have hnc46 := af.out; have hnb47 := ag.out; have hnc47 := ah.out; have ⟨d6, d7⟩ := Yc1 a4.out; have au : 0 ≤ (a8 : Int) := oda; have av : a8 < (a7.length : Int) := oda; obtain ⟨aI, b1, bW, bX, bY⟩ := at_T27 (Kd.C_below ac.out HB.out) a8 au av
           cases b1
           replace au := eq_true au; replace av := eq_true av; have hnb49 := al.out; have hnc49 := am.out; have ⟨d8, d9, da, db, dc, dd⟩ := Yc3 a5.out
           go_wp2_with (first | (go_at_call 72; (with_reducible refine (spec_l5Begins.calls ((rd_T27 a7 a8).f0) a1_0 false _ aq.out).mono ?_); rintro e w' ⟨rfl, ⟨nd, rfl⟩⟩; (try first | exact ⟨rfl, _, World.drewN_drewN _ _ _⟩ | exact ⟨rfl, _, Eq.trans (World.drewN_drewN _ _ _) (congrArg (World.drewN _) (Nat.add_assoc _ _ _))⟩); have aa : 0 ≤ (a8 : Int) := oda; have ab : a8 < (a7.length : Int) := oda; obtain ⟨aw, ax, ai, aj, ak⟩ := at_T27 ac.out a8 aa ab; obtain rfl : aI = aw := (by injection ax); replace ai := pw_cell_below HB.out ai; replace aj := pw_cell_below HB.out aj; replace ak := pw_cell_below HB.out ak; replace aa := eq_true aa; replace ab := eq_true ab) | (go_at_call 72; (with_reducible refine (spec_l5Begins.calls a1_0 ((rd_T27 a7 a8).f0) false _ aQ.out).mono ?_); rintro e w' ⟨rfl, ⟨nd, rfl⟩⟩; (try first | exact ⟨rfl, _, World.drewN_drewN _ _ _⟩ | exact ⟨rfl, _, Eq.trans (World.drewN_drewN _ _ _) (congrArg (World.drewN _) (Nat.add_assoc _ _ _))⟩)))
           repeat (go_quiet (first | (go_at_call 72; (with_reducible refine (spec_l5Begins.calls ((rd_T27 a7 a8).f0) a1_0 false _ aq.out).mono ?_); rintro e w' ⟨rfl, ⟨nd, rfl⟩⟩; (try first | exact ⟨rfl, _, World.drewN_drewN _ _ _⟩ | exact ⟨rfl, _, Eq.trans (World.drewN_drewN _ _ _) (congrArg (World.drewN _) (Nat.add_assoc _ _ _))⟩); have aa : 0 ≤ (a8 : Int) := oda; have ab : a8 < (a7.length : Int) := oda; obtain ⟨aw, ax, ai, aj, ak⟩ := at_T27 ac.out a8 aa ab; obtain rfl : aI = aw := (by injection ax); replace ai := pw_cell_below HB.out ai; replace aj := pw_cell_below HB.out aj; replace ak := pw_cell_below HB.out ak; replace aa := eq_true aa; replace ab := eq_true ab) | (go_at_call 72; (with_reducible refine (spec_l5Begins.calls a1_0 ((rd_T27 a7 a8).f0) false _ aQ.out).mono ?_); rintro e w' ⟨rfl, ⟨nd, rfl⟩⟩; (try first | exact ⟨rfl, _, World.drewN_drewN _ _ _⟩ | exact ⟨rfl, _, Eq.trans (World.drewN_drewN _ _ _) (congrArg (World.drewN _) (Nat.add_assoc _ _ _))⟩))); try go_wp2_with (first | (go_at_call 72; (with_reducible refine (spec_l5Begins.calls ((rd_T27 a7 a8).f0) a1_0 false _ aq.out).mono ?_); rintro e w' ⟨rfl, ⟨nd, rfl⟩⟩; (try first | exact ⟨rfl, _, World.drewN_drewN _ _ _⟩ | exact ⟨rfl, _, Eq.trans (World.drewN_drewN _ _ _) (congrArg (World.drewN _) (Nat.add_assoc _ _ _))⟩); have aa : 0 ≤ (a8 : Int) := oda; have ab : a8 < (a7.length : Int) := oda; obtain ⟨aw, ax, ai, aj, ak⟩ := at_T27 ac.out a8 aa ab; obtain rfl : aI = aw := (by injection ax); replace ai := pw_cell_below HB.out ai; replace aj := pw_cell_below HB.out aj; replace ak := pw_cell_below HB.out ak; replace aa := eq_true aa; replace ab := eq_true ab) | (go_at_call 72; (with_reducible refine (spec_l5Begins.calls a1_0 ((rd_T27 a7 a8).f0) false _ aQ.out).mono ?_); rintro e w' ⟨rfl, ⟨nd, rfl⟩⟩; (try first | exact ⟨rfl, _, World.drewN_drewN _ _ _⟩ | exact ⟨rfl, _, Eq.trans (World.drewN_drewN _ _ _) (congrArg (World.drewN _) (Nat.add_assoc _ _ _))⟩))))
           go_roundg k2
           case measure => have := HJ4.out; have := HK2.out; omega
           case rel => exact ⟨(wrap64 (a8 + 1)), Ye1, H', ⟨by have := HJ4.out; have := HK2.out; omega⟩, ⟨bk a4.out⟩, ⟨bk a5.out⟩, ⟨bk a6.out⟩, ⟨bf HB.out⟩⟩
        ·rw [if_neg bv] at H
         exact absurd H (by simp)
       ·rw [if_neg aP] at H
        have cN : decide (a8 < (a7.length : Int)) = false := decide_eq_false aP; clear aP; replace H := Option.bind_eq_some_iff.mp H; obtain ⟨ad, ce, H⟩ := H; replace H : (if (ad.length : Int) > 100 then (some (([] : List (S27)), 4)) else (some (ad, 0))) = some (r1, r2) := H; have aR := Aside0.mk ce; clear ce
        by_cases aS : (ad.length : Int) > 100
        ·rw [if_pos aS] at H
         have cO : decide (100 < (ad.length : Int)) = true := decide_eq_true aS; have cP : decide (100 < ad.length) = true := decide_eq_true (by omega); clear aS; simp only [Option.some.injEq, Prod.mk.injEq] at H; obtain ⟨rfl, rfl⟩ := H; have hnb53 := ae.out; have hnc53 := af.out; have hnb54 := ag.out; have hnc54 := ah.out; have ⟨de, df⟩ := Yc1 a4.out; have hnb56 := al.out; have hnc56 := am.out; have ⟨dg, dh, di, dj, dk, dl⟩ := Yc3 a5.out
         go_wp2_with (first | (go_at_call 73; (with_reducible refine (spec_l5Set.calls k2 _ _ a7 a1_0 a1_1 a1_2 ad _ ?side1 ?side2 aR.out).mono ?_); (case side1 => exact cb (Kd.C_below ac.out HB.out)); (case side2 => exact ap.out); rintro e w58 ⟨b2, rfl, ho0, hb⟩; refine Ya5 (Kd.R_lower (Kd.R_newB ho0 (g := ao) (o := .cells #[.string a1_0, .string a1_1, .bool a1_2] 27 (0, 0)) (bk a5.out)) (below_size (bf HB.out))) (bb a4 hb) (bb a5 hb) (bb a6 hb) (below_step (bf HB.out) hb) ?_; clear a4 a5 a6 HB; intro a9 a4 a5 a6 HB; (try clear hb); (try clear hb2); (try clear hk); (try clear hi); (try clear ho0)) | ((with_reducible refine gd 7 rfl ?_); (try (refine gate_guard (by rfl) ?_; dsimp only)); refine bx 7 25 (#[.slice none 0 0]) ?_; intro aT hg w59 hbox hb; refine Ya14 (Kd.R_below (kr a9.out) hb) (bb a4 hb) (bb a5 hb) (bb a6 hb) (below_step (bf HB.out) hb) (hbox) (bs hg (bf HB.out)) (bs hg (bf HB.out)) (bl hg a4) (br hg a4) (bl hg a5) (br hg a5) (bl hg a6) (br hg a6) ?_; clear a9 a4 a5 a6 HB; intro a9 a4 a5 a6 HB ar b3 b4 ay az aA aB aC aD; clear hb hbox hg; obtain ⟨cf, cg, b5⟩ := Kd.R_slice a9.out; subst b5; have ch := az.out; have ci := ay.out; have cj := aB.out; have ck := aA.out; have cl := aD.out; have cm := aC.out; have ⟨cn, co⟩ := Yc1 ar.out; have ⟨cp, cq⟩ := Yc1 a6.out))
         try have ⟨cp, cq⟩ := Yc1 a6.out
         repeat (go_quiet (first | (go_at_call 73; (with_reducible refine (spec_l5Set.calls k2 _ _ a7 a1_0 a1_1 a1_2 ad _ ?side1 ?side2 aR.out).mono ?_); (case side1 => exact cb (Kd.C_below ac.out HB.out)); (case side2 => exact ap.out); rintro e w58 ⟨b2, rfl, ho0, hb⟩; refine Ya5 (Kd.R_lower (Kd.R_newB ho0 (g := ao) (o := .cells #[.string a1_0, .string a1_1, .bool a1_2] 27 (0, 0)) (bk a5.out)) (below_size (bf HB.out))) (bb a4 hb) (bb a5 hb) (bb a6 hb) (below_step (bf HB.out) hb) ?_; clear a4 a5 a6 HB; intro a9 a4 a5 a6 HB; (try clear hb); (try clear hb2); (try clear hk); (try clear hi); (try clear ho0)) | ((with_reducible refine gd 7 rfl ?_); (try (refine gate_guard (by rfl) ?_; dsimp only)); refine bx 7 25 (#[.slice none 0 0]) ?_; intro aT hg w59 hbox hb; refine Ya14 (Kd.R_below (kr a9.out) hb) (bb a4 hb) (bb a5 hb) (bb a6 hb) (below_step (bf HB.out) hb) (hbox) (bs hg (bf HB.out)) (bs hg (bf HB.out)) (bl hg a4) (br hg a4) (bl hg a5) (br hg a5) (bl hg a6) (br hg a6) ?_; clear a9 a4 a5 a6 HB; intro a9 a4 a5 a6 HB ar b3 b4 ay az aA aB aC aD; clear hb hbox hg; obtain ⟨cf, cg, b5⟩ := Kd.R_slice a9.out; subst b5; have ch := az.out; have ci := ay.out; have cj := aB.out; have ck := aA.out; have cl := aD.out; have cm := aC.out; have ⟨cn, co⟩ := Yc1 ar.out)); try go_wp2_with (first | (go_at_call 73; (with_reducible refine (spec_l5Set.calls k2 _ _ a7 a1_0 a1_1 a1_2 ad _ ?side1 ?side2 aR.out).mono ?_); (case side1 => exact cb (Kd.C_below ac.out HB.out)); (case side2 => exact ap.out); rintro e w58 ⟨b2, rfl, ho0, hb⟩; refine Ya5 (Kd.R_lower (Kd.R_newB ho0 (g := ao) (o := .cells #[.string a1_0, .string a1_1, .bool a1_2] 27 (0, 0)) (bk a5.out)) (below_size (bf HB.out))) (bb a4 hb) (bb a5 hb) (bb a6 hb) (below_step (bf HB.out) hb) ?_; clear a4 a5 a6 HB; intro a9 a4 a5 a6 HB; (try clear hb); (try clear hb2); (try clear hk); (try clear hi); (try clear ho0)) | ((with_reducible refine gd 7 rfl ?_); (try (refine gate_guard (by rfl) ?_; dsimp only)); refine bx 7 25 (#[.slice none 0 0]) ?_; intro aT hg w59 hbox hb; refine Ya14 (Kd.R_below (kr a9.out) hb) (bb a4 hb) (bb a5 hb) (bb a6 hb) (below_step (bf HB.out) hb) (hbox) (bs hg (bf HB.out)) (bs hg (bf HB.out)) (bl hg a4) (br hg a4) (bl hg a5) (br hg a5) (bl hg a6) (br hg a6) ?_; clear a9 a4 a5 a6 HB; intro a9 a4 a5 a6 HB ar b3 b4 ay az aA aB aC aD; clear hb hbox hg; obtain ⟨cf, cg, b5⟩ := Kd.R_slice a9.out; subst b5; have ch := az.out; have ci := ay.out; have cj := aB.out; have ck := aA.out; have cl := aD.out; have cm := aC.out; have ⟨cn, co⟩ := Yc1 ar.out; have ⟨cp, cq⟩ := Yc1 a6.out)))
         refine bodyPost_ret (results_ct rfl _ _ an 25 #[.slice none 0 0] (0, 0) _ rfl (bp a6.out) Tryd.underlying25 rfl (by kernel_rfl)) rfl ?_; exact ⟨_, Ye2, nl, (bf HB.out)⟩
        ·rw [if_neg aS] at H
         have cO : decide (100 < (ad.length : Int)) = false := decide_eq_false aS; have cP : decide (100 < ad.length) = false := decide_eq_false (by omega); clear aS; simp only [Option.some.injEq, Prod.mk.injEq] at H; obtain ⟨rfl, rfl⟩ := H; have hnb66 := ae.out; have hnc66 := af.out; have hnb67 := ag.out; have hnc67 := ah.out; have ⟨dm, dn⟩ := Yc1 a4.out; have hnb69 := al.out; have hnc69 := am.out; have ⟨dp, dq, dr, ds, dt, du⟩ := Yc3 a5.out
         go_wp2_with (first | (go_at_call 73; (with_reducible refine (spec_l5Set.calls k2 _ _ a7 a1_0 a1_1 a1_2 ad _ ?side1 ?side2 aR.out).mono ?_); (case side1 => exact cb (Kd.C_below ac.out HB.out)); (case side2 => exact ap.out); rintro e w71 ⟨b2, rfl, ho0, hb⟩; refine Ya5 (Kd.R_lower (Kd.R_newB ho0 (g := ao) (o := .cells #[.string a1_0, .string a1_1, .bool a1_2] 27 (0, 0)) (bk a5.out)) (below_size (bf HB.out))) (bb a4 hb) (bb a5 hb) (bb a6 hb) (below_step (bf HB.out) hb) ?_; clear a4 a5 a6 HB; intro a9 a4 a5 a6 HB; (try clear hb); (try clear hb2); (try clear hk); (try clear hi); (try clear ho0)) | ((with_reducible refine gd 7 rfl ?_); (try (refine gate_guard (by rfl) ?_; dsimp only)); refine bx 7 25 (#[.slice none 0 0]) ?_; intro aT hg w72 hbox hb; refine Ya14 (Kd.R_below (kr a9.out) hb) (bb a4 hb) (bb a5 hb) (bb a6 hb) (below_step (bf HB.out) hb) (hbox) (bs hg (bf HB.out)) (bs hg (bf HB.out)) (bl hg a4) (br hg a4) (bl hg a5) (br hg a5) (bl hg a6) (br hg a6) ?_; clear a9 a4 a5 a6 HB; intro a9 a4 a5 a6 HB ar b3 b4 ay az aA aB aC aD; clear hb hbox hg; obtain ⟨b6, b7, b8⟩ := Kd.R_slice a9.out; subst b8; have cr := az.out; have cs := ay.out; have ct := aB.out; have cu := aA.out; have cv := aD.out; have cw := aC.out; have ⟨cx, cy⟩ := Yc1 ar.out; have ⟨cz, cA⟩ := Yc1 a6.out))
         try have ⟨cz, cA⟩ := Yc1 a6.out
         repeat (go_quiet (first | (go_at_call 73; (with_reducible refine (spec_l5Set.calls k2 _ _ a7 a1_0 a1_1 a1_2 ad _ ?side1 ?side2 aR.out).mono ?_); (case side1 => exact cb (Kd.C_below ac.out HB.out)); (case side2 => exact ap.out); rintro e w71 ⟨b2, rfl, ho0, hb⟩; refine Ya5 (Kd.R_lower (Kd.R_newB ho0 (g := ao) (o := .cells #[.string a1_0, .string a1_1, .bool a1_2] 27 (0, 0)) (bk a5.out)) (below_size (bf HB.out))) (bb a4 hb) (bb a5 hb) (bb a6 hb) (below_step (bf HB.out) hb) ?_; clear a4 a5 a6 HB; intro a9 a4 a5 a6 HB; (try clear hb); (try clear hb2); (try clear hk); (try clear hi); (try clear ho0)) | ((with_reducible refine gd 7 rfl ?_); (try (refine gate_guard (by rfl) ?_; dsimp only)); refine bx 7 25 (#[.slice none 0 0]) ?_; intro aT hg w72 hbox hb; refine Ya14 (Kd.R_below (kr a9.out) hb) (bb a4 hb) (bb a5 hb) (bb a6 hb) (below_step (bf HB.out) hb) (hbox) (bs hg (bf HB.out)) (bs hg (bf HB.out)) (bl hg a4) (br hg a4) (bl hg a5) (br hg a5) (bl hg a6) (br hg a6) ?_; clear a9 a4 a5 a6 HB; intro a9 a4 a5 a6 HB ar b3 b4 ay az aA aB aC aD; clear hb hbox hg; obtain ⟨b6, b7, b8⟩ := Kd.R_slice a9.out; subst b8; have cr := az.out; have cs := ay.out; have ct := aB.out; have cu := aA.out; have cv := aD.out; have cw := aC.out; have ⟨cx, cy⟩ := Yc1 ar.out)); try go_wp2_with (first | (go_at_call 73; (with_reducible refine (spec_l5Set.calls k2 _ _ a7 a1_0 a1_1 a1_2 ad _ ?side1 ?side2 aR.out).mono ?_); (case side1 => exact cb (Kd.C_below ac.out HB.out)); (case side2 => exact ap.out); rintro e w71 ⟨b2, rfl, ho0, hb⟩; refine Ya5 (Kd.R_lower (Kd.R_newB ho0 (g := ao) (o := .cells #[.string a1_0, .string a1_1, .bool a1_2] 27 (0, 0)) (bk a5.out)) (below_size (bf HB.out))) (bb a4 hb) (bb a5 hb) (bb a6 hb) (below_step (bf HB.out) hb) ?_; clear a4 a5 a6 HB; intro a9 a4 a5 a6 HB; (try clear hb); (try clear hb2); (try clear hk); (try clear hi); (try clear ho0)) | ((with_reducible refine gd 7 rfl ?_); (try (refine gate_guard (by rfl) ?_; dsimp only)); refine bx 7 25 (#[.slice none 0 0]) ?_; intro aT hg w72 hbox hb; refine Ya14 (Kd.R_below (kr a9.out) hb) (bb a4 hb) (bb a5 hb) (bb a6 hb) (below_step (bf HB.out) hb) (hbox) (bs hg (bf HB.out)) (bs hg (bf HB.out)) (bl hg a4) (br hg a4) (bl hg a5) (br hg a5) (bl hg a6) (br hg a6) ?_; clear a9 a4 a5 a6 HB; intro a9 a4 a5 a6 HB ar b3 b4 ay az aA aB aC aD; clear hb hbox hg; obtain ⟨b6, b7, b8⟩ := Kd.R_slice a9.out; subst b8; have cr := az.out; have cs := ay.out; have ct := aB.out; have cu := aA.out; have cv := aD.out; have cw := aC.out; have ⟨cx, cy⟩ := Yc1 ar.out; have ⟨cz, cA⟩ := Yc1 a6.out)))
         refine bodyPost_ret (results_ct rfl _ _ an 25 #[.slice b6 ad.length b7] (0, 0) _ rfl (bp a6.out) Tryd.underlying25 rfl (by kernel_rfl)) rfl ?_; exact ⟨_, Ye2, by (with_reducible repeat (first | apply Kd.R_alloc | apply Kd.R_drewN | apply Kd.R_drew)); exact Kd.R_mono (Kd.R_far (p := ⟨an, 0, none⟩) (Kd.R_far (p := ⟨aT, 0, none⟩) (Kd.R_types (Kd.R_types a9.out ar.out (by decide)) a6.out (by decide)) (fun _ hk => hk.1.2) (.slice b6 ad.length b7)) (fun _ hk => hk.2) (.slice b6 ad.length b7)) (fun _ hk => trivial), (bf HB.out)⟩
 ·replace c4 := Bool.eq_false_iff.mpr c4; subst c4
  have H1 : (some (([] : List (S27)), 1)) = some (r1, r2) := by rw [if_neg (show ¬ (false = true) by decide)] at H; exact H
  clear H; have H := H1; clear H1; simp only [Option.some.injEq, Prod.mk.injEq] at H; obtain ⟨rfl, rfl⟩ := H
  go_enter Tryd.func15, Tryd.ntmps15
  go_wp2_with (first | ((with_reducible refine gd 2 rfl ?_); (try (refine gate_guard (by rfl) ?_; dsimp only)); refine bx 2 25 (#[.slice aF a7.length aG]) ?_; intro aK hg w79 hbox hb; refine Ya4 (below_step (be HB.out) hb) (hbox) (bs hg (be HB.out)) (bs hg (be HB.out)) ?_; clear HB; intro HB a4 aU aV; clear hb hbox hg) | ((with_reducible refine gd 3 rfl ?_); (try (refine gate_guard (by rfl) ?_; dsimp only)); refine bx 3 27 (#[.string a1_0, .string a1_1, .bool a1_2]) ?_; intro ao hg w80 hbox hb; refine Ya7 (bb a4 hb) (below_step (bf HB.out) hb) (hbox) (bs hg (bf HB.out)) (bs hg (bf HB.out)) (bl hg a4) (br hg a4) ?_; clear a4 HB; intro a4 HB a5 aW aX ae af; clear hb hbox hg) | ((with_reducible refine gd 4 rfl ?_); (try (refine gate_guard (by rfl) ?_; dsimp only)); refine bx 4 25 (#[.slice none 0 0]) ?_; intro an hg w81 hbox hb; refine Ya10 (bb a4 hb) (bb a5 hb) (below_step (bf HB.out) hb) (hbox) (bs hg (bf HB.out)) (bs hg (bf HB.out)) (bl hg a4) (br hg a4) (bl hg a5) (br hg a5) ?_; clear a4 a5 HB; intro a4 a5 HB a6 aY aZ ag ah al am; clear hb hbox hg; have cB := ae.out; have cC := af.out; have cD := ag.out; have cE := ah.out; have ⟨cF, cG⟩ := Yc1 a4.out) | (go_at_call 39; (with_reducible refine (spec_ValidTree.calls k _ _ a7 false _ ?side1 ?side2 A3.out).mono ?_); (case side1 => exact cb (Kd.C_below ac.out HB.out)); (case side2 => exact ap.out); rintro e w85 ⟨rfl, hb⟩; refine Ya4 (bb a4 hb) (bb a5 hb) (bb a6 hb) (below_step (bf HB.out) hb) ?_; clear a4 a5 a6 HB; intro a4 a5 a6 HB; (try clear hb); (try clear hb2); (try clear hk); (try clear hi); have cH := am.out; have cI := al.out; have ⟨cJ, cK⟩ := Yc1 a6.out))
  try have ⟨cF, cG⟩ := Yc1 a4.out
  try have ⟨cJ, cK⟩ := Yc1 a6.out
  repeat (go_quiet (first | ((with_reducible refine gd 2 rfl ?_); (try (refine gate_guard (by rfl) ?_; dsimp only)); refine bx 2 25 (#[.slice aF a7.length aG]) ?_; intro aK hg w79 hbox hb; refine Ya4 (below_step (be HB.out) hb) (hbox) (bs hg (be HB.out)) (bs hg (be HB.out)) ?_; clear HB; intro HB a4 aU aV; clear hb hbox hg) | ((with_reducible refine gd 3 rfl ?_); (try (refine gate_guard (by rfl) ?_; dsimp only)); refine bx 3 27 (#[.string a1_0, .string a1_1, .bool a1_2]) ?_; intro ao hg w80 hbox hb; refine Ya7 (bb a4 hb) (below_step (bf HB.out) hb) (hbox) (bs hg (bf HB.out)) (bs hg (bf HB.out)) (bl hg a4) (br hg a4) ?_; clear a4 HB; intro a4 HB a5 aW aX ae af; clear hb hbox hg) | ((with_reducible refine gd 4 rfl ?_); (try (refine gate_guard (by rfl) ?_; dsimp only)); refine bx 4 25 (#[.slice none 0 0]) ?_; intro an hg w81 hbox hb; refine Ya10 (bb a4 hb) (bb a5 hb) (below_step (bf HB.out) hb) (hbox) (bs hg (bf HB.out)) (bs hg (bf HB.out)) (bl hg a4) (br hg a4) (bl hg a5) (br hg a5) ?_; clear a4 a5 HB; intro a4 a5 HB a6 aY aZ ag ah al am; clear hb hbox hg; have cB := ae.out; have cC := af.out; have cD := ag.out; have cE := ah.out) | (go_at_call 39; (with_reducible refine (spec_ValidTree.calls k _ _ a7 false _ ?side1 ?side2 A3.out).mono ?_); (case side1 => exact cb (Kd.C_below ac.out HB.out)); (case side2 => exact ap.out); rintro e w85 ⟨rfl, hb⟩; refine Ya4 (bb a4 hb) (bb a5 hb) (bb a6 hb) (below_step (bf HB.out) hb) ?_; clear a4 a5 a6 HB; intro a4 a5 a6 HB; (try clear hb); (try clear hb2); (try clear hk); (try clear hi); have cH := am.out; have cI := al.out)); try go_wp2_with (first | ((with_reducible refine gd 2 rfl ?_); (try (refine gate_guard (by rfl) ?_; dsimp only)); refine bx 2 25 (#[.slice aF a7.length aG]) ?_; intro aK hg w79 hbox hb; refine Ya4 (below_step (be HB.out) hb) (hbox) (bs hg (be HB.out)) (bs hg (be HB.out)) ?_; clear HB; intro HB a4 aU aV; clear hb hbox hg) | ((with_reducible refine gd 3 rfl ?_); (try (refine gate_guard (by rfl) ?_; dsimp only)); refine bx 3 27 (#[.string a1_0, .string a1_1, .bool a1_2]) ?_; intro ao hg w80 hbox hb; refine Ya7 (bb a4 hb) (below_step (bf HB.out) hb) (hbox) (bs hg (bf HB.out)) (bs hg (bf HB.out)) (bl hg a4) (br hg a4) ?_; clear a4 HB; intro a4 HB a5 aW aX ae af; clear hb hbox hg) | ((with_reducible refine gd 4 rfl ?_); (try (refine gate_guard (by rfl) ?_; dsimp only)); refine bx 4 25 (#[.slice none 0 0]) ?_; intro an hg w81 hbox hb; refine Ya10 (bb a4 hb) (bb a5 hb) (below_step (bf HB.out) hb) (hbox) (bs hg (bf HB.out)) (bs hg (bf HB.out)) (bl hg a4) (br hg a4) (bl hg a5) (br hg a5) ?_; clear a4 a5 HB; intro a4 a5 HB a6 aY aZ ag ah al am; clear hb hbox hg; have cB := ae.out; have cC := af.out; have cD := ag.out; have cE := ah.out; have ⟨cF, cG⟩ := Yc1 a4.out) | (go_at_call 39; (with_reducible refine (spec_ValidTree.calls k _ _ a7 false _ ?side1 ?side2 A3.out).mono ?_); (case side1 => exact cb (Kd.C_below ac.out HB.out)); (case side2 => exact ap.out); rintro e w85 ⟨rfl, hb⟩; refine Ya4 (bb a4 hb) (bb a5 hb) (bb a6 hb) (below_step (bf HB.out) hb) ?_; clear a4 a5 a6 HB; intro a4 a5 a6 HB; (try clear hb); (try clear hb2); (try clear hk); (try clear hi); have cH := am.out; have cI := al.out; have ⟨cJ, cK⟩ := Yc1 a6.out)))
  refine bodyPost_ret (results_ct rfl _ _ an 25 #[.slice none 0 0] (0, 0) _ rfl (bp a6.out) Tryd.underlying25 rfl (by kernel_rfl)) rfl ?_; exact ⟨_, Ye2, nl, (bf HB.out)⟩

end Go.Proofs.YtknagppkeodggaaDoor.P


namespace Go.Proofs.YtknagppkeodggaaDoor.P
open Go.RowKit Go.Proofs.YtknagppkeodggaaDoorW.PrintWords Go.Proofs.YtknagppkeodggaaDoorW.PrintLast Go.Proofs.YtknagppkeodggaaDoorW.PrintMore
attribute [local go_sem] max2_int min2_int max_two min_two max_three min_three max_four min_four
set_option linter.unusedVariables false
set_option linter.unusedSimpArgs false

/-! ### spec_l5Copy: function 157 -/
def spec_l5Copy.f (a0 : List (S27)) : Option ((List (S27))) := (some (([] : List (S27)) : List (S27))).bind fun a2 => (if a2.length + a0.length < 3518437208883 then (some (a2 ++ a0)) else (none))
set_option maxHeartbeats 8000000 in
set_option maxRecDepth 100000 in
theorem spec_l5Copy.calls (a6 : Option Addr) (a7 : Nat) (a0 : List (S27)) (r : List (S27)) (w : World) (ab : Kd.C k27 w a6 a0.length a0) (ac : a0.length ≤ a7) (h : spec_l5Copy.f a0 = some r) :
  Calls Tryd.prog 157 #[.agg #[.slice a6 a0.length a7]] w fun e w' => ∃ v0_ : Value, e = .returned (.agg #[v0_]) ∧ Kd.R k27 27 w' w.heap.size (fun _ => True) v0_ r ∧ Below w.heap.size w w' := by
 have hu25 := Tryd.underlying25; have ah := Aside0.mk ab; have HC0_0 := Aside0.mk ac; clear ab ac; have HB := Aside0.mk (Below.refl w.heap.size w); have H : ((some (([] : List (S27)) : List (S27))).bind fun a2 => (if a2.length + a0.length < 3518437208883 then (some (a2 ++ a0)) else (none))) = some r := h; clear h
 obtain ⟨a2, a4⟩ : ∃ y_ : List (S27), y_ = (([] : List (S27))) := ⟨_, rfl⟩
 replace H : (if a2.length + a0.length < 3518437208883 then (some (a2 ++ a0)) else (none)) = some r := by first | (rw [a4]; with_reducible exact H) | (have H2_ := (Option.bind_some _ _).symm.trans H; rw [a4]; with_reducible exact H2_) | (have H2_ := (Option.bind_some _ _).symm.trans H; with_reducible exact H2_) | with_reducible exact H | (rw [a4]; exact H) | exact H
 have ad := Aside0.mk a4; clear a4
 by_cases c2 : a2.length + a0.length < 3518437208883
 ·rw [if_pos c2] at H
  have ai := Aside0.mk c2; clear c2
  obtain ⟨a9, a5⟩ : ∃ y_ : List (S27), y_ = (a2 ++ a0) := ⟨_, rfl⟩
  replace H : (some a9) = some r := by first | (rw [a5]; with_reducible exact H) | (have H2_ := (Option.bind_some _ _).symm.trans H; rw [a5]; with_reducible exact H2_) | (have H2_ := (Option.bind_some _ _).symm.trans H; with_reducible exact H2_) | with_reducible exact H | (rw [a5]; exact H) | exact H
  have aj := Aside0.mk a5; clear a5; obtain rfl := Option.some.inj H
  go_enter Tryd.func157, Tryd.ntmps157
  go_wp2_with (first | ((with_reducible refine gd 1 rfl ?_); refine bx 1 25 (#[.slice a6 a0.length a7]) ?_; intro ak hg w3 hbox hb; refine Ya4 (below_step (be HB.out) hb) (hbox) (bs hg (be HB.out)) (bs hg (be HB.out)) ?_; clear HB; intro HB a1 GW226 GE226; clear hb hbox hg) | ((with_reducible refine gd 2 rfl ?_); refine bx 2 25 (#[.slice none 0 0]) ?_; intro aa hg w4 hbox hb; refine Ya7 (bb a1 hb) (below_step (bf HB.out) hb) (hbox) (bs hg (bf HB.out)) (bs hg (bf HB.out)) (bl hg a1) (br hg a1) ?_; clear a1 HB; intro a1 HB a3 GW227 GE227 al am; clear hb hbox hg) | ((with_reducible refine gd 3 rfl ?_); refine Kd.R_lit k27 _ 27 ?hg (N := 3) ?hd (xs := ([] : List (S27))) (inner := []) (ok := fun _ => True) (okp := fun _ => True) ?hr ?hp (fun _ hk => hk) trivial (Below.refl _ _) (Nat.le_refl _) (by simp) ?_; (case hd => rfl); (case hg => rfl); (case hr => first | (go_simp; done) | (go_simp; rfl)); (case hp => exact (Reps.none _ _)); intro an w5 ho6 hb hg_ hnew_; clear hg_ hnew_; (first | rw [← ad.out] at ho6 | (simp only [Int.reduceToNat] at ho6; rw [← ad.out] at ho6)); refine Ya4 (Kd.R_lower ho6 (below_size (bf HB.out))) (bb a1 hb) (bb a3 hb) (below_step (bf HB.out) hb) ?_; clear a1 a3 HB; intro a8 a1 a3 HB; clear hb ho6; have hnb7 := al.out; have hnc7 := am.out; have ⟨ap, aq⟩ := Yc1 a1.out) | ((with_reducible refine gate_builtin (b := .append) (xs := #[.tmp 3, .tmp 5]) rfl ?_); at_builtin; refine Kd.R_append_rows k27 (w0 := w) w.heap.size rfl (.tmp 3) (.tmp 5) 23 27 (.agg #[(.string ⟨#[]⟩), (.string ⟨#[]⟩), (.bool false)]) 40 rfl Tryd.underlying23 info27 rfl (by decide) (by omega) an a2 a0 _ _ _ (fun _ => True) (fun _ => False) rfl rfl ?aO ?aR (fun _ _ h => h) (fun _ h => h.elim) ?aF ?aB ?aS ?aL ?_; (case aR => exact cb (Kd.C_below ah.out HB.out)); (case aB => exact (bf HB.out)); (case aF => exact (fun _ _ => trivial)); (case aO => exact (kr a8.out)); (case aS => exact (below_size (bf HB.out))); (case aL => have := ai.out; omega); intro v232 w9 ho hb hg hat; rw [← aj.out] at ho; refine Ya4 (blk_grown (g := ak) (o := .cells #[.slice a6 a0.length a7] 25 (0, 0)) (bk a1.out) hg (Kd.R_ne a8.out a1.out (by decide))) (blk_grown (g := aa) (o := .cells #[.slice none 0 0] 25 (0, 0)) (bk a3.out) hg (Kd.R_ne a8.out a3.out (by decide))) (hb) (ho) ?_; clear a1 a3 HB a8; intro a1 a3 HB ae; clear ho hb hg hat; obtain ⟨af, ag, ao⟩ := Kd.R_slice ae.out; subst ao; have ⟨ar, au⟩ := Yc1 a3.out))
  refine bodyPost_ret (results_cell_row rfl _ _ aa 25 #[.slice af a9.length ag] (0, 0) _ rfl (bp a3.out) Tryd.underlying25 rfl (by kernel_rfl)) rfl ?_; exact ⟨_, Ye2, by (with_reducible repeat (first | apply Kd.R_alloc | apply Kd.R_drewN | apply Kd.R_drew)); exact Kd.R_mono (Kd.R_far (p := ⟨aa, 0, none⟩) (Kd.R_types ae.out a3.out (by decide)) (fun _ hk => hk.2) (.slice af a9.length ag)) (fun _ hk => trivial), (bf HB.out)⟩
 ·rw [if_neg c2] at H
  exact absurd H (by simp)

end Go.Proofs.YtknagppkeodggaaDoor.P

