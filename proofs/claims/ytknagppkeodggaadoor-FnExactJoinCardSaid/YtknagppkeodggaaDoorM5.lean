/- Several texts of this claim in one file: YtknagppkeodggaaDoorPLawsChange, YtknagppkeodggaaDoorPLawsPatch, YtknagppkeodggaaDoorPSpecL6Change, YtknagppkeodggaaDoorPSpecL6Name, YtknagppkeodggaaDoorPSpecL6FileOk, YtknagppkeodggaaDoorPSpecL1In, YtknagppkeodggaaDoorPSpecL4PartOk, YtknagppkeodggaaDoorPSpecL4Parts, YtknagppkeodggaaDoorPSpecL4Ok, YtknagppkeodggaaDoorPSpecValidPath, YtknagppkeodggaaDoorPSpecValidPatch. -/
import Derived.Test.YtknagppkeodggaaDoorM2
import Derived.Test.YtknagppkeodggaaDoorM3
import Derived.Test.YtknagppkeodggaaDoorM4
namespace Go.Proofs.YtknagppkeodggaaDoor.P
open Go.RowKit Go.Proofs.YtknagppkeodggaaDoorW.PrintWords Go.Proofs.YtknagppkeodggaaDoorW.PrintLast Go.Proofs.YtknagppkeodggaaDoorW.PrintMore
attribute [local go_sem] max2_int min2_int max_two min_two max_three min_three max_four min_four
set_option linter.unusedVariables false
set_option linter.unusedSimpArgs false

/-! ### laws_szChange: function 151 -/
def laws_szChange.f (a0_0 : ByteArray) (a0_1 : Bool) (a0_2 : ByteArray) (a0_3 : Bool) (a0_4 : Bool) (a0_5 : ByteArray) (a0_6 : Bool) (a1 : Int) : Option (Int) := if (wrap64 (a1 - (a0_0.size : Int))) < 0 then (some (-1)) else ((laws_szFile.f a0_1 a0_2 a0_3 (wrap64 (a1 - (a0_0.size : Int)))).bind fun ab => (if ab < 0 then (some (-1)) else ((laws_szFile.f a0_4 a0_5 a0_6 ab).bind fun ae => (if ae < 0 then (some (-1)) else (some ae)))))
set_option maxHeartbeats 8000000 in
set_option maxRecDepth 100000 in
theorem laws_szChange.calls (a0_0 : ByteArray) (a0_1 : Bool) (a0_2 : ByteArray) (a0_3 : Bool) (a0_4 : Bool) (a0_5 : ByteArray) (a0_6 : Bool) (a1 : Int) (r : Int) (w : World) (h : laws_szChange.f a0_0 a0_1 a0_2 a0_3 a0_4 a0_5 a0_6 a1 = some r) :
  Calls Tryd.prog 151 #[.agg #[.string a0_0, .bool a0_1, .string a0_2, .bool a0_3, .bool a0_4, .string a0_5, .bool a0_6], .int .i64 a1] w fun e w' => e = .returned (.int .i64 r) ∧ Below w.heap.size w w' := by
 have hu183 := Tryd.underlying183; have hu181 := Tryd.underlying181; have HB := Aside0.mk (Below.refl w.heap.size w); have H : (if (wrap64 (a1 - (a0_0.size : Int))) < 0 then (some (-1)) else ((laws_szFile.f a0_1 a0_2 a0_3 (wrap64 (a1 - (a0_0.size : Int)))).bind fun ab => (if ab < 0 then (some (-1)) else ((laws_szFile.f a0_4 a0_5 a0_6 ab).bind fun ae => (if ae < 0 then (some (-1)) else (some ae)))))) = some r := h; clear h
 by_cases c3 : (wrap64 (a1 - (a0_0.size : Int))) < 0
 ·rw [if_pos c3] at H
  have ah : decide ((wrap64 (a1 - (a0_0.size : Int))) < 0) = true := decide_eq_true c3; clear c3; obtain rfl := Option.some.inj H
  go_enter Tryd.func151, Tryd.ntmps151
  go_wp2_with (first | ((with_reducible refine gd 2 rfl ?_); refine bx 2 183 (#[.string a0_0, .bool a0_1, .string a0_2, .bool a0_3, .bool a0_4, .string a0_5, .bool a0_6]) ?_; intro b5 hg w4 hbox hb; refine Ya4 (below_step (be HB.out) hb) (hbox) (bs hg (be HB.out)) (bs hg (be HB.out)) ?_; clear HB; intro HB a7 b6 b7; clear hb hbox hg; have ⟨dE, dF, dG, dH, dI, dJ, dK, dL, dM, dN, dO, dP, dQ, dR⟩ := Yc7 a7.out))
  go_ret
  exact ⟨Ye2, (bf HB.out)⟩
 ·rw [if_neg c3] at H
  have ah : decide ((wrap64 (a1 - (a0_0.size : Int))) < 0) = false := decide_eq_false c3; clear c3; replace H := Option.bind_eq_some_iff.mp H; obtain ⟨ab, aB, H⟩ := H; replace H : (if ab < 0 then (some (-1)) else ((laws_szFile.f a0_4 a0_5 a0_6 ab).bind fun ae => (if ae < 0 then (some (-1)) else (some ae)))) = some r := H; have A6 := Aside0.mk aB; clear aB
  by_cases c7 : ab < 0
  ·rw [if_pos c7] at H
   have b3 : decide (ab < 0) = true := decide_eq_true c7; clear c7; obtain rfl := Option.some.inj H
   go_enter Tryd.func151, Tryd.ntmps151
   go_wp2_with (first | ((with_reducible refine gd 2 rfl ?_); refine bx 2 183 (#[.string a0_0, .bool a0_1, .string a0_2, .bool a0_3, .bool a0_4, .string a0_5, .bool a0_6]) ?_; intro b5 hg w8 hbox hb; refine Ya4 (below_step (be HB.out) hb) (hbox) (bs hg (be HB.out)) (bs hg (be HB.out)) ?_; clear HB; intro HB a7 b6 b7; clear hb hbox hg; have ⟨cc, cd, ce, cf, cg, ch, ci, cj, ck, cl, cm, cn, co, cp⟩ := Yc7 a7.out) | ((with_reducible refine gc 184 rfl ?_); refine gl (some 15) _ (#[.agg #[.bool a0_1, .string a0_2, .bool a0_3], .int .i64 (wrap64 (a1 - (a0_0.size : Int)))]) Tryd.func184 ?_; (with_reducible refine (laws_szFile.calls a0_1 a0_2 a0_3 (wrap64 (a1 - (a0_0.size : Int))) ab _ A6.out).mono ?_); rintro e w10 ⟨rfl, hb⟩; refine ⟨_, rfl, ?_⟩; refine Ya2 (bb a7 hb) (below_step (bf HB.out) hb) ?_; clear a7 HB; intro a7 HB; (try clear hb); (try clear hb2); (try clear hk); (try clear hi)))
   go_ret
   exact ⟨Ye2, (bf HB.out)⟩
  ·rw [if_neg c7] at H
   have b3 : decide (ab < 0) = false := decide_eq_false c7; clear c7; replace H := Option.bind_eq_some_iff.mp H; obtain ⟨ae, bD, H⟩ := H; replace H : (if ae < 0 then (some (-1)) else (some ae)) = some r := H; have A11 := Aside0.mk bD; clear bD
   by_cases aU : ae < 0
   ·rw [if_pos aU] at H
    have cq : decide (ae < 0) = true := decide_eq_true aU; clear aU; obtain rfl := Option.some.inj H
    go_enter Tryd.func151, Tryd.ntmps151
    go_wp2_with (first | ((with_reducible refine gd 2 rfl ?_); refine bx 2 183 (#[.string a0_0, .bool a0_1, .string a0_2, .bool a0_3, .bool a0_4, .string a0_5, .bool a0_6]) ?_; intro b5 hg aX hbox hb; refine Ya4 (below_step (be HB.out) hb) (hbox) (bs hg (be HB.out)) (bs hg (be HB.out)) ?_; clear HB; intro HB a7 b6 b7; clear hb hbox hg; have ⟨bE, bF, bG, bH, bI, bJ, bK, bL, bM, bN, bO, bP, bQ, bR⟩ := Yc7 a7.out) | ((with_reducible refine gc 184 rfl ?_); refine gl (some 15) _ (#[.agg #[.bool a0_1, .string a0_2, .bool a0_3], .int .i64 (wrap64 (a1 - (a0_0.size : Int)))]) Tryd.func184 ?_; (with_reducible refine (laws_szFile.calls a0_1 a0_2 a0_3 (wrap64 (a1 - (a0_0.size : Int))) ab _ A6.out).mono ?_); rintro e w15 ⟨rfl, hb⟩; refine ⟨_, rfl, ?_⟩; refine Ya2 (bb a7 hb) (below_step (bf HB.out) hb) ?_; clear a7 HB; intro a7 HB; (try clear hb); (try clear hb2); (try clear hk); (try clear hi); have ⟨cr, cs, ct, cu, cv, cx, cy, cz, cA, cB, cC, cD, cE, cF⟩ := Yc7 a7.out) | ((with_reducible refine gc 184 rfl ?_); refine gl (some 21) _ (#[.agg #[.bool a0_4, .string a0_5, .bool a0_6], .int .i64 ab]) Tryd.func184 ?_; (with_reducible refine (laws_szFile.calls a0_4 a0_5 a0_6 ab ae _ A11.out).mono ?_); rintro e w17 ⟨rfl, hb⟩; refine ⟨_, rfl, ?_⟩; refine Ya2 (bb a7 hb) (below_step (bf HB.out) hb) ?_; clear a7 HB; intro a7 HB; (try clear hb); (try clear hb2); (try clear hk); (try clear hi)))
    go_ret
    exact ⟨Ye2, (bf HB.out)⟩
   ·rw [if_neg aU] at H
    have cq : decide (ae < 0) = false := decide_eq_false aU; clear aU; obtain rfl := Option.some.inj H
    go_enter Tryd.func151, Tryd.ntmps151
    go_wp2_with (first | ((with_reducible refine gd 2 rfl ?_); refine bx 2 183 (#[.string a0_0, .bool a0_1, .string a0_2, .bool a0_3, .bool a0_4, .string a0_5, .bool a0_6]) ?_; intro b5 hg w18 hbox hb; refine Ya4 (below_step (be HB.out) hb) (hbox) (bs hg (be HB.out)) (bs hg (be HB.out)) ?_; clear HB; intro HB a7 b6 b7; clear hb hbox hg; have ⟨dS, dT, dU, dV, dW, dX, dY, dZ, e0, e1, e2, e3, e4, e5⟩ := Yc7 a7.out) | ((with_reducible refine gc 184 rfl ?_); refine gl (some 15) _ (#[.agg #[.bool a0_1, .string a0_2, .bool a0_3], .int .i64 (wrap64 (a1 - (a0_0.size : Int)))]) Tryd.func184 ?_; (with_reducible refine (laws_szFile.calls a0_1 a0_2 a0_3 (wrap64 (a1 - (a0_0.size : Int))) ab _ A6.out).mono ?_); rintro e w20 ⟨rfl, hb⟩; refine ⟨_, rfl, ?_⟩; refine Ya2 (bb a7 hb) (below_step (bf HB.out) hb) ?_; clear a7 HB; intro a7 HB; (try clear hb); (try clear hb2); (try clear hk); (try clear hi); have ⟨cG, cH, cI, cJ, cK, cL, cM, cN, cO, cP, cQ, cR, cS, cT⟩ := Yc7 a7.out) | ((with_reducible refine gc 184 rfl ?_); refine gl (some 21) _ (#[.agg #[.bool a0_4, .string a0_5, .bool a0_6], .int .i64 ab]) Tryd.func184 ?_; (with_reducible refine (laws_szFile.calls a0_4 a0_5 a0_6 ab ae _ A11.out).mono ?_); rintro e w22 ⟨rfl, hb⟩; refine ⟨_, rfl, ?_⟩; refine Ya2 (bb a7 hb) (below_step (bf HB.out) hb) ?_; clear a7 HB; intro a7 HB; (try clear hb); (try clear hb2); (try clear hk); (try clear hi)))
    go_ret
    exact ⟨Ye2, (bf HB.out)⟩

/-! ### laws_szChangeS: function 88 -/
def laws_szChangeS.l0 : Nat → List (S183) → Int → Int → Option (Int)
 | 0, _, _, _ => none
 | k + 1, x0, x1, x5 => if x5 < (x0.length : Int) then (if 0 ≤ x5 then ((laws_szChange.f ((rd_T183 x0 x5).f0) ((rd_T183 x0 x5).f1.f0) ((rd_T183 x0 x5).f1.f1) ((rd_T183 x0 x5).f1.f2) ((rd_T183 x0 x5).f2.f0) ((rd_T183 x0 x5).f2.f1) ((rd_T183 x0 x5).f2.f2) x1).bind fun ai => (if ai < 0 then (some (-1)) else (laws_szChangeS.l0 k x0 ai (wrap64 (x5 + 1))))) else (none)) else (some x1)
def laws_szChangeS.f (k : Nat) (l0 : List (S183)) (a1 : Int) : Option (Int) := if (wrap64 (a1 - (l0.length : Int))) < 0 then (some (-1)) else (laws_szChangeS.l0 k l0 (wrap64 (a1 - (l0.length : Int))) 0)
theorem laws_szChangeS.mono_l : ∀ k, (∀ y0 y1 y2, LeO (laws_szChangeS.l0 k y0 y1 y2) (laws_szChangeS.l0 (k + 1) y0 y1 y2))
 | 0 => fun _ _ _ r h => by simp [laws_szChangeS.l0] at h
 | k + 1 => by
  have ih0 := laws_szChangeS.mono_l k
  ·intro y0 y1 y2
   unfold laws_szChangeS.l0
   repeat' first
   | (with_reducible exact ih0 _ _ _)
   | (with_reducible exact LeO.refl _)
   | (with_reducible exact LeO.none _)
   | (with_reducible refine LeO.ite ?_ ?_)
   | (with_reducible refine LeO.bind ?_ (fun _ => ?_))
   | exact ih0 _ _ _
   | exact LeO.none _
   | refine LeO.ite ?_ ?_
   | refine LeO.bind ?_ (fun _ => ?_)
theorem laws_szChangeS.mono : ∀ a0 a1 k, LeO (laws_szChangeS.f k a0 a1) (laws_szChangeS.f (k + 1) a0 a1) := by
 intro a0 a1 k; have ih0 := laws_szChangeS.mono_l k
 unfold laws_szChangeS.f
 repeat' first
   | (with_reducible exact ih0 _ _ _)
   | (with_reducible exact LeO.refl _)
   | (with_reducible exact LeO.none _)
   | (with_reducible refine LeO.ite ?_ ?_)
   | (with_reducible refine LeO.bind ?_ (fun _ => ?_))
   | exact ih0 _ _ _
   | exact LeO.none _
   | refine LeO.ite ?_ ?_
   | refine LeO.bind ?_ (fun _ => ?_)
set_option maxHeartbeats 8000000 in
set_option maxRecDepth 100000 in
theorem laws_szChangeS.calls (k : Nat) (A0 : Option Addr) (c0 : Nat) (l0 : List (S183)) (a1 : Int) (r : Int) (w : World) (hr0 : Kd.C k183 w A0 l0.length l0) (hc0 : l0.length ≤ c0) (h : laws_szChangeS.f k l0 a1 = some r) :
  Calls Tryd.prog 88 #[.slice A0 l0.length c0, .int .i64 a1] w fun e w' => e = .returned (.int .i64 r) ∧ Below w.heap.size w w' := by
 have hu183 := Tryd.underlying183; have aC := Aside0.mk hr0; have HC0 := Aside0.mk hc0; clear hr0 hc0; have HB := Aside0.mk (Below.refl w.heap.size w); have H : (if (wrap64 (a1 - (l0.length : Int))) < 0 then (some (-1)) else (laws_szChangeS.l0 k l0 (wrap64 (a1 - (l0.length : Int))) 0)) = some r := h; clear h
 by_cases c3 : (wrap64 (a1 - (l0.length : Int))) < 0
 ·rw [if_pos c3] at H
  have ah : decide ((wrap64 (a1 - (l0.length : Int))) < 0) = true := decide_eq_true c3; clear c3; obtain rfl := Option.some.inj H
  go_enter Tryd.func88, Tryd.ntmps88
  go_wp2
  go_ret
  exact ⟨Ye2, be HB.out⟩
 ·rw [if_neg c3] at H
  have ah : decide ((wrap64 (a1 - (l0.length : Int))) < 0) = false := decide_eq_false c3; clear c3; have H' := Aside0.mk H; clear H
  go_enter Tryd.func88, Tryd.ntmps88
  go_wp2
  go_loopg [1, 5] k (fun kq v1 v5 w' => ∃ (aD : Int) (a2 : Int), v1 = .int .i64 aD ∧ v5 = .int .i64 a2 ∧ Aside0 (laws_szChangeS.l0 kq l0 aD a2 = some r) ∧ Aside0 (kq ≤ k) ∧ Aside0 (Below w.heap.size w w'))
  case atStart => exact ⟨(wrap64 (a1 - (l0.length : Int))), (0), Ye1, Ye1, H', ⟨Nat.le_refl _⟩, ⟨be HB.out⟩⟩
  case round =>
   clear H'; (try clear p2); (try clear c3); (try clear ah); obtain ⟨aD, a2, rfl, rfl, HA, HK1, HB⟩ := hrel
   cases gk with
   | zero => exact absurd HA.out (by simp [laws_szChangeS.l0])
   | succ k1 =>
    have H := HA.out; clear HA; simp only [laws_szChangeS.l0] at H
    by_cases c4 : a2 < (l0.length : Int)
    ·rw [if_pos c4] at H
     have b8 : decide (a2 < (l0.length : Int)) = true := decide_eq_true c4; clear c4
     by_cases c5 : 0 ≤ a2
     ·rw [if_pos c5] at H
      have cU : decide (0 ≤ a2) = true := decide_eq_true c5; clear c5; replace H := Option.bind_eq_some_iff.mp H; obtain ⟨ai, aB, H⟩ := H; replace H : (if ai < 0 then (some (-1)) else (laws_szChangeS.l0 k1 l0 ai (wrap64 (a2 + 1)))) = some r := H; have A6 := Aside0.mk aB; clear aB
      by_cases c7 : ai < 0
      ·rw [if_pos c7] at H
       have b3 : decide (ai < 0) = true := decide_eq_true c7; clear c7; obtain rfl := Option.some.inj H; have aE : 0 ≤ (a2 : Int) := oda; have aF : a2 < (l0.length : Int) := oda; obtain ⟨cV, b9, cW, cX, cY, cZ, d0, d1, d2⟩ := at_T183 (Kd.C_below aC.out HB.out) a2 aE aF
       cases b9
       replace aE := eq_true aE; replace aF := eq_true aF
       go_wp2_with (first | ((with_reducible refine gc 151 rfl ?_); refine gl (some 23) _ (#[.agg #[.string ((rd_T183 l0 a2).f0), .bool ((rd_T183 l0 a2).f1.f0), .string ((rd_T183 l0 a2).f1.f1), .bool ((rd_T183 l0 a2).f1.f2), .bool ((rd_T183 l0 a2).f2.f0), .string ((rd_T183 l0 a2).f2.f1), .bool ((rd_T183 l0 a2).f2.f2)], .int .i64 aD]) Tryd.func151 ?_; (with_reducible refine (laws_szChange.calls ((rd_T183 l0 a2).f0) ((rd_T183 l0 a2).f1.f0) ((rd_T183 l0 a2).f1.f1) ((rd_T183 l0 a2).f1.f2) ((rd_T183 l0 a2).f2.f0) ((rd_T183 l0 a2).f2.f1) ((rd_T183 l0 a2).f2.f2) aD ai _ A6.out).mono ?_); rintro e w8 ⟨rfl, hb⟩; refine ⟨_, rfl, ?_⟩; refine Ya1 (below_step (be HB.out) hb) ?_; clear HB; intro HB; (try clear hb); (try clear hb2); (try clear hk); (try clear hi)))
       go_ret
       exact ⟨Ye2, be HB.out⟩
      ·rw [if_neg c7] at H
       have b3 : decide (ai < 0) = false := decide_eq_false c7; clear c7; have H' := Aside0.mk H; clear H; have aE : 0 ≤ (a2 : Int) := oda; have aF : a2 < (l0.length : Int) := oda; obtain ⟨cV, b9, cW, cX, cY, cZ, d0, d1, d2⟩ := at_T183 (Kd.C_below aC.out HB.out) a2 aE aF
       cases b9
       replace aE := eq_true aE; replace aF := eq_true aF
       go_wp2_with (first | ((with_reducible refine gc 151 rfl ?_); refine gl (some 23) _ (#[.agg #[.string ((rd_T183 l0 a2).f0), .bool ((rd_T183 l0 a2).f1.f0), .string ((rd_T183 l0 a2).f1.f1), .bool ((rd_T183 l0 a2).f1.f2), .bool ((rd_T183 l0 a2).f2.f0), .string ((rd_T183 l0 a2).f2.f1), .bool ((rd_T183 l0 a2).f2.f2)], .int .i64 aD]) Tryd.func151 ?_; (with_reducible refine (laws_szChange.calls ((rd_T183 l0 a2).f0) ((rd_T183 l0 a2).f1.f0) ((rd_T183 l0 a2).f1.f1) ((rd_T183 l0 a2).f1.f2) ((rd_T183 l0 a2).f2.f0) ((rd_T183 l0 a2).f2.f1) ((rd_T183 l0 a2).f2.f2) aD ai _ A6.out).mono ?_); rintro e w9 ⟨rfl, hb⟩; refine ⟨_, rfl, ?_⟩; refine Ya1 (below_step (be HB.out) hb) ?_; clear HB; intro HB; (try clear hb); (try clear hb2); (try clear hk); (try clear hi)))
       go_roundg k1
       case measure => have := HK1.out; omega
       case rel => exact ⟨(ai), (wrap64 (a2 + 1)), Ye1, Ye1, H', ⟨by have := HK1.out; omega⟩, ⟨be HB.out⟩⟩
     ·rw [if_neg c5] at H
      exact absurd H (by simp)
    ·rw [if_neg c4] at H
     have b8 : decide (a2 < (l0.length : Int)) = false := decide_eq_false c4; clear c4; obtain rfl := Option.some.inj H
     go_wp2
     go_ret
     exact ⟨Ye2, be HB.out⟩

/-! ### laws_toChange: function 153 -/
def laws_toChange.f (a0_0 : ByteArray) (a0_1 : Bool) (a0_2 : ByteArray) (a0_3 : Bool) (a0_4 : Bool) (a0_5 : ByteArray) (a0_6 : Bool) : Option (ByteArray × Bool × ByteArray × Bool × Bool × ByteArray × Bool) := (laws_toFile.f a0_1 a0_2 a0_3).bind fun bt740 => ((laws_toFile.f a0_4 a0_5 a0_6).bind fun bt743 => (some (a0_0, bt740.1, bt740.2.1, bt740.2.2, bt743.1, bt743.2.1, bt743.2.2)))
set_option maxHeartbeats 8000000 in
set_option maxRecDepth 100000 in
theorem laws_toChange.calls (a0_0 : ByteArray) (a0_1 : Bool) (a0_2 : ByteArray) (a0_3 : Bool) (a0_4 : Bool) (a0_5 : ByteArray) (a0_6 : Bool) (r1 : ByteArray) (r2 : Bool) (r3 : ByteArray) (r4 : Bool) (r5 : Bool) (r6 : ByteArray) (r7 : Bool) (w : World) (h : laws_toChange.f a0_0 a0_1 a0_2 a0_3 a0_4 a0_5 a0_6 = some (r1, r2, r3, r4, r5, r6, r7)) :
  Calls Tryd.prog 153 #[.agg #[.string a0_0, .bool a0_1, .string a0_2, .bool a0_3, .bool a0_4, .string a0_5, .bool a0_6]] w fun e w' => e = .returned (.agg #[.string r1, .bool r2, .string r3, .bool r4, .bool r5, .string r6, .bool r7]) ∧ Below w.heap.size w w' := by
 have hu183 := Tryd.underlying183; have hu120 := Tryd.underlying120; have hu181 := Tryd.underlying181; have hu118 := Tryd.underlying118; have HB := Aside0.mk (Below.refl w.heap.size w); have H : ((laws_toFile.f a0_1 a0_2 a0_3).bind fun bt740 => ((laws_toFile.f a0_4 a0_5 a0_6).bind fun bt743 => (some (a0_0, bt740.1, bt740.2.1, bt740.2.2, bt743.1, bt743.2.1, bt743.2.2)))) = some (r1, r2, r3, r4, r5, r6, r7) := h; clear h; replace H := Option.bind_eq_some_iff.mp H; obtain ⟨⟨aY, aZ, b0⟩, A20, H⟩ := H; replace H : ((laws_toFile.f a0_4 a0_5 a0_6).bind fun bt743 => (some (a0_0, aY, aZ, b0, bt743.1, bt743.2.1, bt743.2.2))) = some (r1, r2, r3, r4, r5, r6, r7) := H; have A2 := Aside0.mk A20; clear A20; replace H := Option.bind_eq_some_iff.mp H; obtain ⟨⟨ba, bd, bg⟩, A30, H⟩ := H; replace H : (some (a0_0, aY, aZ, b0, ba, bd, bg)) = some (r1, r2, r3, r4, r5, r6, r7) := H; have A3 := Aside0.mk A30; clear A30; simp only [Option.some.injEq, Prod.mk.injEq] at H; obtain ⟨rfl, rfl, rfl, rfl, rfl, rfl, rfl⟩ := H
 go_enter Tryd.func153, Tryd.ntmps153
 go_wp2_with (first | ((with_reducible refine gd 1 rfl ?_); refine bx 1 183 (#[.string a0_0, .bool a0_1, .string a0_2, .bool a0_3, .bool a0_4, .string a0_5, .bool a0_6]) ?_; intro gb737 hg w4 hbox hb; refine Ya4 (below_step (be HB.out) hb) (hbox) (bs hg (be HB.out)) (bs hg (be HB.out)) ?_; clear HB; intro HB ac GW737 GE737; clear hb hbox hg) | ((with_reducible refine gd 2 rfl ?_); refine bx 2 120 (#[.string (⟨#[]⟩ : ByteArray), .bool false, .string (⟨#[]⟩ : ByteArray), .bool false, .bool false, .string (⟨#[]⟩ : ByteArray), .bool false]) ?_; intro d3 hg w5 hbox hb; refine Ya7 (bb ac hb) (below_step (bf HB.out) hb) (hbox) (bs hg (bf HB.out)) (bs hg (bf HB.out)) (bl hg ac) (br hg ac) ?_; clear ac HB; intro ac HB af GW738 GE738 d4 d5; clear hb hbox hg) | ((with_reducible refine gd 3 rfl ?_); refine bx 3 120 (#[.string (⟨#[]⟩ : ByteArray), .bool false, .string (⟨#[]⟩ : ByteArray), .bool false, .bool false, .string (⟨#[]⟩ : ByteArray), .bool false]) ?_; intro bS hg w6 hbox hb; refine Ya10 (bb ac hb) (bb af hb) (below_step (bf HB.out) hb) (hbox) (bs hg (bf HB.out)) (bs hg (bf HB.out)) (bl hg ac) (br hg ac) (bl hg af) (br hg af) ?_; clear ac af HB; intro ac af HB ak GW739 GE739 bh d6 bi d7; clear hb hbox hg; have hnb7 := d4.out; have hnc7 := d5.out; have hnb8 := bh.out; have hnc8 := d6.out; have ⟨cc, cd, ce, cf, cg, ch, ci, cj, ck, cl, cm, cn, co, cp⟩ := Yc7 ac.out; have d8 := d7.out; have d9 := bi.out; have ⟨da, db, dc, dd, de, df, dg, dh, di, dj, dk, dl, dm, dn⟩ := Yc7 ak.out) | ((with_reducible refine gc 185 rfl ?_); refine gl (some 9) _ (#[.agg #[.bool a0_1, .string a0_2, .bool a0_3]]) Tryd.func185 ?_; (with_reducible refine (laws_toFile.calls a0_1 a0_2 a0_3 aY aZ b0 _ A2.out).mono ?_); rintro e w12 ⟨rfl, hb⟩; refine ⟨_, rfl, ?_⟩; refine Ya4 (bbf ac bh hb) (bbf af bi hb) (blk_below (g := bS) (o := .cells #[.string a0_0, .bool false, .string (⟨#[]⟩ : ByteArray), .bool false, .bool false, .string (⟨#[]⟩ : ByteArray), .bool false] 120 (0, 0)) (bp ak.out) hb) (below_step (bf HB.out) hb) ?_; clear ac af ak HB; intro ac af ak HB; (try clear hb); (try clear hb2); (try clear hk); (try clear hi); have ⟨e6, e7, e8, e9, ea, eb, ec, ed, ee, ef, eg, eh, ei, ej⟩ := Yc7 ak.out; have ⟨bE, bF, bG, bH, bI, bJ, bK, bL, bM, bN, bO, bP, bQ, bR⟩ := Yc7 ac.out) | ((with_reducible refine gc 185 rfl ?_); refine gl (some 13) _ (#[.agg #[.bool a0_4, .string a0_5, .bool a0_6]]) Tryd.func185 ?_; (with_reducible refine (laws_toFile.calls a0_4 a0_5 a0_6 ba bd bg _ A3.out).mono ?_); rintro e w15 ⟨rfl, hb⟩; refine ⟨_, rfl, ?_⟩; refine Ya4 (bbf ac bh hb) (bbf af bi hb) (blk_below (g := bS) (o := .cells #[.string a0_0, .bool aY, .string aZ, .bool b0, .bool false, .string (⟨#[]⟩ : ByteArray), .bool false] 120 (0, 0)) (bp ak.out) hb) (below_step (bf HB.out) hb) ?_; clear ac af ak HB; intro ac af ak HB; (try clear hb); (try clear hb2); (try clear hk); (try clear hi); have ⟨cr, cs, ct, cu, cv, cx, cy, cz, cA, cB, cC, cD, cE, cF⟩ := Yc7 ak.out; have ⟨ek, el, em, en, eo, ep, eq, er, es, et, eu, ev, ew, ex⟩ := Yc7 af.out))
 refine bodyPost_ret (results_cell_row rfl _ _ d3 120 #[.string a0_0, .bool aY, .string aZ, .bool b0, .bool ba, .string bd, .bool bg] (0, 0) _ rfl (bp af.out) Tryd.underlying120 rfl (by kernel_rfl)) rfl ?_; exact ⟨Ye2, (bf HB.out)⟩

/-! ### laws_toChangeS: function 92 -/
def laws_toChangeS.l0 : Nat → List (S183) → List (S120) → Int → Option ((List (S120)))
 | 0, _, _, _ => none
 | k + 1, x0, x3, x4 => if x4 < (x0.length : Int) then (if 0 ≤ x4 then ((laws_toChange.f ((rd_T183 x0 x4).f0) ((rd_T183 x0 x4).f1.f0) ((rd_T183 x0 x4).f1.f1) ((rd_T183 x0 x4).f1.f2) ((rd_T183 x0 x4).f2.f0) ((rd_T183 x0 x4).f2.f1) ((rd_T183 x0 x4).f2.f2)).bind fun bt750 => (if x4 < (x3.length : Int) then (laws_toChangeS.l0 k x0 (x3.set (x4 : Int).toNat (⟨bt750.1, (⟨bt750.2.1, bt750.2.2.1, bt750.2.2.2.1⟩ : S118), (⟨bt750.2.2.2.2.1, bt750.2.2.2.2.2.1, bt750.2.2.2.2.2.2⟩ : S118)⟩ : S120)) (wrap64 (x4 + 1))) else (none))) else (none)) else (some x3)
def laws_toChangeS.f (k : Nat) (l0 : List (S183)) : Option ((List (S120))) := if 0 ≤ (l0.length : Int) then (if ((l0.length : Int) : Int).toNat ≤ 3518437208883 then (laws_toChangeS.l0 k l0 (List.replicate ((l0.length : Int) : Int).toNat z120) 0) else (none)) else (none)
theorem laws_toChangeS.mono_l : ∀ k, (∀ y0 y1 y2, LeO (laws_toChangeS.l0 k y0 y1 y2) (laws_toChangeS.l0 (k + 1) y0 y1 y2))
 | 0 => fun _ _ _ r h => by simp [laws_toChangeS.l0] at h
 | k + 1 => by
  have ih0 := laws_toChangeS.mono_l k
  ·intro y0 y1 y2
   unfold laws_toChangeS.l0
   repeat' first
   | (with_reducible exact ih0 _ _ _)
   | (with_reducible exact LeO.refl _)
   | (with_reducible exact LeO.none _)
   | (with_reducible refine LeO.ite ?_ ?_)
   | (with_reducible refine LeO.bind ?_ (fun _ => ?_))
   | exact ih0 _ _ _
   | exact LeO.none _
   | refine LeO.ite ?_ ?_
   | refine LeO.bind ?_ (fun _ => ?_)
theorem laws_toChangeS.mono : ∀ a0 k, LeO (laws_toChangeS.f k a0) (laws_toChangeS.f (k + 1) a0) := by
 intro a0 k; have ih0 := laws_toChangeS.mono_l k
 unfold laws_toChangeS.f
 repeat' first
   | (with_reducible exact ih0 _ _ _)
   | (with_reducible exact LeO.refl _)
   | (with_reducible exact LeO.none _)
   | (with_reducible refine LeO.ite ?_ ?_)
   | (with_reducible refine LeO.bind ?_ (fun _ => ?_))
   | exact ih0 _ _ _
   | exact LeO.none _
   | refine LeO.ite ?_ ?_
   | refine LeO.bind ?_ (fun _ => ?_)
set_option maxHeartbeats 8000000 in
set_option maxRecDepth 100000 in
theorem laws_toChangeS.calls (k : Nat) (A0 : Option Addr) (c0 : Nat) (l0 : List (S183)) (r : List (S120)) (w : World) (hr0 : Kd.C k183 w A0 l0.length l0) (hc0 : l0.length ≤ c0) (h : laws_toChangeS.f k l0 = some r) :
  Calls Tryd.prog 92 #[.slice A0 l0.length c0] w fun e w' => ∃ v0_ : Value, e = .returned (v0_) ∧ Kd.R k120 120 w' w.heap.size (fun _ => True) v0_ r ∧ Below w.heap.size w w' := by
 have hu183 := Tryd.underlying183; have hu120 := Tryd.underlying120; have aC := Aside0.mk hr0; have HC0 := Aside0.mk hc0; clear hr0 hc0; have HB := Aside0.mk (Below.refl w.heap.size w); have H : (if 0 ≤ (l0.length : Int) then (if ((l0.length : Int) : Int).toNat ≤ 3518437208883 then (laws_toChangeS.l0 k l0 (List.replicate ((l0.length : Int) : Int).toNat z120) 0) else (none)) else (none)) = some r := h; clear h
 by_cases c2 : 0 ≤ (l0.length : Int)
 ·rw [if_pos c2] at H
  have dp := eq_true c2; have dq : decide (0 ≤ (l0.length : Int)) = true := decide_eq_true c2; clear c2
  by_cases c3 : ((l0.length : Int) : Int).toNat ≤ 3518437208883
  ·rw [if_pos c3] at H
   have ah := eq_true c3; have aV : decide (((l0.length : Int) : Int).toNat ≤ 3518437208883) = true := decide_eq_true c3; clear c3
   obtain ⟨bT, b1⟩ : ∃ y_ : List (S120), y_ = (List.replicate ((l0.length : Int) : Int).toNat z120) := ⟨_, rfl⟩
   replace H : (laws_toChangeS.l0 k l0 bT 0) = some r := by first | (rw [b1]; with_reducible exact H) | (have H2_ := (Option.bind_some _ _).symm.trans H; rw [b1]; with_reducible exact H2_) | (have H2_ := (Option.bind_some _ _).symm.trans H; with_reducible exact H2_) | with_reducible exact H | (rw [b1]; exact H) | exact H
   have bU := Aside0.mk b1; clear b1; have H' := Aside0.mk H; clear H
   go_enter Tryd.func92, Tryd.ntmps92
   go_wp2_with (first | ((with_reducible refine gd 7 rfl ?_); refine Kd.R_make k120 _ 120 rfl (N := 7) rfl 50 _ _ rfl (l0.length : Int) rfl rfl Tryd.underlying50 (.agg #[(.string ⟨#[]⟩), (.bool false), (.string ⟨#[]⟩), (.bool false), (.bool false), (.string ⟨#[]⟩), (.bool false)]) 80 info120 rfl (by decide) (by omega) z120 (ok := fun _ => True) (okp := fun _ => True) (k120_mkM _ _ _ z120 ) (fun _ hk => hk) trivial (oda) (Nat.le_trans (Nat.mul_le_mul_right _ (oda : (l0.length : Int).toNat ≤ 3518437208883)) (by omega)) (Below.refl _ _) (Nat.le_refl _) ?_; intro dr w4 ho5 hb hg_ hnew_; clear hg_ hnew_; (first | rw [← bU.out] at ho5 | (simp only [Int.reduceToNat] at ho5; rw [← bU.out] at ho5)); refine Ya2 (Kd.R_lower ho5 (below_size (be HB.out))) (below_step (be HB.out) hb) ?_; clear HB; intro dt HB; clear hb ho5))
   go_loopg [4] k (fun kq v4 w' => ∃ (aa : List (S120)) (a3 : Int), v4 = .int .i64 a3 ∧ Aside0 (laws_toChangeS.l0 kq l0 aa a3 = some r) ∧ Aside0 (kq ≤ k) ∧ Aside0 (Kd.R k120 120 w' w.heap.size (fun _ => True) dr aa) ∧ Aside0 (Below w.heap.size w w'))
   case atStart => exact ⟨(bT), (0), Ye1, H', ⟨Nat.le_refl _⟩, ⟨kr dt.out⟩, ⟨be HB.out⟩⟩
   case round =>
    clear H'; (try clear c2); (try clear dp); (try clear dq); (try clear p2); (try clear c3); (try clear ah); (try clear aV); obtain ⟨aa, a3, rfl, HA, HK1, ag, HB⟩ := hrel
    cases gk with
    | zero => exact absurd HA.out (by simp [laws_toChangeS.l0])
    | succ k1 =>
     have H := HA.out; clear HA; simp only [laws_toChangeS.l0] at H
     by_cases c6 : a3 < (l0.length : Int)
     ·rw [if_pos c6] at H
      have bV : decide (a3 < (l0.length : Int)) = true := decide_eq_true c6; clear c6
      by_cases c7 : 0 ≤ a3
      ·rw [if_pos c7] at H
       have b3 : decide (0 ≤ a3) = true := decide_eq_true c7; clear c7; replace H := Option.bind_eq_some_iff.mp H; obtain ⟨⟨aG, aH, aI, aJ, aK, aL, aM⟩, A80, H⟩ := H; replace H : (if a3 < (aa.length : Int) then (laws_toChangeS.l0 k1 l0 (aa.set (a3 : Int).toNat (⟨aG, (⟨aH, aI, aJ⟩ : S118), (⟨aK, aL, aM⟩ : S118)⟩ : S120)) (wrap64 (a3 + 1))) else (none)) = some r := H; have A8 := Aside0.mk A80; clear A80
       by_cases c9 : a3 < (aa.length : Int)
       ·rw [if_pos c9] at H
        have c9b0 : decide (a3 < (aa.length : Int)) = true := decide_eq_true c9; clear c9
        obtain ⟨bj, b2⟩ : ∃ y_ : List (S120), y_ = (aa.set (a3 : Int).toNat (⟨aG, (⟨aH, aI, aJ⟩ : S118), (⟨aK, aL, aM⟩ : S118)⟩ : S120)) := ⟨_, rfl⟩
        replace H : (laws_toChangeS.l0 k1 l0 bj (wrap64 (a3 + 1))) = some r := by first | (rw [b2]; with_reducible exact H) | (have H2_ := (Option.bind_some _ _).symm.trans H; rw [b2]; with_reducible exact H2_) | (have H2_ := (Option.bind_some _ _).symm.trans H; with_reducible exact H2_) | with_reducible exact H | (rw [b2]; exact H) | exact H
        have du := Aside0.mk b2; clear b2; have H' := Aside0.mk H; clear H; have bm : 0 ≤ (a3 : Int) := oda; have bn : a3 < (l0.length : Int) := oda; obtain ⟨ad749, dv, ey, ez, eA, eB, eC, eD, eE⟩ := at_T183 (Kd.C_below aC.out HB.out) a3 bm bn
        cases dv
        replace bm := eq_true bm; replace bn := eq_true bn
        go_wp2_with (first | ((with_reducible refine gc 153 rfl ?_); refine gl (some 20) _ (#[.agg #[.string ((rd_T183 l0 a3).f0), .bool ((rd_T183 l0 a3).f1.f0), .string ((rd_T183 l0 a3).f1.f1), .bool ((rd_T183 l0 a3).f1.f2), .bool ((rd_T183 l0 a3).f2.f0), .string ((rd_T183 l0 a3).f2.f1), .bool ((rd_T183 l0 a3).f2.f2)]]) Tryd.func153 ?_; (with_reducible refine (laws_toChange.calls ((rd_T183 l0 a3).f0) ((rd_T183 l0 a3).f1.f0) ((rd_T183 l0 a3).f1.f1) ((rd_T183 l0 a3).f1.f2) ((rd_T183 l0 a3).f2.f0) ((rd_T183 l0 a3).f2.f1) ((rd_T183 l0 a3).f2.f2) aG aH aI aJ aK aL aM _ A8.out).mono ?_); rintro e ad ⟨rfl, hb⟩; refine ⟨_, rfl, ?_⟩; refine Ya2 (Kd.R_below (kr ag.out) hb) (below_step (be HB.out) hb) ?_; clear ag HB; intro ag HB; (try clear hb); (try clear hb2); (try clear hk); (try clear hi); have p10 : 0 ≤ (a3 : Int) := oda; have q10 : (a3 : Int) < ((aa.length : Int) : Int) := oda; obtain ⟨a8, bW, bX, bY, gl10, cl10, HG10⟩ := Kd.R_form ag.out (by omega); (first | cases bX | (injection bX with ea_ en_ ec_; (first | subst ea_ | (injection ea_ with ea_; subst ea_)); subst ec_; clear en_)); have aN := Aside0.mk bY; have GG10 := Aside0.mk HG10; clear bY gl10 HG10; obtain ⟨ce10, hcl10, hM10, hcc10, hfr10⟩ := Kd.R_elem ag.out z120 (a3 : Int) p10 q10; obtain rfl := k120_openM hM10; have eF : ad.cell? ⟨a8, (a3 : Int).toNat * 7, none⟩ = some (.string ((rd_T120 aa a3).f0)) := hcc10 0 _ rfl; have eG : ad.cell? ⟨a8, (a3 : Int).toNat * 7 + 1, none⟩ = some (.bool ((rd_T120 aa a3).f1.f0)) := hcc10 1 _ rfl; have eH : ad.cell? ⟨a8, (a3 : Int).toNat * 7 + 2, none⟩ = some (.string ((rd_T120 aa a3).f1.f1)) := hcc10 2 _ rfl; have eI : ad.cell? ⟨a8, (a3 : Int).toNat * 7 + 3, none⟩ = some (.bool ((rd_T120 aa a3).f1.f2)) := hcc10 3 _ rfl; have eJ : ad.cell? ⟨a8, (a3 : Int).toNat * 7 + 4, none⟩ = some (.bool ((rd_T120 aa a3).f2.f0)) := hcc10 4 _ rfl; have eK : ad.cell? ⟨a8, (a3 : Int).toNat * 7 + 5, none⟩ = some (.string ((rd_T120 aa a3).f2.f1)) := hcc10 5 _ rfl; have eL : ad.cell? ⟨a8, (a3 : Int).toNat * 7 + 6, none⟩ = some (.bool ((rd_T120 aa a3).f2.f2)) := hcc10 6 _ rfl; have hf10_0 : ad.frozen? ⟨a8, (a3 : Int).toNat * 7, none⟩ = false := hfr10 0; have hf10_1 : ad.frozen? ⟨a8, (a3 : Int).toNat * 7 + 1, none⟩ = false := hfr10 1; have hf10_2 : ad.frozen? ⟨a8, (a3 : Int).toNat * 7 + 2, none⟩ = false := hfr10 2; have hf10_3 : ad.frozen? ⟨a8, (a3 : Int).toNat * 7 + 3, none⟩ = false := hfr10 3; have hf10_4 : ad.frozen? ⟨a8, (a3 : Int).toNat * 7 + 4, none⟩ = false := hfr10 4; have hf10_5 : ad.frozen? ⟨a8, (a3 : Int).toNat * 7 + 5, none⟩ = false := hfr10 5; have hf10_6 : ad.frozen? ⟨a8, (a3 : Int).toNat * 7 + 6, none⟩ = false := hfr10 6; (try clear hM10); clear hcl10 hcc10 hfr10; replace p10 := eq_true p10; replace q10 := eq_true q10; have bZ := Aside0.mk (show Kd.R k120 120 ad w.heap.size (fun _ => True) (.slice (some ⟨a8, 0, none⟩) aa.length bW) aa from (kr ag.out)); obtain ⟨ce12, hcl12, hM12, hcc12, hfr12⟩ := Kd.R_elem bZ.out z120 (a3 : Int) (oda) (by have h_ : (a3 : Int) < ((aa.length : Int) : Int) := oda; first | exact h_ | (have e_ := (Kd.R_reads' ag.out).1; omega) | simpa using h_); obtain rfl := k120_openM hM12; have bo := Kd.R_seg bZ.out (a3 : Int) (oda) (by have h_ : (a3 : Int) < ((aa.length : Int) : Int) := oda; first | exact h_ | (have e_ := (Kd.R_reads' ag.out).1; omega) | simpa using h_) (seg := [.string aG, .bool aH, .string aI, .bool aJ, .bool aK, .string aL, .bool aM]) (j := 0) hcl12 hcc12 (show 7 ≤ 7 from by decide) (x' := (⟨aG, (⟨aH, aI, aJ⟩ : S118), (⟨aK, aL, aM⟩ : S118)⟩ : S120)) (k120_mkM _ _ _ (⟨aG, (⟨aH, aI, aJ⟩ : S118), (⟨aK, aL, aM⟩ : S118)⟩ : S120) ) (fun _ hk => hk); have dw := hcc12 0 _ rfl; (try simp only [show (k120).sz = 7 from rfl, Nat.mul_one, Nat.add_zero] at dw); have hf12_0 := hfr12 0; (try simp only [show (k120).sz = 7 from rfl, Nat.mul_one, Nat.add_zero] at hf12_0); have dx := hcc12 1 _ rfl; (try simp only [show (k120).sz = 7 from rfl, Nat.mul_one, Nat.add_zero] at dx); have hf12_1 := hfr12 1; (try simp only [show (k120).sz = 7 from rfl, Nat.mul_one, Nat.add_zero] at hf12_1); have dy := hcc12 2 _ rfl; (try simp only [show (k120).sz = 7 from rfl, Nat.mul_one, Nat.add_zero] at dy); have hf12_2 := hfr12 2; (try simp only [show (k120).sz = 7 from rfl, Nat.mul_one, Nat.add_zero] at hf12_2); have dA := hcc12 3 _ rfl; (try simp only [show (k120).sz = 7 from rfl, Nat.mul_one, Nat.add_zero] at dA); have hf12_3 := hfr12 3; (try simp only [show (k120).sz = 7 from rfl, Nat.mul_one, Nat.add_zero] at hf12_3); have dB := hcc12 4 _ rfl; (try simp only [show (k120).sz = 7 from rfl, Nat.mul_one, Nat.add_zero] at dB); have hf12_4 := hfr12 4; (try simp only [show (k120).sz = 7 from rfl, Nat.mul_one, Nat.add_zero] at hf12_4); have dC := hcc12 5 _ rfl; (try simp only [show (k120).sz = 7 from rfl, Nat.mul_one, Nat.add_zero] at dC); have hf12_5 := hfr12 5; (try simp only [show (k120).sz = 7 from rfl, Nat.mul_one, Nat.add_zero] at hf12_5); have dD := hcc12 6 _ rfl; (try simp only [show (k120).sz = 7 from rfl, Nat.mul_one, Nat.add_zero] at dD); have hf12_6 := hfr12 6; (try simp only [show (k120).sz = 7 from rfl, Nat.mul_one, Nat.add_zero] at hf12_6); (try clear hM12); clear hcl12 hcc12 hfr12) | ((with_reducible refine gate_store (t := 120) (p := 21) rfl ?_); refine store_event (t := 120) (p := 21) (v := ?vo_w13) (w1 := (((((((ad.setCell ⟨a8, (a3 : Int).toNat * 7, none⟩ (.string aG)).setCell ⟨a8, (a3 : Int).toNat * 7 + 1, none⟩ (.bool aH)).setCell ⟨a8, (a3 : Int).toNat * 7 + 2, none⟩ (.string aI)).setCell ⟨a8, (a3 : Int).toNat * 7 + 3, none⟩ (.bool aJ)).setCell ⟨a8, (a3 : Int).toNat * 7 + 4, none⟩ (.bool aK)).setCell ⟨a8, (a3 : Int).toNat * 7 + 5, none⟩ (.string aL)).setCell ⟨a8, (a3 : Int).toNat * 7 + 6, none⟩ (.bool aM))) ?hg ?ho ?hn ?hr ?_; (case ho => rfl); (case hg => rfl); (case hn => rfl); (case hr => first | (go_simp; done) | (go_simp; rfl)); intro aX hw; have hg : ad.grownBy aX (some a8) := (by rw [hw]; exact bo.2); have hp_ : Kd.R k120 120 aX w.heap.size (fun _ => True) (.slice (some ⟨a8, 0, none⟩) aa.length bW) bj := (by rw [hw, du.out]; exact bo.1); clear bo; refine Ya2 (hp_) ((by rw [hw]; exact below_set (below_set (below_set (below_set (below_set (below_set (below_set (HB.out) aN.out) aN.out) aN.out) aN.out) aN.out) aN.out) aN.out : Below w.heap.size w aX)) ?_; clear ag HB; intro ag HB; clear hg hw hp_))
        go_roundg k1
        case measure => have := HK1.out; omega
        case rel => exact ⟨(bj), (wrap64 (a3 + 1)), Ye1, H', ⟨by have := HK1.out; omega⟩, ⟨kr ag.out⟩, ⟨be HB.out⟩⟩
       ·rw [if_neg c9] at H
        exact absurd H (by simp)
      ·rw [if_neg c7] at H
       exact absurd H (by simp)
     ·rw [if_neg c6] at H
      have bV : decide (a3 < (l0.length : Int)) = false := decide_eq_false c6; clear c6; obtain rfl := Option.some.inj H
      go_wp2
      go_ret
      exact ⟨_, Ye2, kr ag.out, be HB.out⟩
  ·rw [if_neg c3] at H
   exact absurd H (by simp)
 ·rw [if_neg c2] at H
  exact absurd H (by simp)

/-! ### laws_eqChange: function 155 -/
def laws_eqChange.f (a0_0 : ByteArray) (a0_1 : Bool) (a0_2 : ByteArray) (a0_3 : Bool) (a0_4 : Bool) (a0_5 : ByteArray) (a0_6 : Bool) (a1_0 : ByteArray) (a1_1 : Bool) (a1_2 : ByteArray) (a1_3 : Bool) (a1_4 : Bool) (a1_5 : ByteArray) (a1_6 : Bool) : Option (Bool) := if a0_0.toList = a1_0.toList then ((laws_eqFile.f a0_1 a0_2 a0_3 a1_1 a1_2 a1_3).bind fun aW => (if aW = true then ((laws_eqFile.f a0_4 a0_5 a0_6 a1_4 a1_5 a1_6).bind fun aj => (if aj = true then (some true) else (some false))) else (some false))) else (some false)
set_option maxHeartbeats 8000000 in
set_option maxRecDepth 100000 in
theorem laws_eqChange.calls (a0_0 : ByteArray) (a0_1 : Bool) (a0_2 : ByteArray) (a0_3 : Bool) (a0_4 : Bool) (a0_5 : ByteArray) (a0_6 : Bool) (a1_0 : ByteArray) (a1_1 : Bool) (a1_2 : ByteArray) (a1_3 : Bool) (a1_4 : Bool) (a1_5 : ByteArray) (a1_6 : Bool) (r : Bool) (w : World) (h : laws_eqChange.f a0_0 a0_1 a0_2 a0_3 a0_4 a0_5 a0_6 a1_0 a1_1 a1_2 a1_3 a1_4 a1_5 a1_6 = some r) :
  Calls Tryd.prog 155 #[.agg #[.string a0_0, .bool a0_1, .string a0_2, .bool a0_3, .bool a0_4, .string a0_5, .bool a0_6], .agg #[.string a1_0, .bool a1_1, .string a1_2, .bool a1_3, .bool a1_4, .string a1_5, .bool a1_6]] w fun e w' => e = .returned (.bool r) ∧ Below w.heap.size w w' := by
 have hu120 := Tryd.underlying120; have hu118 := Tryd.underlying118; have HB := Aside0.mk (Below.refl w.heap.size w); have H : (if a0_0.toList = a1_0.toList then ((laws_eqFile.f a0_1 a0_2 a0_3 a1_1 a1_2 a1_3).bind fun aW => (if aW = true then ((laws_eqFile.f a0_4 a0_5 a0_6 a1_4 a1_5 a1_6).bind fun aj => (if aj = true then (some true) else (some false))) else (some false))) else (some false)) = some r := h; clear h
 by_cases c3 : a0_0.toList = a1_0.toList
 ·rw [if_pos c3] at H
  have ah : (a0_0.toList == a1_0.toList) = true := beq_iff_eq.mpr c3; have aV : (a0_0.toList != a1_0.toList) = false := bne_eq_false_iff_eq.mpr c3; clear c3; replace H := Option.bind_eq_some_iff.mp H; obtain ⟨aW, A40, H⟩ := H; replace H : (if aW = true then ((laws_eqFile.f a0_4 a0_5 a0_6 a1_4 a1_5 a1_6).bind fun aj => (if aj = true then (some true) else (some false))) else (some false)) = some r := H; have A4 := Aside0.mk A40; clear A40
  by_cases c5 : aW = true
  ·subst c5
   have H1 : ((laws_eqFile.f a0_4 a0_5 a0_6 a1_4 a1_5 a1_6).bind fun aj => (if aj = true then (some true) else (some false))) = some r := by rw [if_pos rfl] at H; exact H
   clear H; have H := H1; clear H1; replace H := Option.bind_eq_some_iff.mp H; obtain ⟨aj, aB, H⟩ := H; replace H : (if aj = true then (some true) else (some false)) = some r := H; have A6 := Aside0.mk aB; clear aB
   by_cases c7 : aj = true
   ·subst c7
    have H1 : (some true) = some r := by rw [if_pos rfl] at H; exact H
    clear H; have H := H1; clear H1; obtain rfl := Option.some.inj H
    go_enter Tryd.func155, Tryd.ntmps155
    go_wp2_with (first | ((with_reducible refine gd 2 rfl ?_); refine bx 2 120 (#[.string a0_0, .bool a0_1, .string a0_2, .bool a0_3, .bool a0_4, .string a0_5, .bool a0_6]) ?_; intro bq hg w8 hbox hb; refine Ya4 (below_step (be HB.out) hb) (hbox) (bs hg (be HB.out)) (bs hg (be HB.out)) ?_; clear HB; intro HB a4 bu bv; clear hb hbox hg) | ((with_reducible refine gd 3 rfl ?_); refine bx 3 120 (#[.string a1_0, .bool a1_1, .string a1_2, .bool a1_3, .bool a1_4, .string a1_5, .bool a1_6]) ?_; intro bw hg w9 hbox hb; refine Ya7 (bb a4 hb) (below_step (bf HB.out) hb) (hbox) (bs hg (bf HB.out)) (bs hg (bf HB.out)) (bl hg a4) (br hg a4) ?_; clear a4 HB; intro a4 HB a9 bz bA aO aP; clear hb hbox hg; have d8 := aO.out; have d9 := aP.out; have ⟨da, db, dc, dd, de, df, dg, dh, di, dj, dk, dl, dm, dn⟩ := Yc7 a4.out; have ⟨eM, eN, eO, eP, eQ, eR, eS, eT, eU, eV, eW, eX, eY, eZ⟩ := Yc7 a9.out) | ((with_reducible refine gc 187 rfl ?_); refine gl (some 14) _ (#[.agg #[.bool a0_1, .string a0_2, .bool a0_3], .agg #[.bool a1_1, .string a1_2, .bool a1_3]]) Tryd.func187 ?_; (with_reducible refine (laws_eqFile.calls a0_1 a0_2 a0_3 a1_1 a1_2 a1_3 true _ A4.out).mono ?_); rintro e aX ⟨rfl, hb⟩; refine ⟨_, rfl, ?_⟩; refine Ya3 (bb a4 hb) (bb a9 hb) (below_step (bf HB.out) hb) ?_; clear a4 a9 HB; intro a4 a9 HB; (try clear hb); (try clear hb2); (try clear hk); (try clear hi); have ⟨bE, bF, bG, bH, bI, bJ, bK, bL, bM, bN, bO, bP, bQ, bR⟩ := Yc7 a4.out; have ⟨f3, f4, f5, f6, f7, f8, f9, fa, fc, fd, fe, ff, fg, fh⟩ := Yc7 a9.out) | ((with_reducible refine gc 187 rfl ?_); refine gl (some 20) _ (#[.agg #[.bool a0_4, .string a0_5, .bool a0_6], .agg #[.bool a1_4, .string a1_5, .bool a1_6]]) Tryd.func187 ?_; (with_reducible refine (laws_eqFile.calls a0_4 a0_5 a0_6 a1_4 a1_5 a1_6 true _ A6.out).mono ?_); rintro e w16 ⟨rfl, hb⟩; refine ⟨_, rfl, ?_⟩; refine Ya3 (bb a4 hb) (bb a9 hb) (below_step (bf HB.out) hb) ?_; clear a4 a9 HB; intro a4 a9 HB; (try clear hb); (try clear hb2); (try clear hk); (try clear hi)))
    go_ret
    exact ⟨Ye2, (bf HB.out)⟩
   ·replace c7 := Bool.eq_false_iff.mpr c7; subst c7
    have H1 : (some false) = some r := by rw [if_neg (show ¬ (false = true) by decide)] at H; exact H
    clear H; have H := H1; clear H1; obtain rfl := Option.some.inj H
    go_enter Tryd.func155, Tryd.ntmps155
    go_wp2_with (first | ((with_reducible refine gd 2 rfl ?_); refine bx 2 120 (#[.string a0_0, .bool a0_1, .string a0_2, .bool a0_3, .bool a0_4, .string a0_5, .bool a0_6]) ?_; intro bq hg w17 hbox hb; refine Ya4 (below_step (be HB.out) hb) (hbox) (bs hg (be HB.out)) (bs hg (be HB.out)) ?_; clear HB; intro HB a4 bu bv; clear hb hbox hg) | ((with_reducible refine gd 3 rfl ?_); refine bx 3 120 (#[.string a1_0, .bool a1_1, .string a1_2, .bool a1_3, .bool a1_4, .string a1_5, .bool a1_6]) ?_; intro bw hg w18 hbox hb; refine Ya7 (bb a4 hb) (below_step (bf HB.out) hb) (hbox) (bs hg (bf HB.out)) (bs hg (bf HB.out)) (bl hg a4) (br hg a4) ?_; clear a4 HB; intro a4 HB a9 bz bA aO aP; clear hb hbox hg; have hnb19 := aO.out; have hnc19 := aP.out; have ⟨fi, fj, fk, fl, fm, fn, fo, fp, fq, fr, fs, ft, fu, fv⟩ := Yc7 a4.out; have ⟨cG, cH, cI, cJ, cK, cL, cM, cN, cO, cP, cQ, cR, cS, cT⟩ := Yc7 a9.out) | ((with_reducible refine gc 187 rfl ?_); refine gl (some 14) _ (#[.agg #[.bool a0_1, .string a0_2, .bool a0_3], .agg #[.bool a1_1, .string a1_2, .bool a1_3]]) Tryd.func187 ?_; (with_reducible refine (laws_eqFile.calls a0_1 a0_2 a0_3 a1_1 a1_2 a1_3 true _ A4.out).mono ?_); rintro e w22 ⟨rfl, hb⟩; refine ⟨_, rfl, ?_⟩; refine Ya3 (bb a4 hb) (bb a9 hb) (below_step (bf HB.out) hb) ?_; clear a4 a9 HB; intro a4 a9 HB; (try clear hb); (try clear hb2); (try clear hk); (try clear hi); have ⟨fw, fx, fy, fz, fA, fB, fC, fD, fE, fF, fG, fH, fI, fJ⟩ := Yc7 a4.out; have ⟨fK, fL, fM, fN, fO, fP, fQ, fR, fS, fT, fU, fV, fW, fX⟩ := Yc7 a9.out) | ((with_reducible refine gc 187 rfl ?_); refine gl (some 20) _ (#[.agg #[.bool a0_4, .string a0_5, .bool a0_6], .agg #[.bool a1_4, .string a1_5, .bool a1_6]]) Tryd.func187 ?_; (with_reducible refine (laws_eqFile.calls a0_4 a0_5 a0_6 a1_4 a1_5 a1_6 false _ A6.out).mono ?_); rintro e w25 ⟨rfl, hb⟩; refine ⟨_, rfl, ?_⟩; refine Ya3 (bb a4 hb) (bb a9 hb) (below_step (bf HB.out) hb) ?_; clear a4 a9 HB; intro a4 a9 HB; (try clear hb); (try clear hb2); (try clear hk); (try clear hi)))
    go_ret
    exact ⟨Ye2, (bf HB.out)⟩
  ·replace c5 := Bool.eq_false_iff.mpr c5; subst c5
   have H1 : (some false) = some r := by rw [if_neg (show ¬ (false = true) by decide)] at H; exact H
   clear H; have H := H1; clear H1; obtain rfl := Option.some.inj H
   go_enter Tryd.func155, Tryd.ntmps155
   go_wp2_with (first | ((with_reducible refine gd 2 rfl ?_); refine bx 2 120 (#[.string a0_0, .bool a0_1, .string a0_2, .bool a0_3, .bool a0_4, .string a0_5, .bool a0_6]) ?_; intro bq hg w26 hbox hb; refine Ya4 (below_step (be HB.out) hb) (hbox) (bs hg (be HB.out)) (bs hg (be HB.out)) ?_; clear HB; intro HB a4 bu bv; clear hb hbox hg) | ((with_reducible refine gd 3 rfl ?_); refine bx 3 120 (#[.string a1_0, .bool a1_1, .string a1_2, .bool a1_3, .bool a1_4, .string a1_5, .bool a1_6]) ?_; intro bw hg w27 hbox hb; refine Ya7 (bb a4 hb) (below_step (bf HB.out) hb) (hbox) (bs hg (bf HB.out)) (bs hg (bf HB.out)) (bl hg a4) (br hg a4) ?_; clear a4 HB; intro a4 HB a9 bz bA aO aP; clear hb hbox hg; have hnb28 := aO.out; have hnc28 := aP.out; have ⟨fY, fZ, g0, g1, g2, g3, g4, g5, g6, g7, g8, g9, ga, gb⟩ := Yc7 a4.out; have ⟨ge, gg, gh, gi, gj, gm, gn, gp, gq, gr, gt, gu, gv, gw⟩ := Yc7 a9.out) | ((with_reducible refine gc 187 rfl ?_); refine gl (some 14) _ (#[.agg #[.bool a0_1, .string a0_2, .bool a0_3], .agg #[.bool a1_1, .string a1_2, .bool a1_3]]) Tryd.func187 ?_; (with_reducible refine (laws_eqFile.calls a0_1 a0_2 a0_3 a1_1 a1_2 a1_3 false _ A4.out).mono ?_); rintro e w31 ⟨rfl, hb⟩; refine ⟨_, rfl, ?_⟩; refine Ya3 (bb a4 hb) (bb a9 hb) (below_step (bf HB.out) hb) ?_; clear a4 a9 HB; intro a4 a9 HB; (try clear hb); (try clear hb2); (try clear hk); (try clear hi)))
   go_ret
   exact ⟨Ye2, (bf HB.out)⟩
 ·rw [if_neg c3] at H
  have ah : (a0_0.toList == a1_0.toList) = false := beq_eq_false_iff_ne.mpr c3; have aV : (a0_0.toList != a1_0.toList) = true := bne_iff_ne.mpr c3; obtain rfl := Option.some.inj H
  go_enter Tryd.func155, Tryd.ntmps155
  go_wp2_with (first | ((with_reducible refine gd 2 rfl ?_); refine bx 2 120 (#[.string a0_0, .bool a0_1, .string a0_2, .bool a0_3, .bool a0_4, .string a0_5, .bool a0_6]) ?_; intro bq hg w32 hbox hb; refine Ya4 (below_step (be HB.out) hb) (hbox) (bs hg (be HB.out)) (bs hg (be HB.out)) ?_; clear HB; intro HB a4 bu bv; clear hb hbox hg) | ((with_reducible refine gd 3 rfl ?_); refine bx 3 120 (#[.string a1_0, .bool a1_1, .string a1_2, .bool a1_3, .bool a1_4, .string a1_5, .bool a1_6]) ?_; intro bw hg w33 hbox hb; refine Ya7 (bb a4 hb) (below_step (bf HB.out) hb) (hbox) (bs hg (bf HB.out)) (bs hg (bf HB.out)) (bl hg a4) (br hg a4) ?_; clear a4 HB; intro a4 HB a9 bz bA aO aP; clear hb hbox hg; have hnb34 := aO.out; have hnc34 := aP.out; have ⟨gx, gy, gz, gA, gB, gC, gD, gE, gF, gG, gH, gI, gJ, gK⟩ := Yc7 a4.out; have ⟨gL, gM, gN, gO, gP, gQ, gR, gS, gT, gU, gV, gW, gX, gY⟩ := Yc7 a9.out))
  go_ret
  exact ⟨Ye2, (bf HB.out)⟩

/-! ### laws_eqChangeS: function 94 -/
def laws_eqChangeS.l0 : Nat → List (S120) → List (S120) → Int → Option (Bool)
 | 0, _, _, _ => none
 | k + 1, x0, x1, x5 => if x5 < (x0.length : Int) then (if 0 ≤ x5 then (if x5 < (x1.length : Int) then ((laws_eqChange.f ((rd_T120 x0 x5).f0) ((rd_T120 x0 x5).f1.f0) ((rd_T120 x0 x5).f1.f1) ((rd_T120 x0 x5).f1.f2) ((rd_T120 x0 x5).f2.f0) ((rd_T120 x0 x5).f2.f1) ((rd_T120 x0 x5).f2.f2) ((rd_T120 x1 x5).f0) ((rd_T120 x1 x5).f1.f0) ((rd_T120 x1 x5).f1.f1) ((rd_T120 x1 x5).f1.f2) ((rd_T120 x1 x5).f2.f0) ((rd_T120 x1 x5).f2.f1) ((rd_T120 x1 x5).f2.f2)).bind fun b4 => (if b4 = true then (laws_eqChangeS.l0 k x0 x1 (wrap64 (x5 + 1))) else (some false))) else (none)) else (none)) else (some true)
def laws_eqChangeS.f (k : Nat) (l0 : List (S120)) (l1 : List (S120)) : Option (Bool) := if (l0.length : Int) = (l1.length : Int) then (laws_eqChangeS.l0 k l0 l1 0) else (some false)
theorem laws_eqChangeS.mono_l : ∀ k, (∀ y0 y1 y2, LeO (laws_eqChangeS.l0 k y0 y1 y2) (laws_eqChangeS.l0 (k + 1) y0 y1 y2))
 | 0 => fun _ _ _ r h => by simp [laws_eqChangeS.l0] at h
 | k + 1 => by
  have ih0 := laws_eqChangeS.mono_l k
  ·intro y0 y1 y2
   unfold laws_eqChangeS.l0
   repeat' first
   | (with_reducible exact ih0 _ _ _)
   | (with_reducible exact LeO.refl _)
   | (with_reducible exact LeO.none _)
   | (with_reducible refine LeO.ite ?_ ?_)
   | (with_reducible refine LeO.bind ?_ (fun _ => ?_))
   | exact ih0 _ _ _
   | exact LeO.none _
   | refine LeO.ite ?_ ?_
   | refine LeO.bind ?_ (fun _ => ?_)
theorem laws_eqChangeS.mono : ∀ a0 a1 k, LeO (laws_eqChangeS.f k a0 a1) (laws_eqChangeS.f (k + 1) a0 a1) := by
 intro a0 a1 k; have ih0 := laws_eqChangeS.mono_l k
 unfold laws_eqChangeS.f
 repeat' first
   | (with_reducible exact ih0 _ _ _)
   | (with_reducible exact LeO.refl _)
   | (with_reducible exact LeO.none _)
   | (with_reducible refine LeO.ite ?_ ?_)
   | (with_reducible refine LeO.bind ?_ (fun _ => ?_))
   | exact ih0 _ _ _
   | exact LeO.none _
   | refine LeO.ite ?_ ?_
   | refine LeO.bind ?_ (fun _ => ?_)
def laws_eqChangeS.T6 : Bool × List (List Nat × List Nat) := (true, [([], []), ([], []), ([0, 1], [0, 1]), ([2], [2]), ([], []), ([], []), ([4, 5], [4, 5]), ([6], [6]), ([3, 7], [3, 7]), ([8], [8])])
def laws_eqChangeS.B6 : List Nat := [0, 0, 3, 7, 0, 0, 48, 112, 255, 511]
theorem laws_eqChangeS.tab6 : rtab .any (opsOf Tryd.f94 6) = laws_eqChangeS.T6 := by kernel_rfl
theorem laws_eqChangeS.bits6 : waitsOk laws_eqChangeS.T6.2 laws_eqChangeS.B6 = true := by kernel_rfl
set_option maxHeartbeats 8000000 in
set_option maxRecDepth 100000 in
theorem laws_eqChangeS.calls (k : Nat) (A0 : Option Addr) (c0 : Nat) (l0 : List (S120)) (A1 : Option Addr) (c1 : Nat) (l1 : List (S120)) (r : Bool) (w : World) (hr0 : Kd.C k120 w A0 l0.length l0) (hc0 : l0.length ≤ c0) (hr1 : Kd.C k120 w A1 l1.length l1) (hc1 : l1.length ≤ c1) (h : laws_eqChangeS.f k l0 l1 = some r) :
  Calls Tryd.prog 94 #[.slice A0 l0.length c0, .slice A1 l1.length c1] w fun e w' => e = .returned (.bool r) ∧ Below w.heap.size w w' := by
 have hu120 := Tryd.underlying120; have aC := Aside0.mk hr0; have HC0 := Aside0.mk hc0; clear hr0 hc0; have HR1 := Aside0.mk hr1; have HC1 := Aside0.mk hc1; clear hr1 hc1; have HB := Aside0.mk (Below.refl w.heap.size w); have H : (if (l0.length : Int) = (l1.length : Int) then (laws_eqChangeS.l0 k l0 l1 0) else (some false)) = some r := h; clear h
 by_cases c3 : (l0.length : Int) = (l1.length : Int)
 ·rw [if_pos c3] at H
  have ah : ((l0.length : Int) == (l1.length : Int)) = true := beq_iff_eq.mpr c3; have aV : ((l0.length : Int) != (l1.length : Int)) = false := bne_eq_false_iff_eq.mpr c3
  have ca : (l0.length == l1.length) = true := by first | simpa using c3 | (simp at c3 ⊢; omega)
  clear c3; have H' := Aside0.mk H; clear H
  go_enter Tryd.func94, Tryd.ntmps94
  go_wp2
  go_loopg [5] k (fun kq v5 w' => ∃ (a2 : Int), v5 = .int .i64 a2 ∧ Aside0 (laws_eqChangeS.l0 kq l0 l1 a2 = some r) ∧ Aside0 (kq ≤ k) ∧ Aside0 (Below w.heap.size w w'))
  case atStart => exact ⟨(0), Ye1, H', ⟨Nat.le_refl _⟩, ⟨be HB.out⟩⟩
  case round =>
   clear H'; (try clear c1); (try clear p2); (try clear c3); (try clear ah); (try clear aV); (try clear ca); obtain ⟨a2, rfl, HA, HK1, HB⟩ := hrel
   cases gk with
   | zero => exact absurd HA.out (by simp [laws_eqChangeS.l0])
   | succ k1 =>
    have H := HA.out; clear HA; simp only [laws_eqChangeS.l0] at H
    by_cases c4 : a2 < (l0.length : Int)
    ·rw [if_pos c4] at H
     have b8 : decide (a2 < (l0.length : Int)) = true := decide_eq_true c4; clear c4
     by_cases c5 : 0 ≤ a2
     ·rw [if_pos c5] at H
      have cU : decide (0 ≤ a2) = true := decide_eq_true c5; clear c5
      by_cases c6 : a2 < (l1.length : Int)
      ·rw [if_pos c6] at H
       have bV : decide (a2 < (l1.length : Int)) = true := decide_eq_true c6; clear c6; replace H := Option.bind_eq_some_iff.mp H; obtain ⟨b4, A70, H⟩ := H; replace H : (if b4 = true then (laws_eqChangeS.l0 k1 l0 l1 (wrap64 (a2 + 1))) else (some false)) = some r := H; have A7 := Aside0.mk A70; clear A70
       by_cases c8 : b4 = true
       ·subst c8
        have H1 : (laws_eqChangeS.l0 k1 l0 l1 (wrap64 (a2 + 1))) = some r := by rw [if_pos rfl] at H; exact H
        clear H; have H := H1; clear H1; have H' := Aside0.mk H; clear H
        try go_wp2
        refine Ya1 (below_drew1 HB.out) ?_; clear HB; intro HB; have aQ : 0 ≤ (a2 : Int) := oda; have aR : a2 < (l0.length : Int) := oda; obtain ⟨a5, bB, al, am, an, ao, ap, aq, ar⟩ := at_T120 aC.out a2 aQ aR; have hw890_6 := ar; have hw890_5 := aq; have hw890_4 := ap; have hw890_3 := ao; have hw890_2 := an; have hw890_1 := am; have hw890_0 := al
        cases bB
        replace al := pw_cell_below HB.out al; replace am := pw_cell_below HB.out am; replace an := pw_cell_below HB.out an; replace ao := pw_cell_below HB.out ao; replace ap := pw_cell_below HB.out ap; replace aq := pw_cell_below HB.out aq; replace ar := pw_cell_below HB.out ar; replace aQ := eq_true aQ; replace aR := eq_true aR; have aS : 0 ≤ (a2 : Int) := oda; have aT : a2 < (l1.length : Int) := oda; obtain ⟨a6, bC, au, av, aw, ax, ay, az, aA⟩ := at_T120 HR1.out a2 aS aT; have hw891_6 := aA; have hw891_5 := az; have hw891_4 := ay; have hw891_3 := ax; have hw891_2 := aw; have hw891_1 := av; have hw891_0 := au
        cases bC
        replace au := pw_cell_below HB.out au; replace av := pw_cell_below HB.out av; replace aw := pw_cell_below HB.out aw; replace ax := pw_cell_below HB.out ax; replace ay := pw_cell_below HB.out ay; replace az := pw_cell_below HB.out az; replace aA := pw_cell_below HB.out aA; replace aS := eq_true aS; replace aT := eq_true aT; refine start_ (n := 10) (S := fun w' => w'.cell? (a5.add ((a2).toNat * 7)) = some (.string ((rd_T120 l0 a2).f0)) ∧ w'.cell? ⟨(a5.add ((a2).toNat * 7)).block, (a5.add ((a2).toNat * 7)).off + 1, none⟩ = some (.bool ((rd_T120 l0 a2).f1.f0)) ∧ w'.cell? ⟨(a5.add ((a2).toNat * 7)).block, (a5.add ((a2).toNat * 7)).off + 2, none⟩ = some (.string ((rd_T120 l0 a2).f1.f1)) ∧ w'.cell? ⟨(a5.add ((a2).toNat * 7)).block, (a5.add ((a2).toNat * 7)).off + 3, none⟩ = some (.bool ((rd_T120 l0 a2).f1.f2)) ∧ w'.cell? ⟨(a5.add ((a2).toNat * 7)).block, (a5.add ((a2).toNat * 7)).off + 4, none⟩ = some (.bool ((rd_T120 l0 a2).f2.f0)) ∧ w'.cell? ⟨(a5.add ((a2).toNat * 7)).block, (a5.add ((a2).toNat * 7)).off + 5, none⟩ = some (.string ((rd_T120 l0 a2).f2.f1)) ∧ w'.cell? ⟨(a5.add ((a2).toNat * 7)).block, (a5.add ((a2).toNat * 7)).off + 6, none⟩ = some (.bool ((rd_T120 l0 a2).f2.f2)) ∧ w'.cell? (a6.add ((a2).toNat * 7)) = some (.string ((rd_T120 l1 a2).f0)) ∧ w'.cell? ⟨(a6.add ((a2).toNat * 7)).block, (a6.add ((a2).toNat * 7)).off + 1, none⟩ = some (.bool ((rd_T120 l1 a2).f1.f0)) ∧ w'.cell? ⟨(a6.add ((a2).toNat * 7)).block, (a6.add ((a2).toNat * 7)).off + 2, none⟩ = some (.string ((rd_T120 l1 a2).f1.f1)) ∧ w'.cell? ⟨(a6.add ((a2).toNat * 7)).block, (a6.add ((a2).toNat * 7)).off + 3, none⟩ = some (.bool ((rd_T120 l1 a2).f1.f2)) ∧ w'.cell? ⟨(a6.add ((a2).toNat * 7)).block, (a6.add ((a2).toNat * 7)).off + 4, none⟩ = some (.bool ((rd_T120 l1 a2).f2.f0)) ∧ w'.cell? ⟨(a6.add ((a2).toNat * 7)).block, (a6.add ((a2).toNat * 7)).off + 5, none⟩ = some (.string ((rd_T120 l1 a2).f2.f1)) ∧ w'.cell? ⟨(a6.add ((a2).toNat * 7)).block, (a6.add ((a2).toNat * 7)).off + 6, none⟩ = some (.bool ((rd_T120 l1 a2).f2.f2))) (ds := []) (fb 10 0) (by kernel_rfl) rfl rfl ⟨(pw_cell_below HB.out hw890_0), (pw_cell_below HB.out hw890_1), (pw_cell_below HB.out hw890_2), (pw_cell_below HB.out hw890_3), (pw_cell_below HB.out hw890_4), (pw_cell_below HB.out hw890_5), (pw_cell_below HB.out hw890_6), (pw_cell_below HB.out hw891_0), (pw_cell_below HB.out hw891_1), (pw_cell_below HB.out hw891_2), (pw_cell_below HB.out hw891_3), (pw_cell_below HB.out hw891_4), (pw_cell_below HB.out hw891_5), (pw_cell_below HB.out hw891_6)⟩ (fun hHeld => ?_); refine with_tabW laws_eqChangeS.tab6 laws_eqChangeS.bits6 (fun HT_ HW_ => ?_); generalize wr.drew = w9 at HB al am an ao ap aq ar au av aw ax ay az aA hHeld ⊢; refine pu 0 17 (fb 10 1) HT_ ?_; refine pu 1 18 (fb 10 3) HT_ ?_; refine pu 2 19 (fb 10 7) HT_ ?_; refine pu 4 21 (fb 10 23) HT_ ?_; refine pu 5 22 (fb 10 55) HT_ ?_; refine pu 6 23 (fb 10 119) HT_ ?_; refine tk 3 20 (fb 10 127) HT_ HW_ hHeld ?_; refine tk 7 24 (fb 10 255) HT_ HW_ hHeld ?_; refine o1 8 (some 25) (fb 10 511) HT_ (fun K hK => ?_); refine gs _ (#[.agg #[.string ((rd_T120 l0 a2).f0), .bool ((rd_T120 l0 a2).f1.f0), .string ((rd_T120 l0 a2).f1.f1), .bool ((rd_T120 l0 a2).f1.f2), .bool ((rd_T120 l0 a2).f2.f0), .string ((rd_T120 l0 a2).f2.f1), .bool ((rd_T120 l0 a2).f2.f2)], .agg #[.string ((rd_T120 l1 a2).f0), .bool ((rd_T120 l1 a2).f1.f0), .string ((rd_T120 l1 a2).f1.f1), .bool ((rd_T120 l1 a2).f1.f2), .bool ((rd_T120 l1 a2).f2.f0), .string ((rd_T120 l1 a2).f2.f1), .bool ((rd_T120 l1 a2).f2.f2)]]) Tryd.func155 ?_; (with_reducible refine (laws_eqChange.calls ((rd_T120 l0 a2).f0) ((rd_T120 l0 a2).f1.f0) ((rd_T120 l0 a2).f1.f1) ((rd_T120 l0 a2).f1.f2) ((rd_T120 l0 a2).f2.f0) ((rd_T120 l0 a2).f2.f1) ((rd_T120 l0 a2).f2.f2) ((rd_T120 l1 a2).f0) ((rd_T120 l1 a2).f1.f0) ((rd_T120 l1 a2).f1.f1) ((rd_T120 l1 a2).f1.f2) ((rd_T120 l1 a2).f2.f0) ((rd_T120 l1 a2).f2.f1) ((rd_T120 l1 a2).f2.f2) true _ A7.out).mono ?_); rintro e w10 ⟨rfl, hb⟩; refine ⟨_, rfl, ?_⟩; refine Ya1 (below_step (be HB.out) hb) ?_; clear HB; intro HB; (try clear hb); (try clear hb2); (try clear hk); (try clear hi); refine hK.out _ _ ⟨(pw_cell_below HB.out hw890_0), (pw_cell_below HB.out hw890_1), (pw_cell_below HB.out hw890_2), (pw_cell_below HB.out hw890_3), (pw_cell_below HB.out hw890_4), (pw_cell_below HB.out hw890_5), (pw_cell_below HB.out hw890_6), (pw_cell_below HB.out hw891_0), (pw_cell_below HB.out hw891_1), (pw_cell_below HB.out hw891_2), (pw_cell_below HB.out hw891_3), (pw_cell_below HB.out hw891_4), (pw_cell_below HB.out hw891_5), (pw_cell_below HB.out hw891_6)⟩ (fun hHeld => ?_); clear hK K; refine nm 25 ?_; refine pu 9 26 (fb 10 1023) HT_ ?_; refine done_ (done_of HT_.out (by kernel_rfl)) ?_
        try go_wp2
        go_roundg k1
        case measure => have := HK1.out; omega
        case rel => exact ⟨(wrap64 (a2 + 1)), Ye1, H', ⟨by have := HK1.out; omega⟩, ⟨be HB.out⟩⟩
       ·replace c8 := Bool.eq_false_iff.mpr c8; subst c8
        have H1 : (some false) = some r := by rw [if_neg (show ¬ (false = true) by decide)] at H; exact H
        clear H; have H := H1; clear H1; obtain rfl := Option.some.inj H
        try go_wp2
        refine Ya1 (below_drew1 HB.out) ?_; clear HB; intro HB; have aQ : 0 ≤ (a2 : Int) := oda; have aR : a2 < (l0.length : Int) := oda; obtain ⟨a5, bB, al, am, an, ao, ap, aq, ar⟩ := at_T120 aC.out a2 aQ aR; have hw890_6 := ar; have hw890_5 := aq; have hw890_4 := ap; have hw890_3 := ao; have hw890_2 := an; have hw890_1 := am; have hw890_0 := al
        cases bB
        replace al := pw_cell_below HB.out al; replace am := pw_cell_below HB.out am; replace an := pw_cell_below HB.out an; replace ao := pw_cell_below HB.out ao; replace ap := pw_cell_below HB.out ap; replace aq := pw_cell_below HB.out aq; replace ar := pw_cell_below HB.out ar; replace aQ := eq_true aQ; replace aR := eq_true aR; have aS : 0 ≤ (a2 : Int) := oda; have aT : a2 < (l1.length : Int) := oda; obtain ⟨a6, bC, au, av, aw, ax, ay, az, aA⟩ := at_T120 HR1.out a2 aS aT; have hw891_6 := aA; have hw891_5 := az; have hw891_4 := ay; have hw891_3 := ax; have hw891_2 := aw; have hw891_1 := av; have hw891_0 := au
        cases bC
        replace au := pw_cell_below HB.out au; replace av := pw_cell_below HB.out av; replace aw := pw_cell_below HB.out aw; replace ax := pw_cell_below HB.out ax; replace ay := pw_cell_below HB.out ay; replace az := pw_cell_below HB.out az; replace aA := pw_cell_below HB.out aA; replace aS := eq_true aS; replace aT := eq_true aT; refine start_ (n := 10) (S := fun w' => w'.cell? (a5.add ((a2).toNat * 7)) = some (.string ((rd_T120 l0 a2).f0)) ∧ w'.cell? ⟨(a5.add ((a2).toNat * 7)).block, (a5.add ((a2).toNat * 7)).off + 1, none⟩ = some (.bool ((rd_T120 l0 a2).f1.f0)) ∧ w'.cell? ⟨(a5.add ((a2).toNat * 7)).block, (a5.add ((a2).toNat * 7)).off + 2, none⟩ = some (.string ((rd_T120 l0 a2).f1.f1)) ∧ w'.cell? ⟨(a5.add ((a2).toNat * 7)).block, (a5.add ((a2).toNat * 7)).off + 3, none⟩ = some (.bool ((rd_T120 l0 a2).f1.f2)) ∧ w'.cell? ⟨(a5.add ((a2).toNat * 7)).block, (a5.add ((a2).toNat * 7)).off + 4, none⟩ = some (.bool ((rd_T120 l0 a2).f2.f0)) ∧ w'.cell? ⟨(a5.add ((a2).toNat * 7)).block, (a5.add ((a2).toNat * 7)).off + 5, none⟩ = some (.string ((rd_T120 l0 a2).f2.f1)) ∧ w'.cell? ⟨(a5.add ((a2).toNat * 7)).block, (a5.add ((a2).toNat * 7)).off + 6, none⟩ = some (.bool ((rd_T120 l0 a2).f2.f2)) ∧ w'.cell? (a6.add ((a2).toNat * 7)) = some (.string ((rd_T120 l1 a2).f0)) ∧ w'.cell? ⟨(a6.add ((a2).toNat * 7)).block, (a6.add ((a2).toNat * 7)).off + 1, none⟩ = some (.bool ((rd_T120 l1 a2).f1.f0)) ∧ w'.cell? ⟨(a6.add ((a2).toNat * 7)).block, (a6.add ((a2).toNat * 7)).off + 2, none⟩ = some (.string ((rd_T120 l1 a2).f1.f1)) ∧ w'.cell? ⟨(a6.add ((a2).toNat * 7)).block, (a6.add ((a2).toNat * 7)).off + 3, none⟩ = some (.bool ((rd_T120 l1 a2).f1.f2)) ∧ w'.cell? ⟨(a6.add ((a2).toNat * 7)).block, (a6.add ((a2).toNat * 7)).off + 4, none⟩ = some (.bool ((rd_T120 l1 a2).f2.f0)) ∧ w'.cell? ⟨(a6.add ((a2).toNat * 7)).block, (a6.add ((a2).toNat * 7)).off + 5, none⟩ = some (.string ((rd_T120 l1 a2).f2.f1)) ∧ w'.cell? ⟨(a6.add ((a2).toNat * 7)).block, (a6.add ((a2).toNat * 7)).off + 6, none⟩ = some (.bool ((rd_T120 l1 a2).f2.f2))) (ds := []) (fb 10 0) (by kernel_rfl) rfl rfl ⟨(pw_cell_below HB.out hw890_0), (pw_cell_below HB.out hw890_1), (pw_cell_below HB.out hw890_2), (pw_cell_below HB.out hw890_3), (pw_cell_below HB.out hw890_4), (pw_cell_below HB.out hw890_5), (pw_cell_below HB.out hw890_6), (pw_cell_below HB.out hw891_0), (pw_cell_below HB.out hw891_1), (pw_cell_below HB.out hw891_2), (pw_cell_below HB.out hw891_3), (pw_cell_below HB.out hw891_4), (pw_cell_below HB.out hw891_5), (pw_cell_below HB.out hw891_6)⟩ (fun hHeld => ?_); refine with_tabW laws_eqChangeS.tab6 laws_eqChangeS.bits6 (fun HT_ HW_ => ?_); generalize wr.drew = ad at HB al am an ao ap aq ar au av aw ax ay az aA hHeld ⊢; refine pu 0 17 (fb 10 1) HT_ ?_; refine pu 1 18 (fb 10 3) HT_ ?_; refine pu 2 19 (fb 10 7) HT_ ?_; refine pu 4 21 (fb 10 23) HT_ ?_; refine pu 5 22 (fb 10 55) HT_ ?_; refine pu 6 23 (fb 10 119) HT_ ?_; refine tk 3 20 (fb 10 127) HT_ HW_ hHeld ?_; refine tk 7 24 (fb 10 255) HT_ HW_ hHeld ?_; refine o1 8 (some 25) (fb 10 511) HT_ (fun K hK => ?_); refine gs _ (#[.agg #[.string ((rd_T120 l0 a2).f0), .bool ((rd_T120 l0 a2).f1.f0), .string ((rd_T120 l0 a2).f1.f1), .bool ((rd_T120 l0 a2).f1.f2), .bool ((rd_T120 l0 a2).f2.f0), .string ((rd_T120 l0 a2).f2.f1), .bool ((rd_T120 l0 a2).f2.f2)], .agg #[.string ((rd_T120 l1 a2).f0), .bool ((rd_T120 l1 a2).f1.f0), .string ((rd_T120 l1 a2).f1.f1), .bool ((rd_T120 l1 a2).f1.f2), .bool ((rd_T120 l1 a2).f2.f0), .string ((rd_T120 l1 a2).f2.f1), .bool ((rd_T120 l1 a2).f2.f2)]]) Tryd.func155 ?_; (with_reducible refine (laws_eqChange.calls ((rd_T120 l0 a2).f0) ((rd_T120 l0 a2).f1.f0) ((rd_T120 l0 a2).f1.f1) ((rd_T120 l0 a2).f1.f2) ((rd_T120 l0 a2).f2.f0) ((rd_T120 l0 a2).f2.f1) ((rd_T120 l0 a2).f2.f2) ((rd_T120 l1 a2).f0) ((rd_T120 l1 a2).f1.f0) ((rd_T120 l1 a2).f1.f1) ((rd_T120 l1 a2).f1.f2) ((rd_T120 l1 a2).f2.f0) ((rd_T120 l1 a2).f2.f1) ((rd_T120 l1 a2).f2.f2) false _ A7.out).mono ?_); rintro e w12 ⟨rfl, hb⟩; refine ⟨_, rfl, ?_⟩; refine Ya1 (below_step (be HB.out) hb) ?_; clear HB; intro HB; (try clear hb); (try clear hb2); (try clear hk); (try clear hi); refine hK.out _ _ ⟨(pw_cell_below HB.out hw890_0), (pw_cell_below HB.out hw890_1), (pw_cell_below HB.out hw890_2), (pw_cell_below HB.out hw890_3), (pw_cell_below HB.out hw890_4), (pw_cell_below HB.out hw890_5), (pw_cell_below HB.out hw890_6), (pw_cell_below HB.out hw891_0), (pw_cell_below HB.out hw891_1), (pw_cell_below HB.out hw891_2), (pw_cell_below HB.out hw891_3), (pw_cell_below HB.out hw891_4), (pw_cell_below HB.out hw891_5), (pw_cell_below HB.out hw891_6)⟩ (fun hHeld => ?_); clear hK K; refine nm 25 ?_; refine pu 9 26 (fb 10 1023) HT_ ?_; refine done_ (done_of HT_.out (by kernel_rfl)) ?_
        try go_wp2
        go_ret
        exact ⟨Ye2, be HB.out⟩
      ·rw [if_neg c6] at H
       exact absurd H (by simp)
     ·rw [if_neg c5] at H
      exact absurd H (by simp)
    ·rw [if_neg c4] at H
     have b8 : decide (a2 < (l0.length : Int)) = false := decide_eq_false c4; clear c4; obtain rfl := Option.some.inj H
     go_wp2
     go_ret
     exact ⟨Ye2, be HB.out⟩
 ·rw [if_neg c3] at H
  have ah : ((l0.length : Int) == (l1.length : Int)) = false := beq_eq_false_iff_ne.mpr c3; have aV : ((l0.length : Int) != (l1.length : Int)) = true := bne_iff_ne.mpr c3
  have ca : (l0.length == l1.length) = false := by first | simpa using c3 | (simp at c3 ⊢; omega)
  obtain rfl := Option.some.inj H
  go_enter Tryd.func94, Tryd.ntmps94
  go_wp2
  go_ret
  exact ⟨Ye2, be HB.out⟩

end Go.Proofs.YtknagppkeodggaaDoor.P


namespace Go.Proofs.YtknagppkeodggaaDoor.P
open Go.RowKit Go.Proofs.YtknagppkeodggaaDoorW.PrintWords Go.Proofs.YtknagppkeodggaaDoorW.PrintLast Go.Proofs.YtknagppkeodggaaDoorW.PrintMore
attribute [local go_sem] max2_int min2_int max_two min_two max_three min_three max_four min_four
set_option linter.unusedVariables false
set_option linter.unusedSimpArgs false

/-! ### laws_szPatch: function 28 -/
def laws_szPatch.f (k : Nat) (a2 : List (S183)) (a1 : Int) : Option (Int) := (laws_szChangeS.f k a2 a1).bind fun a8 => (if a8 < 0 then (some (-1)) else (some a8))
theorem laws_szPatch.mono : ∀ a0 a1 k, LeO (laws_szPatch.f k a0 a1) (laws_szPatch.f (k + 1) a0 a1) := by
 intro a0 a1 k
 unfold laws_szPatch.f
 repeat' first
   | (with_reducible exact laws_szChangeS.mono _ _ _)
   | (with_reducible exact LeO.refl _)
   | (with_reducible exact LeO.none _)
   | (with_reducible refine LeO.ite ?_ ?_)
   | (with_reducible refine LeO.bind ?_ (fun _ => ?_))
   | exact laws_szChangeS.mono _ _ _
   | exact LeO.none _
   | refine LeO.ite ?_ ?_
   | refine LeO.bind ?_ (fun _ => ?_)
set_option maxHeartbeats 8000000 in
set_option maxRecDepth 100000 in
theorem laws_szPatch.calls (k : Nat) (a4 : Option Addr) (a5 : Nat) (a2 : List (S183)) (a1 : Int) (r : Int) (w : World) (ad : Kd.C k183 w a4 a2.length a2) (ae : a2.length ≤ a5) (h : laws_szPatch.f k a2 a1 = some r) :
  Calls Tryd.prog 28 #[.agg #[.slice a4 a2.length a5], .int .i64 a1] w fun e w' => e = .returned (.int .i64 r) ∧ Below w.heap.size w w' := by
 have hu48 := Tryd.underlying48; have af := Aside0.mk ad; have ag := Aside0.mk ae; clear ad ae; have HB := Aside0.mk (Below.refl w.heap.size w); have H : ((laws_szChangeS.f k a2 a1).bind fun a8 => (if a8 < 0 then (some (-1)) else (some a8))) = some r := h; clear h; replace H := Option.bind_eq_some_iff.mp H; obtain ⟨a8, ak, H⟩ := H; replace H : (if a8 < 0 then (some (-1)) else (some a8)) = some r := H; have A3 := Aside0.mk ak; clear ak
 by_cases c4 : a8 < 0
 ·rw [if_pos c4] at H
  have ay : decide (a8 < 0) = true := decide_eq_true c4; clear c4; obtain rfl := Option.some.inj H
  go_enter Tryd.func28, Tryd.ntmps28
  go_wp2_with (first | ((with_reducible refine gd 2 rfl ?_); refine bx 2 48 (#[.slice a4 a2.length a5]) ?_; intro az hg w5 hbox hb; refine Ya4 (below_step (be HB.out) hb) (hbox) (bs hg (be HB.out)) (bs hg (be HB.out)) ?_; clear HB; intro HB aa aA aB; clear hb hbox hg; have ⟨aW, aX⟩ := Yc1 aa.out) | ((with_reducible refine gc 88 rfl ?_); refine gl (some 8) _ (#[.slice a4 a2.length a5, .int .i64 a1]) Tryd.func88 ?_; (with_reducible refine (laws_szChangeS.calls k _ _ a2 a1 a8 _ ?side1 ?side2 A3.out).mono ?_); (case side1 => exact cb (Kd.C_below af.out HB.out)); (case side2 => exact ag.out); rintro e w7 ⟨rfl, hb⟩; refine ⟨_, rfl, ?_⟩; refine Ya2 (bb aa hb) (below_step (bf HB.out) hb) ?_; clear aa HB; intro aa HB; (try clear hb); (try clear hb2); (try clear hk); (try clear hi)))
  go_ret
  exact ⟨Ye2, (bf HB.out)⟩
 ·rw [if_neg c4] at H
  have ay : decide (a8 < 0) = false := decide_eq_false c4; clear c4; obtain rfl := Option.some.inj H
  go_enter Tryd.func28, Tryd.ntmps28
  go_wp2_with (first | ((with_reducible refine gd 2 rfl ?_); refine bx 2 48 (#[.slice a4 a2.length a5]) ?_; intro az hg w8 hbox hb; refine Ya4 (below_step (be HB.out) hb) (hbox) (bs hg (be HB.out)) (bs hg (be HB.out)) ?_; clear HB; intro HB aa aA aB; clear hb hbox hg; have ⟨aC, aD⟩ := Yc1 aa.out) | ((with_reducible refine gc 88 rfl ?_); refine gl (some 8) _ (#[.slice a4 a2.length a5, .int .i64 a1]) Tryd.func88 ?_; (with_reducible refine (laws_szChangeS.calls k _ _ a2 a1 a8 _ ?side1 ?side2 A3.out).mono ?_); (case side1 => exact cb (Kd.C_below af.out HB.out)); (case side2 => exact ag.out); rintro e w10 ⟨rfl, hb⟩; refine ⟨_, rfl, ?_⟩; refine Ya2 (bb aa hb) (below_step (bf HB.out) hb) ?_; clear aa HB; intro aa HB; (try clear hb); (try clear hb2); (try clear hk); (try clear hi)))
  go_ret
  exact ⟨Ye2, (bf HB.out)⟩

/-! ### laws_toPatch: function 30 -/
def laws_toPatch.f (k : Nat) (a2 : List (S183)) : Option ((List (S120))) := (laws_toChangeS.f k a2).bind fun ab => (some ab)
theorem laws_toPatch.mono : ∀ a0 k, LeO (laws_toPatch.f k a0) (laws_toPatch.f (k + 1) a0) := by
 intro a0 k
 unfold laws_toPatch.f
 repeat' first
   | (with_reducible exact laws_toChangeS.mono _ _)
   | (with_reducible exact LeO.refl _)
   | (with_reducible exact LeO.none _)
   | (with_reducible refine LeO.ite ?_ ?_)
   | (with_reducible refine LeO.bind ?_ (fun _ => ?_))
   | exact laws_toChangeS.mono _ _
   | exact LeO.none _
   | refine LeO.ite ?_ ?_
   | refine LeO.bind ?_ (fun _ => ?_)
set_option maxHeartbeats 8000000 in
set_option maxRecDepth 100000 in
theorem laws_toPatch.calls (k : Nat) (a4 : Option Addr) (a5 : Nat) (a2 : List (S183)) (r : List (S120)) (w : World) (ad : Kd.C k183 w a4 a2.length a2) (ae : a2.length ≤ a5) (h : laws_toPatch.f k a2 = some r) :
  Calls Tryd.prog 30 #[.agg #[.slice a4 a2.length a5]] w fun e w' => ∃ v0_ : Value, e = .returned (.agg #[v0_]) ∧ Kd.R k120 120 w' w.heap.size (fun _ => True) v0_ r ∧ Below w.heap.size w w' := by
 have hu48 := Tryd.underlying48; have hu52 := Tryd.underlying52; have af := Aside0.mk ad; have ag := Aside0.mk ae; clear ad ae; have HB := Aside0.mk (Below.refl w.heap.size w); have H : ((laws_toChangeS.f k a2).bind fun ab => (some ab)) = some r := h; clear h; replace H := Option.bind_eq_some_iff.mp H; obtain ⟨ab, A20, H⟩ := H; replace H : (some ab) = some r := H; have A2 := Aside0.mk A20; clear A20; obtain rfl := Option.some.inj H
 go_enter Tryd.func30, Tryd.ntmps30
 go_wp2_with (first | ((with_reducible refine gd 1 rfl ?_); refine bx 1 48 (#[.slice a4 a2.length a5]) ?_; intro gb758 hg w3 hbox hb; refine Ya4 (below_step (be HB.out) hb) (hbox) (bs hg (be HB.out)) (bs hg (be HB.out)) ?_; clear HB; intro HB a6 GW758 GE758; clear hb hbox hg) | ((with_reducible refine gd 2 rfl ?_); refine bx 2 52 (#[.slice none 0 0]) ?_; intro aq hg w4 hbox hb; refine Ya7 (bb a6 hb) (below_step (bf HB.out) hb) (hbox) (bs hg (bf HB.out)) (bs hg (bf HB.out)) (bl hg a6) (br hg a6) ?_; clear a6 HB; intro a6 HB a9 GW759 GE759 aE aF; clear hb hbox hg) | ((with_reducible refine gd 3 rfl ?_); refine bx 3 52 (#[.slice none 0 0]) ?_; intro aG hg w5 hbox hb; refine Ya10 (bb a6 hb) (bb a9 hb) (below_step (bf HB.out) hb) (hbox) (bs hg (bf HB.out)) (bs hg (bf HB.out)) (bl hg a6) (br hg a6) (bl hg a9) (br hg a9) ?_; clear a6 a9 HB; intro a6 a9 HB al GW760 GE760 aH aI aJ aK; clear hb hbox hg; have hnb6 := aE.out; have hnc6 := aF.out; have aL := aH.out; have aM := aI.out; have ⟨aN, aO⟩ := Yc1 a6.out) | ((with_reducible refine gc 92 rfl ?_); refine gl (some 6) _ (#[.slice a4 a2.length a5]) Tryd.func92 ?_; (with_reducible refine (laws_toChangeS.calls k _ _ a2 ab _ ?side1 ?side2 A2.out).mono ?_); (case side1 => exact cb (Kd.C_below af.out HB.out)); (case side2 => exact ag.out); rintro e w9 ⟨v762, rfl, ho0, hb⟩; refine ⟨_, rfl, ?_⟩; refine Ya5 (Kd.R_lower ho0 (below_size (bf HB.out))) (bb a6 hb) (bb a9 hb) (bb al hb) (below_step (bf HB.out) hb) ?_; clear a6 a9 al HB; intro ar a6 a9 al HB; (try clear hb); (try clear hb2); (try clear hk); (try clear hi); (try clear ho0); obtain ⟨am, an, aP⟩ := Kd.R_slice ar.out; subst aP; have hnb11 := aK.out; have hnc11 := aJ.out; have ⟨aY, aZ⟩ := Yc1 al.out; have ⟨b0, b1⟩ := Yc1 a9.out))
 refine bodyPost_ret (results_cell_row rfl _ _ aq 52 #[.slice am ab.length an] (0, 0) _ rfl (bp a9.out) Tryd.underlying52 rfl (by kernel_rfl)) rfl ?_; exact ⟨_, Ye2, by (with_reducible repeat (first | apply Kd.R_alloc | apply Kd.R_drewN | apply Kd.R_drew)); exact Kd.R_mono (Kd.R_far (p := ⟨aq, 0, none⟩) (Kd.R_far (p := ⟨aG, 0, none⟩) (Kd.R_types (Kd.R_types ar.out al.out (by decide)) a9.out (by decide)) (fun _ hk => hk.1.2) (.slice am ab.length an)) (fun _ hk => hk.2) (.slice am ab.length an)) (fun _ hk => trivial), (bf HB.out)⟩

/-! ### laws_eqPatch: function 32 -/
def laws_eqPatch.f (k : Nat) (a2 : List (S120)) (a7 : List (S120)) : Option (Bool) := (laws_eqChangeS.f k a2 a7).bind fun ah => (if ah = true then (some true) else (some false))
theorem laws_eqPatch.mono : ∀ a0 a1 k, LeO (laws_eqPatch.f k a0 a1) (laws_eqPatch.f (k + 1) a0 a1) := by
 intro a0 a1 k
 unfold laws_eqPatch.f
 repeat' first
   | (with_reducible exact laws_eqChangeS.mono _ _ _)
   | (with_reducible exact LeO.refl _)
   | (with_reducible exact LeO.none _)
   | (with_reducible refine LeO.ite ?_ ?_)
   | (with_reducible refine LeO.bind ?_ (fun _ => ?_))
   | exact laws_eqChangeS.mono _ _ _
   | exact LeO.none _
   | refine LeO.ite ?_ ?_
   | refine LeO.bind ?_ (fun _ => ?_)
set_option maxHeartbeats 8000000 in
set_option maxRecDepth 100000 in
theorem laws_eqPatch.calls (k : Nat) (a4 : Option Addr) (a5 : Nat) (a2 : List (S120)) (ai : Option Addr) (aj : Nat) (a7 : List (S120)) (r : Bool) (w : World) (ad : Kd.C k120 w a4 a2.length a2) (ae : a2.length ≤ a5) (au : Kd.C k120 w ai a7.length a7) (av : a7.length ≤ aj) (h : laws_eqPatch.f k a2 a7 = some r) :
  Calls Tryd.prog 32 #[.agg #[.slice a4 a2.length a5], .agg #[.slice ai a7.length aj]] w fun e w' => e = .returned (.bool r) ∧ Below w.heap.size w w' := by
 have hu52 := Tryd.underlying52; have af := Aside0.mk ad; have ag := Aside0.mk ae; clear ad ae; have aw := Aside0.mk au; have ax := Aside0.mk av; clear au av; have HB := Aside0.mk (Below.refl w.heap.size w); have H : ((laws_eqChangeS.f k a2 a7).bind fun ah => (if ah = true then (some true) else (some false))) = some r := h; clear h; replace H := Option.bind_eq_some_iff.mp H; obtain ⟨ah, ak, H⟩ := H; replace H : (if ah = true then (some true) else (some false)) = some r := H; have A3 := Aside0.mk ak; clear ak
 by_cases c4 : ah = true
 ·subst c4
  have H1 : (some true) = some r := by rw [if_pos rfl] at H; exact H
  clear H; have H := H1; clear H1; obtain rfl := Option.some.inj H
  go_enter Tryd.func32, Tryd.ntmps32
  go_wp2_with (first | ((with_reducible refine gd 2 rfl ?_); refine bx 2 52 (#[.slice a4 a2.length a5]) ?_; intro aQ hg w5 hbox hb; refine Ya4 (below_step (be HB.out) hb) (hbox) (bs hg (be HB.out)) (bs hg (be HB.out)) ?_; clear HB; intro HB a3 aR aS; clear hb hbox hg) | ((with_reducible refine gd 3 rfl ?_); refine bx 3 52 (#[.slice ai a7.length aj]) ?_; intro aT hg w6 hbox hb; refine Ya7 (bb a3 hb) (below_step (bf HB.out) hb) (hbox) (bs hg (bf HB.out)) (bs hg (bf HB.out)) (bl hg a3) (br hg a3) ?_; clear a3 HB; intro a3 HB ac aU aV ao ap; clear hb hbox hg; have aL := ao.out; have aM := ap.out; have ⟨aN, aO⟩ := Yc1 a3.out; have ⟨aC, aD⟩ := Yc1 ac.out) | ((with_reducible refine gc 94 rfl ?_); refine gl (some 9) _ (#[.slice a4 a2.length a5, .slice ai a7.length aj]) Tryd.func94 ?_; (with_reducible refine (laws_eqChangeS.calls k _ _ a2 _ _ a7 true _ ?side1 ?side2 ?side3 ?side4 A3.out).mono ?_); (case side1 => exact cb (Kd.C_below af.out HB.out)); (case side2 => exact ag.out); (case side3 => exact cb (Kd.C_below aw.out HB.out)); (case side4 => exact ax.out); rintro e w10 ⟨rfl, hb⟩; refine ⟨_, rfl, ?_⟩; refine Ya3 (bb a3 hb) (bb ac hb) (below_step (bf HB.out) hb) ?_; clear a3 ac HB; intro a3 ac HB; (try clear hb); (try clear hb2); (try clear hk); (try clear hi)))
  go_ret
  exact ⟨Ye2, (bf HB.out)⟩
 ·replace c4 := Bool.eq_false_iff.mpr c4; subst c4
  have H1 : (some false) = some r := by rw [if_neg (show ¬ (false = true) by decide)] at H; exact H
  clear H; have H := H1; clear H1; obtain rfl := Option.some.inj H
  go_enter Tryd.func32, Tryd.ntmps32
  go_wp2_with (first | ((with_reducible refine gd 2 rfl ?_); refine bx 2 52 (#[.slice a4 a2.length a5]) ?_; intro aQ hg w11 hbox hb; refine Ya4 (below_step (be HB.out) hb) (hbox) (bs hg (be HB.out)) (bs hg (be HB.out)) ?_; clear HB; intro HB a3 aR aS; clear hb hbox hg) | ((with_reducible refine gd 3 rfl ?_); refine bx 3 52 (#[.slice ai a7.length aj]) ?_; intro aT hg w12 hbox hb; refine Ya7 (bb a3 hb) (below_step (bf HB.out) hb) (hbox) (bs hg (bf HB.out)) (bs hg (bf HB.out)) (bl hg a3) (br hg a3) ?_; clear a3 HB; intro a3 HB ac aU aV ao ap; clear hb hbox hg; have hnb13 := ao.out; have hnc13 := ap.out; have ⟨b2, b3⟩ := Yc1 a3.out; have ⟨b4, b5⟩ := Yc1 ac.out) | ((with_reducible refine gc 94 rfl ?_); refine gl (some 9) _ (#[.slice a4 a2.length a5, .slice ai a7.length aj]) Tryd.func94 ?_; (with_reducible refine (laws_eqChangeS.calls k _ _ a2 _ _ a7 false _ ?side1 ?side2 ?side3 ?side4 A3.out).mono ?_); (case side1 => exact cb (Kd.C_below af.out HB.out)); (case side2 => exact ag.out); (case side3 => exact cb (Kd.C_below aw.out HB.out)); (case side4 => exact ax.out); rintro e w16 ⟨rfl, hb⟩; refine ⟨_, rfl, ?_⟩; refine Ya3 (bb a3 hb) (bb ac hb) (below_step (bf HB.out) hb) ?_; clear a3 ac HB; intro a3 ac HB; (try clear hb); (try clear hb2); (try clear hk); (try clear hi)))
  go_ret
  exact ⟨Ye2, (bf HB.out)⟩

end Go.Proofs.YtknagppkeodggaaDoor.P


namespace Go.Proofs.YtknagppkeodggaaDoor.P
open Go.RowKit Go.Proofs.YtknagppkeodggaaDoorW.PrintWords Go.Proofs.YtknagppkeodggaaDoorW.PrintLast Go.Proofs.YtknagppkeodggaaDoorW.PrintMore
attribute [local go_sem] max2_int min2_int max_two min_two max_three min_three max_four min_four
set_option linter.unusedVariables false
set_option linter.unusedSimpArgs false

/-! ### spec_l6Change: function 91 -/
def spec_l6Change.l0 : Nat → ByteArray → Int → List (S120) → Option (ByteArray × Bool × ByteArray × Bool × Bool × ByteArray × Bool × Bool)
 | 0, _, _, _ => none
 | k + 1, x1, x6, a5 => if x6 < (a5.length : Int) then (if 0 ≤ x6 then (if ((rd_T120 a5 x6).f0).toList = x1.toList then (some ((rd_T120 a5 x6).f0, (rd_T120 a5 x6).f1.f0, (rd_T120 a5 x6).f1.f1, (rd_T120 a5 x6).f1.f2, (rd_T120 a5 x6).f2.f0, (rd_T120 a5 x6).f2.f1, (rd_T120 a5 x6).f2.f2, true)) else (spec_l6Change.l0 k x1 (wrap64 (x6 + 1)) a5)) else (none)) else (some ((⟨#[]⟩ : ByteArray), false, (⟨#[]⟩ : ByteArray), false, false, (⟨#[]⟩ : ByteArray), false, false))
def spec_l6Change.f (k : Nat) (a3 : List (S120)) (a1 : ByteArray) : Option (ByteArray × Bool × ByteArray × Bool × Bool × ByteArray × Bool × Bool) := spec_l6Change.l0 k a1 0 a3
theorem spec_l6Change.mono_l : ∀ k, (∀ y0 y1 y2, LeO (spec_l6Change.l0 k y0 y1 y2) (spec_l6Change.l0 (k + 1) y0 y1 y2))
 | 0 => fun _ _ _ r h => by simp [spec_l6Change.l0] at h
 | k + 1 => by
  have ih0 := spec_l6Change.mono_l k
  ·intro y0 y1 y2
   unfold spec_l6Change.l0
   repeat' first
   | (with_reducible exact ih0 _ _ _)
   | (with_reducible exact LeO.refl _)
   | (with_reducible exact LeO.none _)
   | (with_reducible refine LeO.ite ?_ ?_)
   | (with_reducible refine LeO.bind ?_ (fun _ => ?_))
   | exact ih0 _ _ _
   | exact LeO.none _
   | refine LeO.ite ?_ ?_
   | refine LeO.bind ?_ (fun _ => ?_)
theorem spec_l6Change.mono : ∀ a0 a1 k, LeO (spec_l6Change.f k a0 a1) (spec_l6Change.f (k + 1) a0 a1) := by
 intro a0 a1 k; have ih0 := spec_l6Change.mono_l k
 unfold spec_l6Change.f
 repeat' first
   | (with_reducible exact ih0 _ _ _)
   | (with_reducible exact LeO.refl _)
   | (with_reducible exact LeO.none _)
   | (with_reducible refine LeO.ite ?_ ?_)
   | (with_reducible refine LeO.bind ?_ (fun _ => ?_))
   | exact ih0 _ _ _
   | exact LeO.none _
   | refine LeO.ite ?_ ?_
   | refine LeO.bind ?_ (fun _ => ?_)
set_option maxHeartbeats 8000000 in
set_option maxRecDepth 100000 in
theorem spec_l6Change.calls (k : Nat) (a9 : Option Addr) (aa : Nat) (a3 : List (S120)) (a1 : ByteArray) (r1 : ByteArray) (r2 : Bool) (r3 : ByteArray) (r4 : Bool) (r5 : Bool) (r6 : ByteArray) (r7 : Bool) (r8 : Bool) (w : World) (ap : Kd.C k120 w a9 a3.length a3) (aq : a3.length ≤ aa) (h : spec_l6Change.f k a3 a1 = some (r1, r2, r3, r4, r5, r6, r7, r8)) :
  Calls Tryd.prog 91 #[.agg #[.slice a9 a3.length aa], .string a1] w fun e w' => e = .returned (.tuple #[.agg #[.string r1, .bool r2, .string r3, .bool r4, .bool r5, .string r6, .bool r7], .bool r8]) ∧ Below w.heap.size w w' := by
 have hu52 := Tryd.underlying52; have hu120 := Tryd.underlying120; have ab := Aside0.mk ap; have HC0_0 := Aside0.mk aq; clear ap aq; have HB := Aside0.mk (Below.refl w.heap.size w); have H : (spec_l6Change.l0 k a1 0 a3) = some (r1, r2, r3, r4, r5, r6, r7, r8) := h; clear h; have H' := Aside0.mk H; clear H
 go_enter Tryd.func91, Tryd.ntmps91
 go_wp2_with (first | ((with_reducible refine gd 2 rfl ?_); refine bx 2 52 (#[.slice a9 a3.length aa]) ?_; intro aB hg w3 hbox hb; refine Ya4 (below_step (be HB.out) hb) (hbox) (bs hg (be HB.out)) (bs hg (be HB.out)) ?_; clear HB; intro HB a4 GW683 GE683; clear hb hbox hg) | ((with_reducible refine gd 4 rfl ?_); refine bx 4 120 (#[.string (⟨#[]⟩ : ByteArray), .bool false, .string (⟨#[]⟩ : ByteArray), .bool false, .bool false, .string (⟨#[]⟩ : ByteArray), .bool false]) ?_; intro ac hg w4 hbox hb; refine Ya7 (bb a4 hb) (below_step (bf HB.out) hb) (hbox) (bs hg (bf HB.out)) (bs hg (bf HB.out)) (bl hg a4) (br hg a4) ?_; clear a4 HB; intro a4 HB a6 GW684 GE684 ad ae; clear hb hbox hg))
 go_loopg [6] k (fun kq v6 w' => ∃ (a2 : Int) (af : ByteArray) (ag : Bool) (ah : ByteArray) (ai : Bool) (aj : Bool) (ak : ByteArray) (al : Bool), v6 = .int .i64 a2 ∧ Aside0 (spec_l6Change.l0 kq a1 a2 a3 = some (r1, r2, r3, r4, r5, r6, r7, r8)) ∧ Aside0 (kq ≤ k) ∧ Aside0 (w'.heap[aB]? = some (.cells #[(.slice a9 a3.length aa)] 52 (0, 0))) ∧ Aside0 (w'.heap[ac]? = some (.cells #[.string af, .bool ag, .string ah, .bool ai, .bool aj, .string ak, .bool al] 120 (0, 0))) ∧ Aside0 (Below w.heap.size w w'))
 case atStart => exact ⟨(0), ((⟨#[]⟩ : ByteArray)), (false), ((⟨#[]⟩ : ByteArray)), (false), (false), ((⟨#[]⟩ : ByteArray)), (false), Ye1, H', ⟨Nat.le_refl _⟩, ⟨bk a4.out⟩, ⟨bk a6.out⟩, ⟨bf HB.out⟩⟩
 case round =>
  clear H'; (try clear p2); obtain ⟨a2, af, ag, ah, ai, aj, ak, al, rfl, HA, HK1, a4, a6, HB⟩ := hrel
  cases gk with
  | zero => exact absurd HA.out (by simp [spec_l6Change.l0])
  | succ k1 =>
   have H := HA.out; clear HA; simp only [spec_l6Change.l0] at H
   by_cases c5 : a2 < (a3.length : Int)
   ·rw [if_pos c5] at H
    have aC : decide (a2 < (a3.length : Int)) = true := decide_eq_true c5; clear c5
    by_cases c6 : 0 ≤ a2
    ·rw [if_pos c6] at H
     have c6b0 : decide (0 ≤ a2) = true := decide_eq_true c6; clear c6
     by_cases c7 : ((rd_T120 a3 a2).f0).toList = a1.toList
     ·rw [if_pos c7] at H
      have aD : (((rd_T120 a3 a2).f0).toList == a1.toList) = true := beq_iff_eq.mpr c7; have aE : (((rd_T120 a3 a2).f0).toList != a1.toList) = false := bne_eq_false_iff_eq.mpr c7; clear c7; simp only [Option.some.injEq, Prod.mk.injEq] at H; obtain ⟨rfl, rfl, rfl, rfl, rfl, rfl, rfl, rfl⟩ := H; have hnb8 := ad.out; have hnc8 := ae.out; have ⟨aO, aP⟩ := Yc1 a4.out; have a7 : 0 ≤ (a2 : Int) := oda; have a8 : a2 < (a3.length : Int) := oda; obtain ⟨ar, am, aF, aG, aH, aI, aJ, aK, aL⟩ := at_T120 (Kd.C_below ab.out HB.out) a2 a7 a8
      cases am
      replace a7 := eq_true a7; replace a8 := eq_true a8; have an : 0 ≤ (a2 : Int) := oda; have ao : a2 < (a3.length : Int) := oda; obtain ⟨aM, aN, au, av, aw, ax, ay, az, aA⟩ := at_T120 ab.out a2 an ao
      obtain rfl : ar = aM := (by injection aN)
      replace au := pw_cell_below HB.out au; replace av := pw_cell_below HB.out av; replace aw := pw_cell_below HB.out aw; replace ax := pw_cell_below HB.out ax; replace ay := pw_cell_below HB.out ay; replace az := pw_cell_below HB.out az; replace aA := pw_cell_below HB.out aA; replace an := eq_true an; replace ao := eq_true ao; have ⟨aQ, aR, aS, aT, aU, aV, aW, aX, aY, aZ, b0, b1, b2, b3⟩ := Yc7 a6.out
      go_wp2
      refine bodyPost_ret (results_ct rfl _ _ ac 120 #[.string ((rd_T120 a3 a2).f0), .bool ((rd_T120 a3 a2).f1.f0), .string ((rd_T120 a3 a2).f1.f1), .bool ((rd_T120 a3 a2).f1.f2), .bool ((rd_T120 a3 a2).f2.f0), .string ((rd_T120 a3 a2).f2.f1), .bool ((rd_T120 a3 a2).f2.f2)] (0, 0) _ rfl (bp a6.out) Tryd.underlying120 rfl (by kernel_rfl)) rfl ?_; exact ⟨Ye2, (bf HB.out)⟩
     ·rw [if_neg c7] at H
      have aD : (((rd_T120 a3 a2).f0).toList == a1.toList) = false := beq_eq_false_iff_ne.mpr c7; have aE : (((rd_T120 a3 a2).f0).toList != a1.toList) = true := bne_iff_ne.mpr c7; have H' := Aside0.mk H; clear H; have hnb11 := ad.out; have hnc11 := ae.out; have ⟨b4, b5⟩ := Yc1 a4.out; have a7 : 0 ≤ (a2 : Int) := oda; have a8 : a2 < (a3.length : Int) := oda; obtain ⟨ar, am, aF, aG, aH, aI, aJ, aK, aL⟩ := at_T120 (Kd.C_below ab.out HB.out) a2 a7 a8
      cases am
      replace a7 := eq_true a7; replace a8 := eq_true a8
      go_wp2
      go_roundg k1
      case measure => have := HK1.out; omega
      case rel => exact ⟨(wrap64 (a2 + 1)), (af), (ag), (ah), (ai), (aj), (ak), (al), Ye1, H', ⟨by have := HK1.out; omega⟩, ⟨bk a4.out⟩, ⟨bk a6.out⟩, ⟨bf HB.out⟩⟩
    ·rw [if_neg c6] at H
     exact absurd H (by simp)
   ·rw [if_neg c5] at H
    have aC : decide (a2 < (a3.length : Int)) = false := decide_eq_false c5; clear c5; simp only [Option.some.injEq, Prod.mk.injEq] at H; obtain ⟨rfl, rfl, rfl, rfl, rfl, rfl, rfl, rfl⟩ := H; have hnb13 := ad.out; have hnc13 := ae.out; have ⟨b6, b7⟩ := Yc1 a4.out; have ⟨b8, b9, ba, bd, bg, bh, bi, bj, bm, bn, bo, bq, bu, bv⟩ := Yc7 a6.out
    go_wp2
    refine bodyPost_ret (results_ct rfl _ _ ac 120 #[.string (⟨#[]⟩ : ByteArray), .bool false, .string (⟨#[]⟩ : ByteArray), .bool false, .bool false, .string (⟨#[]⟩ : ByteArray), .bool false] (0, 0) _ rfl (bp a6.out) Tryd.underlying120 rfl (by kernel_rfl)) rfl ?_; exact ⟨Ye2, (bf HB.out)⟩

end Go.Proofs.YtknagppkeodggaaDoor.P


namespace Go.Proofs.YtknagppkeodggaaDoor.P
open Go.RowKit Go.Proofs.YtknagppkeodggaaDoorW.PrintWords Go.Proofs.YtknagppkeodggaaDoorW.PrintLast Go.Proofs.YtknagppkeodggaaDoorW.PrintMore
attribute [local go_sem] max2_int min2_int max_two min_two max_three min_three max_four min_four
set_option linter.unusedVariables false
set_option linter.unusedSimpArgs false

/-! ### spec_l6Name: function 90 -/
mutual
def spec_l6Name.l0 : Nat → List ByteArray → ByteArray → List ByteArray → Bool → Int → Option (List ByteArray)
 | 0, _, _, _, _, _ => none
 | k + 1, x0, x1, x5, x6, x7 => if x7 < (x0.length : Int) then (if x6 = true then (spec_l6Name.j1 k x0 x1 x5 x6 x7 false) else (if 0 ≤ x7 then (spec_l6Name.j1 k x0 x1 x5 x6 x7 (!(Op.bytesLess ((rdOf ByteArray.empty x0 x7).toList) x1.toList))) else (none))) else (if x6 = true then (some x5) else (if x5.length < 8796093022208 then (some (x5 ++ [x1])) else (none)))
def spec_l6Name.j1 : Nat → List ByteArray → ByteArray → List ByteArray → Bool → Int → Bool → Option (List ByteArray)
 | 0, _, _, _, _, _, _ => none
 | k + 1, x0, x1, x5, x6, x7, x24 => if x24 = true then (if x5.length < 8796093022208 then ((some (x5 ++ [x1] : List ByteArray)).bind fun a4 => (if 0 ≤ x7 then (if x7 < (x0.length : Int) then (if (rdOf ByteArray.empty x0 x7).toList = x1.toList then (spec_l6Name.l0 k x0 x1 a4 true (wrap64 (x7 + 1))) else (if a4.length < 8796093022208 then (spec_l6Name.l0 k x0 x1 (a4 ++ [rdOf ByteArray.empty x0 x7]) true (wrap64 (x7 + 1))) else (none))) else (none)) else (none))) else (none)) else (if 0 ≤ x7 then (if x7 < (x0.length : Int) then (if (rdOf ByteArray.empty x0 x7).toList = x1.toList then (spec_l6Name.l0 k x0 x1 x5 x6 (wrap64 (x7 + 1))) else (if x5.length < 8796093022208 then (spec_l6Name.l0 k x0 x1 (x5 ++ [rdOf ByteArray.empty x0 x7]) x6 (wrap64 (x7 + 1))) else (none))) else (none)) else (none))
end
def spec_l6Name.f (k : Nat) (l0 : List ByteArray) (a1 : ByteArray) : Option (List ByteArray) := spec_l6Name.l0 k l0 a1 (([] : List ByteArray)) false 0
theorem spec_l6Name.mono_l : ∀ k, (∀ y0 y1 y2 y3 y4, LeO (spec_l6Name.l0 k y0 y1 y2 y3 y4) (spec_l6Name.l0 (k + 1) y0 y1 y2 y3 y4)) ∧ (∀ y0 y1 y2 y3 y4 y5, LeO (spec_l6Name.j1 k y0 y1 y2 y3 y4 y5) (spec_l6Name.j1 (k + 1) y0 y1 y2 y3 y4 y5))
 | 0 => ⟨fun _ _ _ _ _ r h => by simp [spec_l6Name.l0] at h, fun _ _ _ _ _ _ r h => by simp [spec_l6Name.j1] at h⟩
 | k + 1 => by
  obtain ⟨ih0, ih1⟩ := spec_l6Name.mono_l k; refine ⟨?_, ?_⟩
  ·intro y0 y1 y2 y3 y4
   unfold spec_l6Name.l0
   repeat' first
   | (with_reducible exact ih0 _ _ _ _ _)
   | (with_reducible exact ih1 _ _ _ _ _ _)
   | (with_reducible exact LeO.refl _)
   | (with_reducible exact LeO.none _)
   | (with_reducible refine LeO.ite ?_ ?_)
   | (with_reducible refine LeO.bind ?_ (fun _ => ?_))
   | exact ih0 _ _ _ _ _
   | exact ih1 _ _ _ _ _ _
   | exact LeO.none _
   | refine LeO.ite ?_ ?_
   | refine LeO.bind ?_ (fun _ => ?_)
  ·intro y0 y1 y2 y3 y4 y5
   unfold spec_l6Name.j1
   repeat' first
   | (with_reducible exact ih0 _ _ _ _ _)
   | (with_reducible exact ih1 _ _ _ _ _ _)
   | (with_reducible exact LeO.refl _)
   | (with_reducible exact LeO.none _)
   | (with_reducible refine LeO.ite ?_ ?_)
   | (with_reducible refine LeO.bind ?_ (fun _ => ?_))
   | exact ih0 _ _ _ _ _
   | exact ih1 _ _ _ _ _ _
   | exact LeO.none _
   | refine LeO.ite ?_ ?_
   | refine LeO.bind ?_ (fun _ => ?_)
theorem spec_l6Name.mono : ∀ a0 a1 k, LeO (spec_l6Name.f k a0 a1) (spec_l6Name.f (k + 1) a0 a1) := by
 intro a0 a1 k; obtain ⟨ih0, ih1⟩ := spec_l6Name.mono_l k
 unfold spec_l6Name.f
 repeat' first
   | (with_reducible exact ih0 _ _ _ _ _)
   | (with_reducible exact ih1 _ _ _ _ _ _)
   | (with_reducible exact LeO.refl _)
   | (with_reducible exact LeO.none _)
   | (with_reducible refine LeO.ite ?_ ?_)
   | (with_reducible refine LeO.bind ?_ (fun _ => ?_))
   | exact ih0 _ _ _ _ _
   | exact ih1 _ _ _ _ _ _
   | exact LeO.none _
   | refine LeO.ite ?_ ?_
   | refine LeO.bind ?_ (fun _ => ?_)
set_option maxHeartbeats 8000000 in
set_option maxRecDepth 100000 in
theorem spec_l6Name.calls (k : Nat) (A0 : Option Addr) (c0 : Nat) (l0 : List ByteArray) (a1 : ByteArray) (r : List ByteArray) (w : World) (hr0 : Kd.C Kd.string w A0 l0.length l0) (hc0 : l0.length ≤ c0) (h : spec_l6Name.f k l0 a1 = some r) :
  Calls Tryd.prog 90 #[.slice A0 l0.length c0, .string a1] w fun e w' => ∃ v0_ : Value, e = .returned (v0_) ∧ Kd.R Kd.string 9 w' w.heap.size (fun _ => True) v0_ r ∧ Below w.heap.size w w' := by
 have a8 := Aside0.mk hr0; have HC0 := Aside0.mk hc0; clear hr0 hc0; have HB := Aside0.mk (Below.refl w.heap.size w); have H : (spec_l6Name.l0 k l0 a1 (([] : List ByteArray)) false 0) = some r := h; clear h
 obtain ⟨aJ, af⟩ : ∃ y_ : List ByteArray, y_ = (([] : List ByteArray)) := ⟨_, rfl⟩
 replace H : (spec_l6Name.l0 k l0 a1 aJ false 0) = some r := by first | (rw [af]; with_reducible exact H) | (have H2_ := (Option.bind_some _ _).symm.trans H; rw [af]; with_reducible exact H2_) | (have H2_ := (Option.bind_some _ _).symm.trans H; with_reducible exact H2_) | with_reducible exact H | (rw [af]; exact H) | exact H
 have aK := Aside0.mk af; clear af; have H' := Aside0.mk H; clear H
 go_enter Tryd.func90, Tryd.ntmps90
 go_wp2_with (first | ((with_reducible refine gd 8 rfl ?_); refine Kd.R_lit Kd.string _ 9 ?hg (N := 8) ?hd (xs := ([] : List ByteArray)) (inner := []) (ok := fun _ => True) (okp := fun _ => True) ?hr ?hp (fun _ hk => hk) trivial (Below.refl _ _) (Nat.le_refl _) (by simp) ?_; (case hd => rfl); (case hg => rfl); (case hr => first | (go_simp; done) | (go_simp; rfl)); (case hp => exact (Reps.none _ _)); intro v664 w3 ho4 hb hg_ hnew_; clear hg_ hnew_; (first | rw [← aK.out] at ho4 | (simp only [Int.reduceToNat] at ho4; rw [← aK.out] at ho4)); refine Ya2 (Kd.R_lower ho4 (below_size (be HB.out))) (below_step (be HB.out) hb) ?_; clear HB; intro aZ HB; clear hb ho4))
 go_loopg [5, 6, 7] k (fun kq v5 v6 v7 w' => ∃ (a3 : List ByteArray) (a7 : Bool) (a2 : Int), v6 = .bool a7 ∧ v7 = .int .i64 a2 ∧ Aside0 (spec_l6Name.l0 kq l0 a1 a3 a7 a2 = some r) ∧ Aside0 (kq ≤ k) ∧ Aside0 (Kd.R Kd.string 9 w' w.heap.size (fun _ => True) v5 a3) ∧ Aside0 (Below w.heap.size w w'))
 case atStart => exact ⟨(aJ), (false), (0), Ye1, Ye1, H', ⟨Nat.le_refl _⟩, ⟨kr aZ.out⟩, ⟨be HB.out⟩⟩
 case round =>
  clear H'; (try clear p2); obtain ⟨a3, a7, a2, rfl, rfl, HA, HK1, a5, HB⟩ := hrel
  cases gk with
  | zero => exact absurd HA.out (by simp [spec_l6Name.l0])
  | succ k1 =>
   have H := HA.out; clear HA; simp only [spec_l6Name.l0] at H
   by_cases c5 : a2 < (l0.length : Int)
   ·rw [if_pos c5] at H
    have aM : decide (a2 < (l0.length : Int)) = true := decide_eq_true c5; clear c5; have az := Aside0.mk H; clear H
    go_upto_region 6 with (fail)
    go_cut [24] (fun v24 wc => ∃ (kq : Nat) (al : Bool), v24 = .bool al ∧ Aside0 (spec_l6Name.j1 kq l0 a1 a3 a7 a2 al = some r) ∧ Aside0 (kq ≤ k1) ∧ Aside0 (Kd.R Kd.string 9 wc w.heap.size (fun _ => True) u5 a3) ∧ Aside0 (Below w.heap.size w wc))
    case first =>
     have H := az.out; clear az
     by_cases c7 : a7 = true
     ·subst c7
      have H1 : (spec_l6Name.j1 k1 l0 a1 a3 true a2 false) = some r := by rw [if_pos rfl] at H; exact H
      clear H; have H := H1; clear H1; have H' := Aside0.mk H; clear H
      go_wp2
      go_meet
      case rel => exact ⟨_, (false), Ye1, H', ⟨by have := HK1.out; first | omega | exact Nat.le_refl _⟩, ⟨kr a5.out⟩, ⟨be HB.out⟩⟩
     ·replace c7 := Bool.eq_false_iff.mpr c7; subst c7
      have H1 : (if 0 ≤ a2 then (spec_l6Name.j1 k1 l0 a1 a3 false a2 (!(Op.bytesLess ((rdOf ByteArray.empty l0 a2).toList) a1.toList))) else (none)) = some r := by rw [if_neg (show ¬ (false = true) by decide)] at H; exact H
      clear H; have H := H1; clear H1
      by_cases c8 : 0 ≤ a2
      ·rw [if_pos c8] at H
       have aA : decide (0 ≤ a2) = true := decide_eq_true c8; clear c8; (first | rw [aA] | (simp only [i64_w, i32_w]; rw [aA]) | skip); have H' := Aside0.mk H; clear H; have am : 0 ≤ (a2 : Int) := oda; have an : a2 < (l0.length : Int) := oda; obtain ⟨ad669, b0, b1⟩ := Kd.at_string (Kd.C_below a8.out HB.out) a2 am an
       cases b0
       replace am := eq_true am; replace an := eq_true an
       go_wp2
       go_meet
       case rel => exact ⟨_, (!(Op.bytesLess ((rdOf ByteArray.empty l0 a2).toList) a1.toList)), Ye1, H', ⟨by have := HK1.out; first | omega | exact Nat.le_refl _⟩, ⟨kr a5.out⟩, ⟨be HB.out⟩⟩
      ·rw [if_neg c8] at H
       exact absurd H (by simp)
    case rest =>
     clear az; (try clear p2); (try clear c5); (try clear aM); (try clear p6); (try clear q6); (try clear hx6); (try clear c7); (try clear c8); (try clear aA); (try clear b1); (try clear p2); (try clear am); (try clear an); obtain ⟨kq, al, rfl, HA, HJ5, a5, HB⟩ := hcut
     cases kq with
     | zero => exact absurd HA.out (by simp [spec_l6Name.j1])
     | succ a6 =>
      have H := HA.out; clear HA; simp only [spec_l6Name.j1] at H
      by_cases c9 : al = true
      ·subst c9
       have H1 : (if a3.length < 8796093022208 then ((some (a3 ++ [a1] : List ByteArray)).bind fun a4 => (if 0 ≤ a2 then (if a2 < (l0.length : Int) then (if (rdOf ByteArray.empty l0 a2).toList = a1.toList then (spec_l6Name.l0 a6 l0 a1 a4 true (wrap64 (a2 + 1))) else (if a4.length < 8796093022208 then (spec_l6Name.l0 a6 l0 a1 (a4 ++ [rdOf ByteArray.empty l0 a2]) true (wrap64 (a2 + 1))) else (none))) else (none)) else (none))) else (none)) = some r := by rw [if_pos rfl] at H; exact H
       clear H; have H := H1; clear H1
       by_cases c10 : a3.length < 8796093022208
       ·rw [if_pos c10] at H
        have aN := Aside0.mk c10; clear c10
        obtain ⟨a4, ag⟩ : ∃ y_ : List ByteArray, y_ = (a3 ++ [a1]) := ⟨_, rfl⟩
        replace H : (if 0 ≤ a2 then (if a2 < (l0.length : Int) then (if (rdOf ByteArray.empty l0 a2).toList = a1.toList then (spec_l6Name.l0 a6 l0 a1 a4 true (wrap64 (a2 + 1))) else (if a4.length < 8796093022208 then (spec_l6Name.l0 a6 l0 a1 (a4 ++ [rdOf ByteArray.empty l0 a2]) true (wrap64 (a2 + 1))) else (none))) else (none)) else (none)) = some r := by first | (rw [ag]; with_reducible exact H) | (have H2_ := (Option.bind_some _ _).symm.trans H; rw [ag]; with_reducible exact H2_) | (have H2_ := (Option.bind_some _ _).symm.trans H; with_reducible exact H2_) | with_reducible exact H | (rw [ag]; exact H) | exact H
        have aQ := Aside0.mk ag; clear ag
        by_cases ao : 0 ≤ a2
        ·rw [if_pos ao] at H
         have c11b0 : decide (0 ≤ a2) = true := decide_eq_true ao; clear ao
         by_cases ap : a2 < (l0.length : Int)
         ·rw [if_pos ap] at H
          have c12b0 : decide (a2 < (l0.length : Int)) = true := decide_eq_true ap; clear ap
          by_cases a9 : (rdOf ByteArray.empty l0 a2).toList = a1.toList
          ·rw [if_pos a9] at H
           have b2 : ((rdOf ByteArray.empty l0 a2).toList == a1.toList) = true := beq_iff_eq.mpr a9; have b3 : ((rdOf ByteArray.empty l0 a2).toList != a1.toList) = false := bne_eq_false_iff_eq.mpr a9; clear a9; have H' := Aside0.mk H; clear H
           go_wp2_with (first | ((with_reducible refine gate_builtin (b := .append) (xs := #[.tmp 25, .tmp 27]) rfl ?_); at_builtin; refine Kd.R_append Kd.string (w0 := w) w.heap.size rfl (.tmp 25) (.tmp 27) 42 9 (.string ⟨#[]⟩) 16 rfl Tryd.underlying42 info9 rfl (by decide) (by omega) u5 a3 a1 [.string a1] (fun _ => True) (fun _ => False) rfl rfl ?aP (fun _ hk => hk.elim) ?aF ?aO ?aB ?aS ?aL ?_; (case aP => exact rfl); (case aB => exact (be HB.out)); (case aF => exact (fun _ _ => trivial)); (case aO => exact (kr a5.out)); (case aS => exact (below_size (be HB.out))); (case aL => have := aN.out; omega); intro aR w14 ho hb hg hat; rw [← aQ.out] at ho; refine Ya2 (hb) (ho) ?_; clear HB a5; intro HB aq; clear ho hb hg hat; have aa : 0 ≤ (a2 : Int) := oda; have ab : a2 < (l0.length : Int) := oda; obtain ⟨aT, aC, ah⟩ := Kd.at_string a8.out a2 aa ab; cases aC; replace ah := pw_cell_below HB.out ah; replace aa := eq_true aa; replace ab := eq_true ab))
           go_roundg a6
           case measure => have := HK1.out; have := HJ5.out; omega
           case rel => exact ⟨(a4), (true), (wrap64 (a2 + 1)), Ye1, Ye1, H', ⟨by have := HK1.out; have := HJ5.out; omega⟩, ⟨kr aq.out⟩, ⟨be HB.out⟩⟩
          ·rw [if_neg a9] at H
           have b2 : ((rdOf ByteArray.empty l0 a2).toList == a1.toList) = false := beq_eq_false_iff_ne.mpr a9; have b3 : ((rdOf ByteArray.empty l0 a2).toList != a1.toList) = true := bne_iff_ne.mpr a9
           by_cases ar : a4.length < 8796093022208
           ·rw [if_pos ar] at H
            have b4 := Aside0.mk ar; clear ar
            obtain ⟨aU, ai⟩ : ∃ y_ : List ByteArray, y_ = (a4 ++ [rdOf ByteArray.empty l0 a2]) := ⟨_, rfl⟩
            replace H : (spec_l6Name.l0 a6 l0 a1 aU true (wrap64 (a2 + 1))) = some r := by first | (rw [ai]; with_reducible exact H) | (have H2_ := (Option.bind_some _ _).symm.trans H; rw [ai]; with_reducible exact H2_) | (have H2_ := (Option.bind_some _ _).symm.trans H; with_reducible exact H2_) | with_reducible exact H | (rw [ai]; exact H) | exact H
            have b5 := Aside0.mk ai; clear ai; have H' := Aside0.mk H; clear H
            go_wp2_with (first | ((with_reducible refine gate_builtin (b := .append) (xs := #[.tmp 25, .tmp 27]) rfl ?_); at_builtin; refine Kd.R_append Kd.string (w0 := w) w.heap.size rfl (.tmp 25) (.tmp 27) 42 9 (.string ⟨#[]⟩) 16 rfl Tryd.underlying42 info9 rfl (by decide) (by omega) u5 a3 a1 [.string a1] (fun _ => True) (fun _ => False) rfl rfl ?aP (fun _ hk => hk.elim) ?aF ?aO ?aB ?aS ?aL ?_; (case aP => exact rfl); (case aB => exact (be HB.out)); (case aF => exact (fun _ _ => trivial)); (case aO => exact (kr a5.out)); (case aS => exact (below_size (be HB.out))); (case aL => have := aN.out; omega); intro aR w16 ho hb hg hat; rw [← aQ.out] at ho; refine Ya2 (hb) (ho) ?_; clear HB a5; intro HB aq; clear ho hb hg hat; have aa : 0 ≤ (a2 : Int) := oda; have ab : a2 < (l0.length : Int) := oda; obtain ⟨aT, aC, ah⟩ := Kd.at_string a8.out a2 aa ab; cases aC; replace ah := pw_cell_below HB.out ah; replace aa := eq_true aa; replace ab := eq_true ab; have aD : 0 ≤ (a2 : Int) := oda; have aE : a2 < (l0.length : Int) := oda; obtain ⟨b6, b7, aV⟩ := Kd.at_string a8.out a2 aD aE; obtain rfl : aT = b6 := (by injection b7); replace aV := pw_cell_below HB.out aV; replace aD := eq_true aD; replace aE := eq_true aE) | ((with_reducible refine gate_builtin (b := .append) (xs := #[.tmp 35, .tmp 40]) rfl ?_); at_builtin; refine Kd.R_append Kd.string (w0 := w) w.heap.size rfl (.tmp 35) (.tmp 40) 42 9 (.string ⟨#[]⟩) 16 rfl Tryd.underlying42 info9 rfl (by decide) (by omega) aR a4 (rdOf ByteArray.empty l0 a2) [.string (rdOf ByteArray.empty l0 a2)] (fun _ => True) (fun _ => False) rfl rfl ?aP (fun _ hk => hk.elim) ?aF ?aO ?aB ?aS ?aL ?_; (case aP => exact rfl); (case aB => exact (be HB.out)); (case aF => exact (fun _ _ => trivial)); (case aO => exact (kr aq.out)); (case aS => exact (below_size (be HB.out))); (case aL => have := b4.out; omega); intro v676 w17 ho hb hg hat; rw [← b5.out] at ho; refine Ya2 (hb) (ho) ?_; clear HB aq; intro HB b8; clear ho hb hg hat))
            go_roundg a6
            case measure => have := HK1.out; have := HJ5.out; omega
            case rel => exact ⟨(aU), (true), (wrap64 (a2 + 1)), Ye1, Ye1, H', ⟨by have := HK1.out; have := HJ5.out; omega⟩, ⟨kr b8.out⟩, ⟨be HB.out⟩⟩
           ·rw [if_neg ar] at H
            exact absurd H (by simp)
         ·rw [if_neg ap] at H
          exact absurd H (by simp)
        ·rw [if_neg ao] at H
         exact absurd H (by simp)
       ·rw [if_neg c10] at H
        exact absurd H (by simp)
      ·replace c9 := Bool.eq_false_iff.mpr c9; subst c9
       have H1 : (if 0 ≤ a2 then (if a2 < (l0.length : Int) then (if (rdOf ByteArray.empty l0 a2).toList = a1.toList then (spec_l6Name.l0 a6 l0 a1 a3 a7 (wrap64 (a2 + 1))) else (if a3.length < 8796093022208 then (spec_l6Name.l0 a6 l0 a1 (a3 ++ [rdOf ByteArray.empty l0 a2]) a7 (wrap64 (a2 + 1))) else (none))) else (none)) else (none)) = some r := by rw [if_neg (show ¬ (false = true) by decide)] at H; exact H
       clear H; have H := H1; clear H1
       by_cases au : 0 ≤ a2
       ·rw [if_pos au] at H
        have c18b0 : decide (0 ≤ a2) = true := decide_eq_true au; clear au
        by_cases av : a2 < (l0.length : Int)
        ·rw [if_pos av] at H
         have c19b0 : decide (a2 < (l0.length : Int)) = true := decide_eq_true av; clear av
         by_cases ac : (rdOf ByteArray.empty l0 a2).toList = a1.toList
         ·rw [if_pos ac] at H
          have b9 : ((rdOf ByteArray.empty l0 a2).toList == a1.toList) = true := beq_iff_eq.mpr ac; have ba : ((rdOf ByteArray.empty l0 a2).toList != a1.toList) = false := bne_eq_false_iff_eq.mpr ac; clear ac; have H' := Aside0.mk H; clear H; have ad : 0 ≤ (a2 : Int) := oda; have ae : a2 < (l0.length : Int) := oda; obtain ⟨aW, aG, bd⟩ := Kd.at_string (Kd.C_below a8.out HB.out) a2 ad ae
          cases aG
          replace ad := eq_true ad; replace ae := eq_true ae
          go_wp2
          go_roundg a6
          case measure => have := HK1.out; have := HJ5.out; omega
          case rel => exact ⟨(a3), (a7), (wrap64 (a2 + 1)), Ye1, Ye1, H', ⟨by have := HK1.out; have := HJ5.out; omega⟩, ⟨kr a5.out⟩, ⟨be HB.out⟩⟩
         ·rw [if_neg ac] at H
          have b9 : ((rdOf ByteArray.empty l0 a2).toList == a1.toList) = false := beq_eq_false_iff_ne.mpr ac; have ba : ((rdOf ByteArray.empty l0 a2).toList != a1.toList) = true := bne_iff_ne.mpr ac
          by_cases aw : a3.length < 8796093022208
          ·rw [if_pos aw] at H
           have bg := Aside0.mk aw; clear aw
           obtain ⟨aX, aj⟩ : ∃ y_ : List ByteArray, y_ = (a3 ++ [rdOf ByteArray.empty l0 a2]) := ⟨_, rfl⟩
           replace H : (spec_l6Name.l0 a6 l0 a1 aX a7 (wrap64 (a2 + 1))) = some r := by first | (rw [aj]; with_reducible exact H) | (have H2_ := (Option.bind_some _ _).symm.trans H; rw [aj]; with_reducible exact H2_) | (have H2_ := (Option.bind_some _ _).symm.trans H; with_reducible exact H2_) | with_reducible exact H | (rw [aj]; exact H) | exact H
           have bh := Aside0.mk aj; clear aj; have H' := Aside0.mk H; clear H; have ad : 0 ≤ (a2 : Int) := oda; have ae : a2 < (l0.length : Int) := oda; obtain ⟨aW, aG, bd⟩ := Kd.at_string (Kd.C_below a8.out HB.out) a2 ad ae
           cases aG
           replace ad := eq_true ad; replace ae := eq_true ae; have aH : 0 ≤ (a2 : Int) := oda; have aI : a2 < (l0.length : Int) := oda; obtain ⟨bi, bj, aY⟩ := Kd.at_string a8.out a2 aH aI
           obtain rfl : aW = bi := (by injection bj)
           replace aY := pw_cell_below HB.out aY; replace aH := eq_true aH; replace aI := eq_true aI
           go_wp2_with (first | ((with_reducible refine gate_builtin (b := .append) (xs := #[.tmp 35, .tmp 40]) rfl ?_); at_builtin; refine Kd.R_append Kd.string (w0 := w) w.heap.size rfl (.tmp 35) (.tmp 40) 42 9 (.string ⟨#[]⟩) 16 rfl Tryd.underlying42 info9 rfl (by decide) (by omega) u5 a3 (rdOf ByteArray.empty l0 a2) [.string (rdOf ByteArray.empty l0 a2)] (fun _ => True) (fun _ => False) rfl rfl ?aP (fun _ hk => hk.elim) ?aF ?aO ?aB ?aS ?aL ?_; (case aP => exact rfl); (case aB => exact (be HB.out)); (case aF => exact (fun _ _ => trivial)); (case aO => exact (kr a5.out)); (case aS => exact (below_size (be HB.out))); (case aL => have := bg.out; omega); intro v681 w22 ho hb hg hat; rw [← bh.out] at ho; refine Ya2 (hb) (ho) ?_; clear HB a5; intro HB bm; clear ho hb hg hat))
           go_roundg a6
           case measure => have := HK1.out; have := HJ5.out; omega
           case rel => exact ⟨(aX), (a7), (wrap64 (a2 + 1)), Ye1, Ye1, H', ⟨by have := HK1.out; have := HJ5.out; omega⟩, ⟨kr bm.out⟩, ⟨be HB.out⟩⟩
          ·rw [if_neg aw] at H
           exact absurd H (by simp)
        ·rw [if_neg av] at H
         exact absurd H (by simp)
       ·rw [if_neg au] at H
        exact absurd H (by simp)
   ·rw [if_neg c5] at H
    have aM : decide (a2 < (l0.length : Int)) = false := decide_eq_false c5; clear c5
    by_cases ax : a7 = true
    ·subst ax
     have H1 : (some a3) = some r := by rw [if_pos rfl] at H; exact H
     clear H; have H := H1; clear H1; obtain rfl := Option.some.inj H
     go_wp2
     go_ret
     exact ⟨_, Ye2, kr a5.out, be HB.out⟩
    ·replace ax := Bool.eq_false_iff.mpr ax; subst ax
     have H1 : (if a3.length < 8796093022208 then (some (a3 ++ [a1])) else (none)) = some r := by rw [if_neg (show ¬ (false = true) by decide)] at H; exact H
     clear H; have H := H1; clear H1
     by_cases ay : a3.length < 8796093022208
     ·rw [if_pos ay] at H
      have bn := Aside0.mk ay; clear ay
      obtain ⟨bo, ak⟩ : ∃ y_ : List ByteArray, y_ = (a3 ++ [a1]) := ⟨_, rfl⟩
      replace H : (some bo) = some r := by first | (rw [ak]; with_reducible exact H) | (have H2_ := (Option.bind_some _ _).symm.trans H; rw [ak]; with_reducible exact H2_) | (have H2_ := (Option.bind_some _ _).symm.trans H; with_reducible exact H2_) | with_reducible exact H | (rw [ak]; exact H) | exact H
      have bq := Aside0.mk ak; clear ak; obtain rfl := Option.some.inj H
      go_wp2_with (first | ((with_reducible refine gate_builtin (b := .append) (xs := #[.tmp 44, .tmp 46]) rfl ?_); at_builtin; refine Kd.R_append Kd.string (w0 := w) w.heap.size rfl (.tmp 44) (.tmp 46) 42 9 (.string ⟨#[]⟩) 16 rfl Tryd.underlying42 info9 rfl (by decide) (by omega) u5 a3 a1 [.string a1] (fun _ => True) (fun _ => False) rfl rfl ?aP (fun _ hk => hk.elim) ?aF ?aO ?aB ?aS ?aL ?_; (case aP => exact rfl); (case aB => exact (be HB.out)); (case aF => exact (fun _ _ => trivial)); (case aO => exact (kr a5.out)); (case aS => exact (below_size (be HB.out))); (case aL => have := bn.out; omega); intro v667 w25 ho hb hg hat; rw [← bq.out] at ho; refine Ya2 (hb) (ho) ?_; clear HB a5; intro HB bu; clear ho hb hg hat))
      go_ret
      exact ⟨_, Ye2, kr bu.out, be HB.out⟩
     ·rw [if_neg ay] at H
      exact absurd H (by simp)

end Go.Proofs.YtknagppkeodggaaDoor.P


namespace Go.Proofs.YtknagppkeodggaaDoor.P
open Go.RowKit Go.Proofs.YtknagppkeodggaaDoorW.PrintWords Go.Proofs.YtknagppkeodggaaDoorW.PrintLast Go.Proofs.YtknagppkeodggaaDoorW.PrintMore
attribute [local go_sem] max2_int min2_int max_two min_two max_three min_three max_four min_four
set_option linter.unusedVariables false
set_option linter.unusedSimpArgs false

/-! ### spec_l6FileOk: function 152 -/
def spec_l6FileOk.f (a0_0 : Bool) (a0_1 : ByteArray) (a0_2 : Bool) : Option (Bool) := if (a0_1.size : Int) ≤ 1500 then (if a0_0 = true then (some true) else (if a0_1.toList = ([] : List UInt8) then (some (!a0_2)) else (some false))) else (some false)
set_option maxHeartbeats 8000000 in
set_option maxRecDepth 100000 in
theorem spec_l6FileOk.calls (a0_0 : Bool) (a0_1 : ByteArray) (a0_2 : Bool) (r : Bool) (w : World) (h : spec_l6FileOk.f a0_0 a0_1 a0_2 = some r) :
  Calls Tryd.prog 152 #[.agg #[.bool a0_0, .string a0_1, .bool a0_2]] w fun e w' => e = .returned (.bool r) ∧ Below w.heap.size w w' := by
 have hu118 := Tryd.underlying118; have HB := Aside0.mk (Below.refl w.heap.size w); have H : (if (a0_1.size : Int) ≤ 1500 then (if a0_0 = true then (some true) else (if a0_1.toList = ([] : List UInt8) then (some (!a0_2)) else (some false))) else (some false)) = some r := h; clear h
 by_cases c2 : (a0_1.size : Int) ≤ 1500
 ·rw [if_pos c2] at H
  have a4 : decide ((a0_1.size : Int) ≤ 1500) = true := decide_eq_true c2; have a5 : decide (a0_1.size ≤ 1500) = true := decide_eq_true (by omega); clear c2
  by_cases c3 : a0_0 = true
  ·subst c3
   have H1 : (some true) = some r := by rw [if_pos rfl] at H; exact H
   clear H; have H := H1; clear H1; obtain rfl := Option.some.inj H
   go_enter Tryd.func152, Tryd.ntmps152
   go_wp2_with (first | ((with_reducible refine gd 1 rfl ?_); refine bx 1 118 (#[.bool true, .string a0_1, .bool a0_2]) ?_; intro a1 hg w4 hbox hb; refine Ya4 (below_step (be HB.out) hb) (hbox) (bs hg (be HB.out)) (bs hg (be HB.out)) ?_; clear HB; intro HB a0 a2 a3; clear hb hbox hg; have ⟨a8, a9, aa, ab, ac, ad⟩ := Yc3 a0.out))
   go_ret
   exact ⟨Ye2, (bf HB.out)⟩
  ·replace c3 := Bool.eq_false_iff.mpr c3; subst c3
   have H1 : (if a0_1.toList = ([] : List UInt8) then (some (!a0_2)) else (some false)) = some r := by rw [if_neg (show ¬ (false = true) by decide)] at H; exact H
   clear H; have H := H1; clear H1
   by_cases c6 : a0_1.toList = ([] : List UInt8)
   ·rw [if_pos c6] at H
    have a6 : (a0_1.toList == ([] : List UInt8)) = true := beq_iff_eq.mpr c6; have a7 : (a0_1.toList != ([] : List UInt8)) = false := bne_eq_false_iff_eq.mpr c6; clear c6; obtain rfl := Option.some.inj H
    go_enter Tryd.func152, Tryd.ntmps152
    go_wp2_with (first | ((with_reducible refine gd 1 rfl ?_); refine bx 1 118 (#[.bool false, .string a0_1, .bool a0_2]) ?_; intro a1 hg w7 hbox hb; refine Ya4 (below_step (be HB.out) hb) (hbox) (bs hg (be HB.out)) (bs hg (be HB.out)) ?_; clear HB; intro HB a0 a2 a3; clear hb hbox hg; have ⟨ae, af, ag, ah, ai, aj⟩ := Yc3 a0.out))
    go_ret
    exact ⟨Ye2, (bf HB.out)⟩
   ·rw [if_neg c6] at H
    have a6 : (a0_1.toList == ([] : List UInt8)) = false := beq_eq_false_iff_ne.mpr c6; have a7 : (a0_1.toList != ([] : List UInt8)) = true := bne_iff_ne.mpr c6; obtain rfl := Option.some.inj H
    go_enter Tryd.func152, Tryd.ntmps152
    go_wp2_with (first | ((with_reducible refine gd 1 rfl ?_); refine bx 1 118 (#[.bool false, .string a0_1, .bool a0_2]) ?_; intro a1 hg w9 hbox hb; refine Ya4 (below_step (be HB.out) hb) (hbox) (bs hg (be HB.out)) (bs hg (be HB.out)) ?_; clear HB; intro HB a0 a2 a3; clear hb hbox hg; have ⟨ak, al, am, an, ao, ap⟩ := Yc3 a0.out))
    go_ret
    exact ⟨Ye2, (bf HB.out)⟩
 ·rw [if_neg c2] at H
  have a4 : decide ((a0_1.size : Int) ≤ 1500) = false := decide_eq_false c2; have a5 : decide (a0_1.size ≤ 1500) = false := decide_eq_false (by omega); clear c2; obtain rfl := Option.some.inj H
  go_enter Tryd.func152, Tryd.ntmps152
  go_wp2_with (first | ((with_reducible refine gd 1 rfl ?_); refine bx 1 118 (#[.bool a0_0, .string a0_1, .bool a0_2]) ?_; intro a1 hg w11 hbox hb; refine Ya4 (below_step (be HB.out) hb) (hbox) (bs hg (be HB.out)) (bs hg (be HB.out)) ?_; clear HB; intro HB a0 a2 a3; clear hb hbox hg; have ⟨aq, ar, au, av, aw, ax⟩ := Yc3 a0.out))
  go_ret
  exact ⟨Ye2, (bf HB.out)⟩

end Go.Proofs.YtknagppkeodggaaDoor.P


namespace Go.Proofs.YtknagppkeodggaaDoor.P
open Go.RowKit Go.Proofs.YtknagppkeodggaaDoorW.PrintWords Go.Proofs.YtknagppkeodggaaDoorW.PrintLast Go.Proofs.YtknagppkeodggaaDoorW.PrintMore
attribute [local go_sem] max2_int min2_int max_two min_two max_three min_three max_four min_four
set_option linter.unusedVariables false
set_option linter.unusedSimpArgs false

/-! ### spec_l1In: function 131 -/
def spec_l1In.f (a0 : Int) (a1 : Int) (a2 : Int) : Option (Bool) := if a0 ≥ a1 then (some (decide (a0 ≤ a2))) else (some false)
set_option maxHeartbeats 8000000 in
set_option maxRecDepth 100000 in
theorem spec_l1In.calls (a0 : Int) (a1 : Int) (a2 : Int) (r : Bool) (w : World) (h : spec_l1In.f a0 a1 a2 = some r) :
  Calls Tryd.prog 131 #[.int .i64 a0, .int .i64 a1, .int .i64 a2] w fun e w' => e = .returned (.bool r) ∧ Drawn0 w w' := by
 have H : (if a0 ≥ a1 then (some (decide (a0 ≤ a2))) else (some false)) = some r := h; clear h
 by_cases c4 : a0 ≥ a1
 ·rw [if_pos c4] at H
  have a3 : decide (a1 ≤ a0) = true := decide_eq_true c4; clear c4; obtain rfl := Option.some.inj H
  go_enter Tryd.func131, Tryd.ntmps131
  go_wp2
  go_ret
  exact ⟨Ye1, dz⟩
 ·rw [if_neg c4] at H
  have a3 : decide (a1 ≤ a0) = false := decide_eq_false c4; clear c4; obtain rfl := Option.some.inj H
  go_enter Tryd.func131, Tryd.ntmps131
  go_wp2
  go_ret
  exact ⟨Ye1, dz⟩

end Go.Proofs.YtknagppkeodggaaDoor.P


namespace Go.Proofs.YtknagppkeodggaaDoor.P
open Go.RowKit Go.Proofs.YtknagppkeodggaaDoorW.PrintWords Go.Proofs.YtknagppkeodggaaDoorW.PrintLast Go.Proofs.YtknagppkeodggaaDoorW.PrintMore
attribute [local go_sem] max2_int min2_int max_two min_two max_three min_three max_four min_four
set_option linter.unusedVariables false
set_option linter.unusedSimpArgs false

/-! ### spec_l4PartOk: function 149 -/
mutual
def spec_l4PartOk.j0 : Nat → ByteArray → Bool → Bool → Option (Bool)
 | 0, _, _, _ => none
 | k + 1, x0, x1, x17 => if x17 = true then (some false) else (spec_l4PartOk.l0 k x0 x1 0)
def spec_l4PartOk.l0 : Nat → ByteArray → Bool → Int → Option (Bool)
 | 0, _, _, _ => none
 | k + 1, x0, x1, x5 => if x5 < (x0.size : Int) then (if 0 ≤ x5 then (if (bt x0 x5) < 33 then (some false) else (if (bt x0 x5) > 126 then (some false) else (if (bt x0 x5) = 47 then (some false) else (if (bt x0 x5) = 34 then (some false) else (if x1 = true then (spec_l4PartOk.l0 k x0 x1 (wrap64 (x5 + 1))) else (if (bt x0 x5) = 42 then (some false) else (if (bt x0 x5) = 63 then (some false) else (spec_l4PartOk.l0 k x0 x1 (wrap64 (x5 + 1)))))))))) else (none)) else (some true)
end
def spec_l4PartOk.f (k : Nat) (a0 : ByteArray) (a1 : Bool) : Option (Bool) := (spec_l1In.f (a0.size : Int) 1 20).bind fun a8 => (if a8 = true then (if a0.toList = ([46] : List UInt8) then (spec_l4PartOk.j0 k a0 a1 true) else (spec_l4PartOk.j0 k a0 a1 (a0.toList == ([46, 46] : List UInt8)))) else (spec_l4PartOk.j0 k a0 a1 true))
theorem spec_l4PartOk.mono_l : ∀ k, (∀ y0 y1 y2, LeO (spec_l4PartOk.j0 k y0 y1 y2) (spec_l4PartOk.j0 (k + 1) y0 y1 y2)) ∧ (∀ y0 y1 y2, LeO (spec_l4PartOk.l0 k y0 y1 y2) (spec_l4PartOk.l0 (k + 1) y0 y1 y2))
 | 0 => ⟨fun _ _ _ r h => by simp [spec_l4PartOk.j0] at h, fun _ _ _ r h => by simp [spec_l4PartOk.l0] at h⟩
 | k + 1 => by
  obtain ⟨ih0, ih1⟩ := spec_l4PartOk.mono_l k; refine ⟨?_, ?_⟩
  ·intro y0 y1 y2
   unfold spec_l4PartOk.j0
   repeat' first
   | (with_reducible exact ih0 _ _ _)
   | (with_reducible exact ih1 _ _ _)
   | (with_reducible exact LeO.refl _)
   | (with_reducible exact LeO.none _)
   | (with_reducible refine LeO.ite ?_ ?_)
   | (with_reducible refine LeO.bind ?_ (fun _ => ?_))
   | exact ih0 _ _ _
   | exact ih1 _ _ _
   | exact LeO.none _
   | refine LeO.ite ?_ ?_
   | refine LeO.bind ?_ (fun _ => ?_)
  ·intro y0 y1 y2
   unfold spec_l4PartOk.l0
   repeat' first
   | (with_reducible exact ih0 _ _ _)
   | (with_reducible exact ih1 _ _ _)
   | (with_reducible exact LeO.refl _)
   | (with_reducible exact LeO.none _)
   | (with_reducible refine LeO.ite ?_ ?_)
   | (with_reducible refine LeO.bind ?_ (fun _ => ?_))
   | exact ih0 _ _ _
   | exact ih1 _ _ _
   | exact LeO.none _
   | refine LeO.ite ?_ ?_
   | refine LeO.bind ?_ (fun _ => ?_)
theorem spec_l4PartOk.mono : ∀ a0 a1 k, LeO (spec_l4PartOk.f k a0 a1) (spec_l4PartOk.f (k + 1) a0 a1) := by
 intro a0 a1 k; obtain ⟨ih0, ih1⟩ := spec_l4PartOk.mono_l k
 unfold spec_l4PartOk.f
 repeat' first
   | (with_reducible exact ih0 _ _ _)
   | (with_reducible exact ih1 _ _ _)
   | (with_reducible exact LeO.refl _)
   | (with_reducible exact LeO.none _)
   | (with_reducible refine LeO.ite ?_ ?_)
   | (with_reducible refine LeO.bind ?_ (fun _ => ?_))
   | exact ih0 _ _ _
   | exact ih1 _ _ _
   | exact LeO.none _
   | refine LeO.ite ?_ ?_
   | refine LeO.bind ?_ (fun _ => ?_)
set_option maxHeartbeats 8000000 in
set_option maxRecDepth 100000 in
theorem spec_l4PartOk.calls (k : Nat) (a0 : ByteArray) (a1 : Bool) (r : Bool) (w : World) (h : spec_l4PartOk.f k a0 a1 = some r) :
  Calls Tryd.prog 149 #[.string a0, .bool a1] w fun e w' => e = .returned (.bool r) ∧ Drawn0 w w' := by
 have H : ((spec_l1In.f (a0.size : Int) 1 20).bind fun a8 => (if a8 = true then (if a0.toList = ([46] : List UInt8) then (spec_l4PartOk.j0 k a0 a1 true) else (spec_l4PartOk.j0 k a0 a1 (a0.toList == ([46, 46] : List UInt8)))) else (spec_l4PartOk.j0 k a0 a1 true))) = some r := h; clear h; have ad := Aside0.mk H; clear H
 go_enter Tryd.func149, Tryd.ntmps149
 go_upto_region 1 with (fail)
 go_cut [17] (fun v17 wc => ∃ (kq : Nat) (ab : Bool), v17 = .bool ab ∧ Aside0 (spec_l4PartOk.j0 kq a0 a1 ab = some r) ∧ Aside0 (kq ≤ k) ∧ Drawn0 w wc)
 case first =>
  have H := ad.out; clear ad; replace H := Option.bind_eq_some_iff.mp H; obtain ⟨a8, A40, H⟩ := H; replace H : (if a8 = true then (if a0.toList = ([46] : List UInt8) then (spec_l4PartOk.j0 k a0 a1 true) else (spec_l4PartOk.j0 k a0 a1 (a0.toList == ([46, 46] : List UInt8)))) else (spec_l4PartOk.j0 k a0 a1 true)) = some r := H; have A4 := Aside0.mk A40; clear A40
  by_cases c5 : a8 = true
  ·subst c5
   have H1 : (if a0.toList = ([46] : List UInt8) then (spec_l4PartOk.j0 k a0 a1 true) else (spec_l4PartOk.j0 k a0 a1 (a0.toList == ([46, 46] : List UInt8)))) = some r := by rw [if_pos rfl] at H; exact H
   clear H; have H := H1; clear H1
   by_cases c6 : a0.toList = ([46] : List UInt8)
   ·rw [if_pos c6] at H
    have a3 : (a0.toList == ([46] : List UInt8)) = true := beq_iff_eq.mpr c6; have ae : (a0.toList != ([46] : List UInt8)) = false := bne_eq_false_iff_eq.mpr c6; clear c6; (first | rw [a3] | (simp only [i64_w, i32_w]; rw [a3]) | skip); have H' := Aside0.mk H; clear H
    go_wp2_with (first | ((with_reducible refine gc 131 rfl ?_); refine gl (some 8) _ (#[.int .i64 (a0.size : Int), .int .i64 1, .int .i64 20]) Tryd.func131 ?_; (with_reducible refine (spec_l1In.calls (a0.size : Int) 1 20 true _ A4.out).mono ?_); rintro e w' ⟨rfl, ⟨nd, rfl⟩⟩; refine ⟨_, rfl, ?_⟩))
    go_meet
    case rel => exact ⟨_, (true), Ye1, H', ⟨by first | omega | exact Nat.le_refl _⟩, dz⟩
   ·rw [if_neg c6] at H
    have a3 : (a0.toList == ([46] : List UInt8)) = false := beq_eq_false_iff_ne.mpr c6; have ae : (a0.toList != ([46] : List UInt8)) = true := bne_iff_ne.mpr c6; (first | rw [a3] | (simp only [i64_w, i32_w]; rw [a3]) | skip); have H' := Aside0.mk H; clear H
    go_wp2_with (first | ((with_reducible refine gc 131 rfl ?_); refine gl (some 8) _ (#[.int .i64 (a0.size : Int), .int .i64 1, .int .i64 20]) Tryd.func131 ?_; (with_reducible refine (spec_l1In.calls (a0.size : Int) 1 20 true _ A4.out).mono ?_); rintro e w' ⟨rfl, ⟨nd, rfl⟩⟩; refine ⟨_, rfl, ?_⟩))
    go_meet
    case rel => exact ⟨_, ((a0.toList == ([46, 46] : List UInt8))), Ye1, H', ⟨by first | omega | exact Nat.le_refl _⟩, dz⟩
  ·replace c5 := Bool.eq_false_iff.mpr c5; subst c5
   have H1 : (spec_l4PartOk.j0 k a0 a1 true) = some r := by rw [if_neg (show ¬ (false = true) by decide)] at H; exact H
   clear H; have H := H1; clear H1; have H' := Aside0.mk H; clear H
   go_wp2_with (first | ((with_reducible refine gc 131 rfl ?_); refine gl (some 8) _ (#[.int .i64 (a0.size : Int), .int .i64 1, .int .i64 20]) Tryd.func131 ?_; (with_reducible refine (spec_l1In.calls (a0.size : Int) 1 20 false _ A4.out).mono ?_); rintro e w' ⟨rfl, ⟨nd, rfl⟩⟩; refine ⟨_, rfl, ?_⟩))
   go_meet
   case rel => exact ⟨_, (true), Ye1, H', ⟨by first | omega | exact Nat.le_refl _⟩, dz⟩
 case rest =>
  clear ad; (try clear c1); (try clear p2); (try clear c5); (try clear c6); (try clear a3); (try clear ae); obtain ⟨kq, ab, rfl, HA, HJ2, ⟨mc2, rfl⟩⟩ := hcut
  cases kq with
  | zero => exact absurd HA.out (by simp [spec_l4PartOk.j0])
  | succ af =>
   have H := HA.out; clear HA; simp only [spec_l4PartOk.j0] at H
   by_cases c7 : ab = true
   ·subst c7
    have H1 : (some false) = some r := by rw [if_pos rfl] at H; exact H
    clear H; have H := H1; clear H1; obtain rfl := Option.some.inj H
    go_wp2
    go_ret
    exact ⟨Ye1, dz⟩
   ·replace c7 := Bool.eq_false_iff.mpr c7; subst c7
    have H1 : (spec_l4PartOk.l0 af a0 a1 0) = some r := by rw [if_neg (show ¬ (false = true) by decide)] at H; exact H
    clear H; have H := H1; clear H1; have H' := Aside0.mk H; clear H
    go_wp2
    go_loopg [5] af (fun kq v5 w' => ∃ (a2 : Int), v5 = .int .i64 a2 ∧ Aside0 (spec_l4PartOk.l0 kq a0 a1 a2 = some r) ∧ Aside0 (kq ≤ af) ∧ Drawn0 w w')
    case atStart => exact ⟨(0), Ye1, H', ⟨Nat.le_refl _⟩, dz⟩
    case round =>
     clear H'; (try clear c1); (try clear c2); (try clear p2); (try clear c5); (try clear c6); (try clear a3); (try clear ae); (try clear c7); (try clear p2); obtain ⟨a2, rfl, HA, HK2, ⟨m2, rfl⟩⟩ := hrel
     cases gk with
     | zero => exact absurd HA.out (by simp [spec_l4PartOk.l0])
     | succ k2 =>
      have H := HA.out; clear HA; simp only [spec_l4PartOk.l0] at H
      by_cases c8 : a2 < (a0.size : Int)
      ·rw [if_pos c8] at H
       have ag : decide (a2 < (a0.size : Int)) = true := decide_eq_true c8; clear c8
       by_cases c9 : 0 ≤ a2
       ·rw [if_pos c9] at H
        have c9b0 : decide (0 ≤ a2) = true := decide_eq_true c9; clear c9
        by_cases a9 : (bt a0 a2) < 33
        ·rw [if_pos a9] at H
         have ah : decide ((bt a0 a2) < 33) = true := decide_eq_true a9; clear a9; obtain rfl := Option.some.inj H; have p10 : 0 ≤ (a2 : Int) := oda; have q10 : a2 < (a0.size : Int) := oda; have hx10 := bt_at a0 a2; replace p10 := eq_true p10; replace q10 := eq_true q10
         go_wp2
         go_ret
         exact ⟨Ye1, dz⟩
        ·rw [if_neg a9] at H
         have ah : decide ((bt a0 a2) < 33) = false := decide_eq_false a9; clear a9
         by_cases aa : (bt a0 a2) > 126
         ·rw [if_pos aa] at H
          have ai : decide (126 < (bt a0 a2)) = true := decide_eq_true aa; clear aa; obtain rfl := Option.some.inj H; have p10 : 0 ≤ (a2 : Int) := oda; have q10 : a2 < (a0.size : Int) := oda; have hx10 := bt_at a0 a2; replace p10 := eq_true p10; replace q10 := eq_true q10; have p12 : 0 ≤ (a2 : Int) := oda; have q12 : a2 < (a0.size : Int) := oda; have hx12 := bt_at a0 a2; replace p12 := eq_true p12; replace q12 := eq_true q12
          go_wp2
          go_ret
          exact ⟨Ye1, dz⟩
         ·rw [if_neg aa] at H
          have ai : decide (126 < (bt a0 a2)) = false := decide_eq_false aa; clear aa
          by_cases a4 : (bt a0 a2) = 47
          ·rw [if_pos a4] at H
           have aj : ((bt a0 a2) == 47) = true := beq_iff_eq.mpr a4; have ak : ((bt a0 a2) != 47) = false := bne_eq_false_iff_eq.mpr a4; clear a4; obtain rfl := Option.some.inj H; have p10 : 0 ≤ (a2 : Int) := oda; have q10 : a2 < (a0.size : Int) := oda; have hx10 := bt_at a0 a2; replace p10 := eq_true p10; replace q10 := eq_true q10; have p12 : 0 ≤ (a2 : Int) := oda; have q12 : a2 < (a0.size : Int) := oda; have hx12 := bt_at a0 a2; replace p12 := eq_true p12; replace q12 := eq_true q12; have p14 : 0 ≤ (a2 : Int) := oda; have q14 : a2 < (a0.size : Int) := oda; have hx14 := bt_at a0 a2; replace p14 := eq_true p14; replace q14 := eq_true q14
           go_wp2
           go_ret
           exact ⟨Ye1, dz⟩
          ·rw [if_neg a4] at H
           have aj : ((bt a0 a2) == 47) = false := beq_eq_false_iff_ne.mpr a4; have ak : ((bt a0 a2) != 47) = true := bne_iff_ne.mpr a4
           by_cases a5 : (bt a0 a2) = 34
           ·rw [if_pos a5] at H
            have al : ((bt a0 a2) == 34) = true := beq_iff_eq.mpr a5; have am : ((bt a0 a2) != 34) = false := bne_eq_false_iff_eq.mpr a5; clear a5; obtain rfl := Option.some.inj H; have p10 : 0 ≤ (a2 : Int) := oda; have q10 : a2 < (a0.size : Int) := oda; have hx10 := bt_at a0 a2; replace p10 := eq_true p10; replace q10 := eq_true q10; have p12 : 0 ≤ (a2 : Int) := oda; have q12 : a2 < (a0.size : Int) := oda; have hx12 := bt_at a0 a2; replace p12 := eq_true p12; replace q12 := eq_true q12; have p14 : 0 ≤ (a2 : Int) := oda; have q14 : a2 < (a0.size : Int) := oda; have hx14 := bt_at a0 a2; replace p14 := eq_true p14; replace q14 := eq_true q14; have p16 : 0 ≤ (a2 : Int) := oda; have q16 : a2 < (a0.size : Int) := oda; have hx16 := bt_at a0 a2; replace p16 := eq_true p16; replace q16 := eq_true q16
            go_wp2
            go_ret
            exact ⟨Ye1, dz⟩
           ·rw [if_neg a5] at H
            have al : ((bt a0 a2) == 34) = false := beq_eq_false_iff_ne.mpr a5; have am : ((bt a0 a2) != 34) = true := bne_iff_ne.mpr a5
            by_cases ac : a1 = true
            ·subst ac
             have H1 : (spec_l4PartOk.l0 k2 a0 true (wrap64 (a2 + 1))) = some r := by rw [if_pos rfl] at H; exact H
             clear H; have H := H1; clear H1; have H' := Aside0.mk H; clear H; have p10 : 0 ≤ (a2 : Int) := oda; have q10 : a2 < (a0.size : Int) := oda; have hx10 := bt_at a0 a2; replace p10 := eq_true p10; replace q10 := eq_true q10; have p12 : 0 ≤ (a2 : Int) := oda; have q12 : a2 < (a0.size : Int) := oda; have hx12 := bt_at a0 a2; replace p12 := eq_true p12; replace q12 := eq_true q12; have p14 : 0 ≤ (a2 : Int) := oda; have q14 : a2 < (a0.size : Int) := oda; have hx14 := bt_at a0 a2; replace p14 := eq_true p14; replace q14 := eq_true q14; have p16 : 0 ≤ (a2 : Int) := oda; have q16 : a2 < (a0.size : Int) := oda; have hx16 := bt_at a0 a2; replace p16 := eq_true p16; replace q16 := eq_true q16
             go_wp2
             go_roundg k2
             case measure => have := HJ2.out; have := HK2.out; omega
             case rel => exact ⟨(wrap64 (a2 + 1)), Ye1, H', ⟨by have := HJ2.out; have := HK2.out; omega⟩, dz⟩
            ·replace ac := Bool.eq_false_iff.mpr ac; subst ac
             have H1 : (if (bt a0 a2) = 42 then (some false) else (if (bt a0 a2) = 63 then (some false) else (spec_l4PartOk.l0 k2 a0 false (wrap64 (a2 + 1))))) = some r := by rw [if_neg (show ¬ (false = true) by decide)] at H; exact H
             clear H; have H := H1; clear H1
             by_cases a6 : (bt a0 a2) = 42
             ·rw [if_pos a6] at H
              have an : ((bt a0 a2) == 42) = true := beq_iff_eq.mpr a6; have ao : ((bt a0 a2) != 42) = false := bne_eq_false_iff_eq.mpr a6; clear a6; obtain rfl := Option.some.inj H; have p10 : 0 ≤ (a2 : Int) := oda; have q10 : a2 < (a0.size : Int) := oda; have hx10 := bt_at a0 a2; replace p10 := eq_true p10; replace q10 := eq_true q10; have p12 : 0 ≤ (a2 : Int) := oda; have q12 : a2 < (a0.size : Int) := oda; have hx12 := bt_at a0 a2; replace p12 := eq_true p12; replace q12 := eq_true q12; have p14 : 0 ≤ (a2 : Int) := oda; have q14 : a2 < (a0.size : Int) := oda; have hx14 := bt_at a0 a2; replace p14 := eq_true p14; replace q14 := eq_true q14; have p16 : 0 ≤ (a2 : Int) := oda; have q16 : a2 < (a0.size : Int) := oda; have hx16 := bt_at a0 a2; replace p16 := eq_true p16; replace q16 := eq_true q16; have p19 : 0 ≤ (a2 : Int) := oda; have q19 : a2 < (a0.size : Int) := oda; have hx19 := bt_at a0 a2; replace p19 := eq_true p19; replace q19 := eq_true q19
              go_wp2
              go_ret
              exact ⟨Ye1, dz⟩
             ·rw [if_neg a6] at H
              have an : ((bt a0 a2) == 42) = false := beq_eq_false_iff_ne.mpr a6; have ao : ((bt a0 a2) != 42) = true := bne_iff_ne.mpr a6
              by_cases a7 : (bt a0 a2) = 63
              ·rw [if_pos a7] at H
               have ap : ((bt a0 a2) == 63) = true := beq_iff_eq.mpr a7; have aq : ((bt a0 a2) != 63) = false := bne_eq_false_iff_eq.mpr a7; clear a7; obtain rfl := Option.some.inj H; have p10 : 0 ≤ (a2 : Int) := oda; have q10 : a2 < (a0.size : Int) := oda; have hx10 := bt_at a0 a2; replace p10 := eq_true p10; replace q10 := eq_true q10; have p12 : 0 ≤ (a2 : Int) := oda; have q12 : a2 < (a0.size : Int) := oda; have hx12 := bt_at a0 a2; replace p12 := eq_true p12; replace q12 := eq_true q12; have p14 : 0 ≤ (a2 : Int) := oda; have q14 : a2 < (a0.size : Int) := oda; have hx14 := bt_at a0 a2; replace p14 := eq_true p14; replace q14 := eq_true q14; have p16 : 0 ≤ (a2 : Int) := oda; have q16 : a2 < (a0.size : Int) := oda; have hx16 := bt_at a0 a2; replace p16 := eq_true p16; replace q16 := eq_true q16; have p19 : 0 ≤ (a2 : Int) := oda; have q19 : a2 < (a0.size : Int) := oda; have hx19 := bt_at a0 a2; replace p19 := eq_true p19; replace q19 := eq_true q19; have p21 : 0 ≤ (a2 : Int) := oda; have q21 : a2 < (a0.size : Int) := oda; have hx21 := bt_at a0 a2; replace p21 := eq_true p21; replace q21 := eq_true q21
               go_wp2
               go_ret
               exact ⟨Ye1, dz⟩
              ·rw [if_neg a7] at H
               have ap : ((bt a0 a2) == 63) = false := beq_eq_false_iff_ne.mpr a7; have aq : ((bt a0 a2) != 63) = true := bne_iff_ne.mpr a7; have H' := Aside0.mk H; clear H; have p10 : 0 ≤ (a2 : Int) := oda; have q10 : a2 < (a0.size : Int) := oda; have hx10 := bt_at a0 a2; replace p10 := eq_true p10; replace q10 := eq_true q10; have p12 : 0 ≤ (a2 : Int) := oda; have q12 : a2 < (a0.size : Int) := oda; have hx12 := bt_at a0 a2; replace p12 := eq_true p12; replace q12 := eq_true q12; have p14 : 0 ≤ (a2 : Int) := oda; have q14 : a2 < (a0.size : Int) := oda; have hx14 := bt_at a0 a2; replace p14 := eq_true p14; replace q14 := eq_true q14; have p16 : 0 ≤ (a2 : Int) := oda; have q16 : a2 < (a0.size : Int) := oda; have hx16 := bt_at a0 a2; replace p16 := eq_true p16; replace q16 := eq_true q16; have p19 : 0 ≤ (a2 : Int) := oda; have q19 : a2 < (a0.size : Int) := oda; have hx19 := bt_at a0 a2; replace p19 := eq_true p19; replace q19 := eq_true q19; have p21 : 0 ≤ (a2 : Int) := oda; have q21 : a2 < (a0.size : Int) := oda; have hx21 := bt_at a0 a2; replace p21 := eq_true p21; replace q21 := eq_true q21
               go_wp2
               go_roundg k2
               case measure => have := HJ2.out; have := HK2.out; omega
               case rel => exact ⟨(wrap64 (a2 + 1)), Ye1, H', ⟨by have := HJ2.out; have := HK2.out; omega⟩, dz⟩
       ·rw [if_neg c9] at H
        exact absurd H (by simp)
      ·rw [if_neg c8] at H
       have ag : decide (a2 < (a0.size : Int)) = false := decide_eq_false c8; clear c8; obtain rfl := Option.some.inj H
       go_wp2
       go_ret
       exact ⟨Ye1, dz⟩

end Go.Proofs.YtknagppkeodggaaDoor.P


namespace Go.Proofs.YtknagppkeodggaaDoor.P
open Go.RowKit Go.Proofs.YtknagppkeodggaaDoorW.PrintWords Go.Proofs.YtknagppkeodggaaDoorW.PrintLast Go.Proofs.YtknagppkeodggaaDoorW.PrintMore
attribute [local go_sem] max2_int min2_int max_two min_two max_three min_three max_four min_four
set_option linter.unusedVariables false
set_option linter.unusedSimpArgs false

/-! ### spec_l4Parts: function 79 -/
def spec_l4Parts.l0 : Nat → ByteArray → List ByteArray → Int → Int → Option (List ByteArray)
 | 0, _, _, _, _ => none
 | k + 1, x0, x3, x4, x5 => if x5 < (x0.size : Int) then (if 0 ≤ x5 then (if (bt x0 x5) = 47 then (if 0 ≤ x4 then (if x4 ≤ x5 then (if x5 ≤ (x0.size : Int) then (if x3.length < 8796093022208 then (spec_l4Parts.l0 k x0 (x3 ++ [x0.extract (x4 : Int).toNat (x5 : Int).toNat]) (wrap64 (x5 + 1)) (wrap64 (x5 + 1))) else (none)) else (none)) else (none)) else (none)) else (spec_l4Parts.l0 k x0 x3 x4 (wrap64 (x5 + 1)))) else (none)) else (if 0 ≤ x4 then (if x4 ≤ (x0.size : Int) then (if x3.length < 8796093022208 then (some (x3 ++ [x0.extract (x4 : Int).toNat x0.size])) else (none)) else (none)) else (none))
def spec_l4Parts.f (k : Nat) (a0 : ByteArray) : Option (List ByteArray) := spec_l4Parts.l0 k a0 (([] : List ByteArray)) 0 0
theorem spec_l4Parts.mono_l : ∀ k, (∀ y0 y1 y2 y3, LeO (spec_l4Parts.l0 k y0 y1 y2 y3) (spec_l4Parts.l0 (k + 1) y0 y1 y2 y3))
 | 0 => fun _ _ _ _ r h => by simp [spec_l4Parts.l0] at h
 | k + 1 => by
  have ih0 := spec_l4Parts.mono_l k
  ·intro y0 y1 y2 y3
   unfold spec_l4Parts.l0
   repeat' first
   | (with_reducible exact ih0 _ _ _ _)
   | (with_reducible exact LeO.refl _)
   | (with_reducible exact LeO.none _)
   | (with_reducible refine LeO.ite ?_ ?_)
   | (with_reducible refine LeO.bind ?_ (fun _ => ?_))
   | exact ih0 _ _ _ _
   | exact LeO.none _
   | refine LeO.ite ?_ ?_
   | refine LeO.bind ?_ (fun _ => ?_)
theorem spec_l4Parts.mono : ∀ a0 k, LeO (spec_l4Parts.f k a0) (spec_l4Parts.f (k + 1) a0) := by
 intro a0 k; have ih0 := spec_l4Parts.mono_l k
 unfold spec_l4Parts.f
 repeat' first
   | (with_reducible exact ih0 _ _ _ _)
   | (with_reducible exact LeO.refl _)
   | (with_reducible exact LeO.none _)
   | (with_reducible refine LeO.ite ?_ ?_)
   | (with_reducible refine LeO.bind ?_ (fun _ => ?_))
   | exact ih0 _ _ _ _
   | exact LeO.none _
   | refine LeO.ite ?_ ?_
   | refine LeO.bind ?_ (fun _ => ?_)
set_option maxHeartbeats 8000000 in
set_option maxRecDepth 100000 in
theorem spec_l4Parts.calls (k : Nat) (a0 : ByteArray) (r : List ByteArray) (w : World) (h : spec_l4Parts.f k a0 = some r) :
  Calls Tryd.prog 79 #[.string a0] w fun e w' => ∃ v0_ : Value, e = .returned (v0_) ∧ Kd.R Kd.string 9 w' w.heap.size (fun _ => True) v0_ r ∧ Below w.heap.size w w' := by
 have HB := Aside0.mk (Below.refl w.heap.size w); have H : (spec_l4Parts.l0 k a0 (([] : List ByteArray)) 0 0) = some r := h; clear h
 obtain ⟨ac, a4⟩ : ∃ y_ : List ByteArray, y_ = (([] : List ByteArray)) := ⟨_, rfl⟩
 replace H : (spec_l4Parts.l0 k a0 ac 0 0) = some r := by first | (rw [a4]; with_reducible exact H) | (have H2_ := (Option.bind_some _ _).symm.trans H; rw [a4]; with_reducible exact H2_) | (have H2_ := (Option.bind_some _ _).symm.trans H; with_reducible exact H2_) | with_reducible exact H | (rw [a4]; exact H) | exact H
 have ad := Aside0.mk a4; clear a4; have H' := Aside0.mk H; clear H
 go_enter Tryd.func79, Tryd.ntmps79
 go_wp2_with (first | ((with_reducible refine gd 6 rfl ?_); refine Kd.R_lit Kd.string _ 9 ?hg (N := 6) ?hd (xs := ([] : List ByteArray)) (inner := []) (ok := fun _ => True) (okp := fun _ => True) ?hr ?hp (fun _ hk => hk) trivial (Below.refl _ _) (Nat.le_refl _) (by simp) ?_; (case hd => rfl); (case hg => rfl); (case hr => first | (go_simp; done) | (go_simp; rfl)); (case hp => exact (Reps.none _ _)); intro v108 w2 ho3 hb hg_ hnew_; clear hg_ hnew_; (first | rw [← ad.out] at ho3 | (simp only [Int.reduceToNat] at ho3; rw [← ad.out] at ho3)); refine Ya2 (Kd.R_lower ho3 (below_size (be HB.out))) (below_step (be HB.out) hb) ?_; clear HB; intro af HB; clear hb ho3))
 go_loopg [3, 4, 5] k (fun kq v3 v4 v5 w' => ∃ (a3 : List ByteArray) (a2 : Int) (a1 : Int), v4 = .int .i64 a2 ∧ v5 = .int .i64 a1 ∧ Aside0 (spec_l4Parts.l0 kq a0 a3 a2 a1 = some r) ∧ Aside0 (kq ≤ k) ∧ Aside0 (Kd.R Kd.string 9 w' w.heap.size (fun _ => True) v3 a3) ∧ Aside0 (Below w.heap.size w w'))
 case atStart => exact ⟨(ac), (0), (0), Ye1, Ye1, H', ⟨Nat.le_refl _⟩, ⟨kr af.out⟩, ⟨be HB.out⟩⟩
 case round =>
  clear H'; (try clear p2); obtain ⟨a3, a2, a1, rfl, rfl, HA, HK1, a5, HB⟩ := hrel
  cases gk with
  | zero => exact absurd HA.out (by simp [spec_l4Parts.l0])
  | succ k1 =>
   have H := HA.out; clear HA; simp only [spec_l4Parts.l0] at H
   by_cases c4 : a1 < (a0.size : Int)
   ·rw [if_pos c4] at H
    have ag : decide (a1 < (a0.size : Int)) = true := decide_eq_true c4; clear c4
    by_cases c5 : 0 ≤ a1
    ·rw [if_pos c5] at H
     have c5b0 : decide (0 ≤ a1) = true := decide_eq_true c5; clear c5
     by_cases c7 : (bt a0 a1) = 47
     ·rw [if_pos c7] at H
      have ah : ((bt a0 a1) == 47) = true := beq_iff_eq.mpr c7; have ai : ((bt a0 a1) != 47) = false := bne_eq_false_iff_eq.mpr c7; clear c7
      by_cases c8 : 0 ≤ a2
      ·rw [if_pos c8] at H
       have c8b0 := eq_true c8; have c8b1 : decide (0 ≤ a2) = true := decide_eq_true c8; clear c8
       by_cases c9 : a2 ≤ a1
       ·rw [if_pos c9] at H
        have c9b0 := eq_true c9; have c9b1 : decide (a2 ≤ a1) = true := decide_eq_true c9; clear c9
        by_cases c10 : a1 ≤ (a0.size : Int)
        ·rw [if_pos c10] at H
         have c10b0 := eq_true c10; have c10b1 : decide (a1 ≤ (a0.size : Int)) = true := decide_eq_true c10; clear c10
         by_cases aa : a3.length < 8796093022208
         ·rw [if_pos aa] at H
          have aj := Aside0.mk aa; clear aa
          obtain ⟨ae, a6⟩ : ∃ y_ : List ByteArray, y_ = (a3 ++ [a0.extract (a2 : Int).toNat (a1 : Int).toNat]) := ⟨_, rfl⟩
          replace H : (spec_l4Parts.l0 k1 a0 ae (wrap64 (a1 + 1)) (wrap64 (a1 + 1))) = some r := by first | (rw [a6]; with_reducible exact H) | (have H2_ := (Option.bind_some _ _).symm.trans H; rw [a6]; with_reducible exact H2_) | (have H2_ := (Option.bind_some _ _).symm.trans H; with_reducible exact H2_) | with_reducible exact H | (rw [a6]; exact H) | exact H
          have ak := Aside0.mk a6; clear a6; have H' := Aside0.mk H; clear H; have p6 : 0 ≤ (a1 : Int) := oda; have q6 : a1 < (a0.size : Int) := oda; have hx6 := bt_at a0 a1; replace p6 := eq_true p6; replace q6 := eq_true q6
          go_wp2_with (first | ((with_reducible refine gate_builtin (b := .append) (xs := #[.tmp 17, .tmp 22]) rfl ?_); at_builtin; refine Kd.R_append Kd.string (w0 := w) w.heap.size rfl (.tmp 17) (.tmp 22) 42 9 (.string ⟨#[]⟩) 16 rfl Tryd.underlying42 info9 rfl (by decide) (by omega) u3 a3 (a0.extract (a2 : Int).toNat (a1 : Int).toNat) [.string (a0.extract (a2 : Int).toNat (a1 : Int).toNat)] (fun _ => True) (fun _ => False) rfl rfl ?aP (fun _ hk => hk.elim) ?aF ?aO ?aB ?aS ?aL ?_; (case aP => exact rfl); (case aB => exact (be HB.out)); (case aF => exact (fun _ _ => trivial)); (case aO => exact (kr a5.out)); (case aS => exact (below_size (be HB.out))); (case aL => have := aj.out; omega); intro v111 w12 ho hb hg hat; rw [← ak.out] at ho; refine Ya2 (hb) (ho) ?_; clear HB a5; intro HB al; clear ho hb hg hat))
          go_roundg k1
          case measure => have := HK1.out; omega
          case rel => exact ⟨(ae), (wrap64 (a1 + 1)), (wrap64 (a1 + 1)), Ye1, Ye1, H', ⟨by have := HK1.out; omega⟩, ⟨kr al.out⟩, ⟨be HB.out⟩⟩
         ·rw [if_neg aa] at H
          exact absurd H (by simp)
        ·rw [if_neg c10] at H
         exact absurd H (by simp)
       ·rw [if_neg c9] at H
        exact absurd H (by simp)
      ·rw [if_neg c8] at H
       exact absurd H (by simp)
     ·rw [if_neg c7] at H
      have ah : ((bt a0 a1) == 47) = false := beq_eq_false_iff_ne.mpr c7; have ai : ((bt a0 a1) != 47) = true := bne_iff_ne.mpr c7; have H' := Aside0.mk H; clear H; have p6 : 0 ≤ (a1 : Int) := oda; have q6 : a1 < (a0.size : Int) := oda; have hx6 := bt_at a0 a1; replace p6 := eq_true p6; replace q6 := eq_true q6
      go_wp2
      go_roundg k1
      case measure => have := HK1.out; omega
      case rel => exact ⟨(a3), (a2), (wrap64 (a1 + 1)), Ye1, Ye1, H', ⟨by have := HK1.out; omega⟩, ⟨kr a5.out⟩, ⟨be HB.out⟩⟩
    ·rw [if_neg c5] at H
     exact absurd H (by simp)
   ·rw [if_neg c4] at H
    have ag : decide (a1 < (a0.size : Int)) = false := decide_eq_false c4; clear c4
    by_cases a7 : 0 ≤ a2
    ·rw [if_pos a7] at H
     have c13b0 := eq_true a7; have c13b1 : decide (0 ≤ a2) = true := decide_eq_true a7; clear a7
     by_cases a8 : a2 ≤ (a0.size : Int)
     ·rw [if_pos a8] at H
      have c14b0 := eq_true a8; have c14b1 : decide (a2 ≤ (a0.size : Int)) = true := decide_eq_true a8; clear a8
      by_cases ab : a3.length < 8796093022208
      ·rw [if_pos ab] at H
       have am := Aside0.mk ab; clear ab
       obtain ⟨an, a9⟩ : ∃ y_ : List ByteArray, y_ = (a3 ++ [a0.extract (a2 : Int).toNat a0.size]) := ⟨_, rfl⟩
       replace H : (some an) = some r := by first | (rw [a9]; with_reducible exact H) | (have H2_ := (Option.bind_some _ _).symm.trans H; rw [a9]; with_reducible exact H2_) | (have H2_ := (Option.bind_some _ _).symm.trans H; with_reducible exact H2_) | with_reducible exact H | (rw [a9]; exact H) | exact H
       have ao := Aside0.mk a9; clear a9; obtain rfl := Option.some.inj H
       go_wp2_with (first | ((with_reducible refine gate_builtin (b := .append) (xs := #[.tmp 26, .tmp 30]) rfl ?_); at_builtin; refine Kd.R_append Kd.string (w0 := w) w.heap.size rfl (.tmp 26) (.tmp 30) 42 9 (.string ⟨#[]⟩) 16 rfl Tryd.underlying42 info9 rfl (by decide) (by omega) u3 a3 (a0.extract (a2 : Int).toNat a0.size) [.string (a0.extract (a2 : Int).toNat a0.size)] (fun _ => True) (fun _ => False) rfl rfl ?aP (fun _ hk => hk.elim) ?aF ?aO ?aB ?aS ?aL ?_; (case aP => exact rfl); (case aB => exact (be HB.out)); (case aF => exact (fun _ _ => trivial)); (case aO => exact (kr a5.out)); (case aS => exact (below_size (be HB.out))); (case aL => have := am.out; omega); intro v114 w16 ho hb hg hat; rw [← ao.out] at ho; refine Ya2 (hb) (ho) ?_; clear HB a5; intro HB ap; clear ho hb hg hat))
       go_ret
       exact ⟨_, Ye2, kr ap.out, be HB.out⟩
      ·rw [if_neg ab] at H
       exact absurd H (by simp)
     ·rw [if_neg a8] at H
      exact absurd H (by simp)
    ·rw [if_neg a7] at H
     exact absurd H (by simp)

end Go.Proofs.YtknagppkeodggaaDoor.P


namespace Go.Proofs.YtknagppkeodggaaDoor.P
open Go.RowKit Go.Proofs.YtknagppkeodggaaDoorW.PrintWords Go.Proofs.YtknagppkeodggaaDoorW.PrintLast Go.Proofs.YtknagppkeodggaaDoorW.PrintMore
attribute [local go_sem] max2_int min2_int max_two min_two max_three min_three max_four min_four
set_option linter.unusedVariables false
set_option linter.unusedSimpArgs false

/-! ### spec_l4Ok: function 85 -/
def spec_l4Ok.l0 : Nat → Bool → List ByteArray → Int → Option (Bool)
 | 0, _, _, _ => none
 | k + 1, x1, x5, x6 => if x6 < (x5.length : Int) then (if 0 ≤ x6 then ((spec_l4PartOk.f k (rdOf ByteArray.empty x5 x6) x1).bind fun a6 => (if a6 = true then (spec_l4Ok.l0 k x1 x5 (wrap64 (x6 + 1))) else (some false))) else (none)) else (some true)
def spec_l4Ok.f (k : Nat) (a0 : ByteArray) (a1 : Bool) : Option (Bool) := if (a0.size : Int) > 126 then (some false) else ((spec_l4Parts.f k a0).bind fun a2 => (if (a2.length : Int) > 6 then (some false) else (spec_l4Ok.l0 k a1 a2 0)))
theorem spec_l4Ok.mono_l : ∀ k, (∀ y0 y1 y2, LeO (spec_l4Ok.l0 k y0 y1 y2) (spec_l4Ok.l0 (k + 1) y0 y1 y2))
 | 0 => fun _ _ _ r h => by simp [spec_l4Ok.l0] at h
 | k + 1 => by
  have ih0 := spec_l4Ok.mono_l k
  ·intro y0 y1 y2
   unfold spec_l4Ok.l0
   repeat' first
   | (with_reducible exact ih0 _ _ _)
   | (with_reducible exact spec_l4PartOk.mono _ _ _)
   | (with_reducible exact spec_l4Parts.mono _ _)
   | (with_reducible exact LeO.refl _)
   | (with_reducible exact LeO.none _)
   | (with_reducible refine LeO.ite ?_ ?_)
   | (with_reducible refine LeO.bind ?_ (fun _ => ?_))
   | exact ih0 _ _ _
   | exact spec_l4PartOk.mono _ _ _
   | exact spec_l4Parts.mono _ _
   | exact LeO.none _
   | refine LeO.ite ?_ ?_
   | refine LeO.bind ?_ (fun _ => ?_)
theorem spec_l4Ok.mono : ∀ a0 a1 k, LeO (spec_l4Ok.f k a0 a1) (spec_l4Ok.f (k + 1) a0 a1) := by
 intro a0 a1 k; have ih0 := spec_l4Ok.mono_l k
 unfold spec_l4Ok.f
 repeat' first
   | (with_reducible exact ih0 _ _ _)
   | (with_reducible exact spec_l4PartOk.mono _ _ _)
   | (with_reducible exact spec_l4Parts.mono _ _)
   | (with_reducible exact LeO.refl _)
   | (with_reducible exact LeO.none _)
   | (with_reducible refine LeO.ite ?_ ?_)
   | (with_reducible refine LeO.bind ?_ (fun _ => ?_))
   | exact ih0 _ _ _
   | exact spec_l4PartOk.mono _ _ _
   | exact spec_l4Parts.mono _ _
   | exact LeO.none _
   | refine LeO.ite ?_ ?_
   | refine LeO.bind ?_ (fun _ => ?_)
set_option maxHeartbeats 8000000 in
set_option maxRecDepth 100000 in
theorem spec_l4Ok.calls (k : Nat) (a0 : ByteArray) (a1 : Bool) (r : Bool) (w : World) (h : spec_l4Ok.f k a0 a1 = some r) :
  Calls Tryd.prog 85 #[.string a0, .bool a1] w fun e w' => e = .returned (.bool r) ∧ Below w.heap.size w w' := by
 have HB := Aside0.mk (Below.refl w.heap.size w); have H : (if (a0.size : Int) > 126 then (some false) else ((spec_l4Parts.f k a0).bind fun a2 => (if (a2.length : Int) > 6 then (some false) else (spec_l4Ok.l0 k a1 a2 0)))) = some r := h; clear h
 by_cases c3 : (a0.size : Int) > 126
 ·rw [if_pos c3] at H
  have ac : decide (126 < (a0.size : Int)) = true := decide_eq_true c3; have ad : decide (126 < a0.size) = true := decide_eq_true (by omega); clear c3; obtain rfl := Option.some.inj H
  go_enter Tryd.func85, Tryd.ntmps85
  go_wp2
  go_ret
  exact ⟨Ye2, be HB.out⟩
 ·rw [if_neg c3] at H
  have ac : decide (126 < (a0.size : Int)) = false := decide_eq_false c3; have ad : decide (126 < a0.size) = false := decide_eq_false (by omega); clear c3; replace H := Option.bind_eq_some_iff.mp H; obtain ⟨a2, A40, H⟩ := H; replace H : (if (a2.length : Int) > 6 then (some false) else (spec_l4Ok.l0 k a1 a2 0)) = some r := H; have A4 := Aside0.mk A40; clear A40
  by_cases c5 : (a2.length : Int) > 6
  ·rw [if_pos c5] at H
   have ae : decide (6 < (a2.length : Int)) = true := decide_eq_true c5; have af : decide (6 < a2.length) = true := decide_eq_true (by omega); clear c5; obtain rfl := Option.some.inj H
   go_enter Tryd.func85, Tryd.ntmps85
   go_wp2_with (first | ((with_reducible refine gc 79 rfl ?_); refine gl (some 11) _ (#[.string a0]) Tryd.func79 ?_; (with_reducible refine (spec_l4Parts.calls k a0 a2 _ A4.out).mono ?_); rintro e w6 ⟨ah, rfl, ho0, hb⟩; refine ⟨_, rfl, ?_⟩; refine Ya2 (Kd.R_lower ho0 (below_size (be HB.out))) (below_step (be HB.out) hb) ?_; clear HB; intro a7 HB; (try clear hb); (try clear hb2); (try clear hk); (try clear hi); (try clear ho0); obtain ⟨Ao7, co7, eo7⟩ := Kd.R_slice a7.out; subst eo7))
   go_ret
   exact ⟨Ye2, be HB.out⟩
  ·rw [if_neg c5] at H
   have ae : decide (6 < (a2.length : Int)) = false := decide_eq_false c5; have af : decide (6 < a2.length) = false := decide_eq_false (by omega); clear c5; have H' := Aside0.mk H; clear H
   go_enter Tryd.func85, Tryd.ntmps85
   go_wp2_with (first | ((with_reducible refine gc 79 rfl ?_); refine gl (some 11) _ (#[.string a0]) Tryd.func79 ?_; (with_reducible refine (spec_l4Parts.calls k a0 a2 _ A4.out).mono ?_); rintro e w8 ⟨ah, rfl, ho0, hb⟩; refine ⟨_, rfl, ?_⟩; refine Ya2 (Kd.R_lower ho0 (below_size (be HB.out))) (below_step (be HB.out) hb) ?_; clear HB; intro a7 HB; (try clear hb); (try clear hb2); (try clear hk); (try clear hi); (try clear ho0); obtain ⟨Ao9, co9, eo9⟩ := Kd.R_slice a7.out; subst eo9))
   go_loopg [6] k (fun kq v6 w' => ∃ (a3 : Int), v6 = .int .i64 a3 ∧ Aside0 (spec_l4Ok.l0 kq a1 a2 a3 = some r) ∧ Aside0 (kq ≤ k) ∧ Aside0 (Kd.R Kd.string 9 w' w.heap.size (fun _ => True) (.slice Ao9 a2.length co9) a2) ∧ Aside0 (Below w.heap.size w w'))
   case atStart => exact ⟨(0), Ye1, H', ⟨Nat.le_refl _⟩, ⟨kr a7.out⟩, ⟨be HB.out⟩⟩
   case round =>
    clear H'; (try clear p2); (try clear c3); (try clear ac); (try clear ad); (try clear c5); (try clear ae); (try clear af); (try clear c7); (try clear c8); obtain ⟨a3, rfl, HA, HK1, aa, HB⟩ := hrel
    cases gk with
    | zero => exact absurd HA.out (by simp [spec_l4Ok.l0])
    | succ k1 =>
     have H := HA.out; clear HA; simp only [spec_l4Ok.l0] at H
     by_cases c10 : a3 < (a2.length : Int)
     ·rw [if_pos c10] at H
      have ai : decide (a3 < (a2.length : Int)) = true := decide_eq_true c10; clear c10
      by_cases a8 : 0 ≤ a3
      ·rw [if_pos a8] at H
       have c11b0 : decide (0 ≤ a3) = true := decide_eq_true a8; clear a8; replace H := Option.bind_eq_some_iff.mp H; obtain ⟨a6, ag, H⟩ := H; replace H : (if a6 = true then (spec_l4Ok.l0 k1 a1 a2 (wrap64 (a3 + 1))) else (some false)) = some r := H; have A12 := Aside0.mk ag; clear ag
       by_cases a9 : a6 = true
       ·subst a9
        have H1 : (spec_l4Ok.l0 k1 a1 a2 (wrap64 (a3 + 1))) = some r := by rw [if_pos rfl] at H; exact H
        clear H; have H := H1; clear H1; have H' := Aside0.mk H; clear H; have a4 : 0 ≤ (a3 : Int) := oda; have a5 : a3 < (a2.length : Int) := oda; obtain ⟨aj, ab, ak⟩ := Kd.at_string (Kd.R_reads' aa.out).2.2 a3 a4 a5
        cases ab
        replace a4 := eq_true a4; replace a5 := eq_true a5
        go_wp2_with (first | ((with_reducible refine gc 149 rfl ?_); refine gl (some 26) _ (#[.string (rdOf ByteArray.empty a2 a3), .bool a1]) Tryd.func149 ?_; (with_reducible refine (spec_l4PartOk.calls k1 (rdOf ByteArray.empty a2 a3) a1 true _ A12.out).mono ?_); rintro e w' ⟨rfl, ⟨nd, rfl⟩⟩; refine ⟨_, rfl, ?_⟩))
        go_roundg k1
        case measure => have := HK1.out; omega
        case rel => exact ⟨(wrap64 (a3 + 1)), Ye1, H', ⟨by have := HK1.out; omega⟩, ⟨kr aa.out⟩, ⟨be HB.out⟩⟩
       ·replace a9 := Bool.eq_false_iff.mpr a9; subst a9
        have H1 : (some false) = some r := by rw [if_neg (show ¬ (false = true) by decide)] at H; exact H
        clear H; have H := H1; clear H1; obtain rfl := Option.some.inj H; have a4 : 0 ≤ (a3 : Int) := oda; have a5 : a3 < (a2.length : Int) := oda; obtain ⟨aj, ab, ak⟩ := Kd.at_string (Kd.R_reads' aa.out).2.2 a3 a4 a5
        cases ab
        replace a4 := eq_true a4; replace a5 := eq_true a5
        go_wp2_with (first | ((with_reducible refine gc 149 rfl ?_); refine gl (some 26) _ (#[.string (rdOf ByteArray.empty a2 a3), .bool a1]) Tryd.func149 ?_; (with_reducible refine (spec_l4PartOk.calls k1 (rdOf ByteArray.empty a2 a3) a1 false _ A12.out).mono ?_); rintro e w' ⟨rfl, ⟨nd, rfl⟩⟩; refine ⟨_, rfl, ?_⟩))
        go_ret
        exact ⟨Ye2, be HB.out⟩
      ·rw [if_neg a8] at H
       exact absurd H (by simp)
     ·rw [if_neg c10] at H
      have ai : decide (a3 < (a2.length : Int)) = false := decide_eq_false c10; clear c10; obtain rfl := Option.some.inj H
      go_wp2
      go_ret
      exact ⟨Ye2, be HB.out⟩

end Go.Proofs.YtknagppkeodggaaDoor.P


namespace Go.Proofs.YtknagppkeodggaaDoor.P
open Go.RowKit Go.Proofs.YtknagppkeodggaaDoorW.PrintWords Go.Proofs.YtknagppkeodggaaDoorW.PrintLast Go.Proofs.YtknagppkeodggaaDoorW.PrintMore
attribute [local go_sem] max2_int min2_int max_two min_two max_three min_three max_four min_four
set_option linter.unusedVariables false
set_option linter.unusedSimpArgs false

/-! ### spec_ValidPath: function 23 -/
def spec_ValidPath.f (k : Nat) (a0 : ByteArray) : Option (Bool) := (spec_l4Ok.f k a0 false).bind fun a1 => (some a1)
theorem spec_ValidPath.mono : ∀ a0 k, LeO (spec_ValidPath.f k a0) (spec_ValidPath.f (k + 1) a0) := by
 intro a0 k
 unfold spec_ValidPath.f
 repeat' first
   | (with_reducible exact spec_l4Ok.mono _ _ _)
   | (with_reducible exact LeO.refl _)
   | (with_reducible exact LeO.none _)
   | (with_reducible refine LeO.ite ?_ ?_)
   | (with_reducible refine LeO.bind ?_ (fun _ => ?_))
   | exact spec_l4Ok.mono _ _ _
   | exact LeO.none _
   | refine LeO.ite ?_ ?_
   | refine LeO.bind ?_ (fun _ => ?_)
set_option maxHeartbeats 8000000 in
set_option maxRecDepth 100000 in
theorem spec_ValidPath.calls (k : Nat) (a0 : ByteArray) (r : Bool) (w : World) (h : spec_ValidPath.f k a0 = some r) :
  Calls Tryd.prog 23 #[.string a0] w fun e w' => e = .returned (.bool r) ∧ Below w.heap.size w w' := by
 have HB := Aside0.mk (Below.refl w.heap.size w); have H : ((spec_l4Ok.f k a0 false).bind fun a1 => (some a1)) = some r := h; clear h; replace H := Option.bind_eq_some_iff.mp H; obtain ⟨a1, A20, H⟩ := H; replace H : (some a1) = some r := H; have A2 := Aside0.mk A20; clear A20; obtain rfl := Option.some.inj H
 go_enter Tryd.func23, Tryd.ntmps23
 go_wp2_with (first | ((with_reducible refine gc 85 rfl ?_); refine gl (some 4) _ (#[.string a0, .bool false]) Tryd.func85 ?_; (with_reducible refine (spec_l4Ok.calls k a0 false a1 _ A2.out).mono ?_); rintro e w3 ⟨rfl, hb⟩; refine ⟨_, rfl, ?_⟩; refine Ya1 (below_step (be HB.out) hb) ?_; clear HB; intro HB; (try clear hb); (try clear hb2); (try clear hk); (try clear hi)))
 go_ret
 exact ⟨Ye2, be HB.out⟩

end Go.Proofs.YtknagppkeodggaaDoor.P


namespace Go.Proofs.YtknagppkeodggaaDoor.P
open Go.RowKit Go.Proofs.YtknagppkeodggaaDoorW.PrintWords Go.Proofs.YtknagppkeodggaaDoorW.PrintLast Go.Proofs.YtknagppkeodggaaDoorW.PrintMore
attribute [local go_sem] max2_int min2_int max_two min_two max_three min_three max_four min_four
set_option linter.unusedVariables false
set_option linter.unusedSimpArgs false

attribute [local go_sem high] eqA118
/-! ### spec_ValidPatch: function 89 -/
def spec_ValidPatch.l0 : Nat → Int → List (S120) → Option (Bool)
 | 0, _, _ => none
 | k + 1, x3, ae => if x3 < (ae.length : Int) then (if 0 ≤ x3 then ((spec_ValidPath.f k ((rd_T120 ae x3).f0)).bind fun aN => (if aN = true then ((spec_l6FileOk.f ((rd_T120 ae x3).f1.f0) ((rd_T120 ae x3).f1.f1) ((rd_T120 ae x3).f1.f2)).bind fun av => (if av = true then ((spec_l6FileOk.f ((rd_T120 ae x3).f2.f0) ((rd_T120 ae x3).f2.f1) ((rd_T120 ae x3).f2.f2)).bind fun ai => (if ai = true then (if (((rd_T120 ae x3).f1.f0) == ((rd_T120 ae x3).f2.f0) && ((((rd_T120 ae x3).f1.f1).toList) == (((rd_T120 ae x3).f2.f1).toList) && (((rd_T120 ae x3).f1.f2) == ((rd_T120 ae x3).f2.f2)))) = true then (some false) else (if x3 > 0 then (if 0 ≤ (wrap64 (x3 - 1)) then (if (wrap64 (x3 - 1)) < (ae.length : Int) then (if ((Op.bytesLess (((rd_T120 ae (wrap64 (x3 - 1))).f0).toList) (((rd_T120 ae x3).f0).toList)) = true) then (spec_ValidPatch.l0 k (wrap64 (x3 + 1)) ae) else (some false)) else (none)) else (none)) else (spec_ValidPatch.l0 k (wrap64 (x3 + 1)) ae))) else (some false))) else (some false))) else (some false))) else (none)) else (some true)
def spec_ValidPatch.f (k : Nat) (a1 : List (S120)) : Option (Bool) := if (a1.length : Int) > 200 then (some false) else (spec_ValidPatch.l0 k 0 a1)
theorem spec_ValidPatch.mono_l : ∀ k, (∀ y0 y1, LeO (spec_ValidPatch.l0 k y0 y1) (spec_ValidPatch.l0 (k + 1) y0 y1))
 | 0 => fun _ _ r h => by simp [spec_ValidPatch.l0] at h
 | k + 1 => by
  have ih0 := spec_ValidPatch.mono_l k
  ·intro y0 y1
   unfold spec_ValidPatch.l0
   repeat' first
   | (with_reducible exact ih0 _ _)
   | (with_reducible exact spec_ValidPath.mono _ _)
   | (with_reducible exact LeO.refl _)
   | (with_reducible exact LeO.none _)
   | (with_reducible refine LeO.ite ?_ ?_)
   | (with_reducible refine LeO.bind ?_ (fun _ => ?_))
   | exact ih0 _ _
   | exact spec_ValidPath.mono _ _
   | exact LeO.none _
   | refine LeO.ite ?_ ?_
   | refine LeO.bind ?_ (fun _ => ?_)
theorem spec_ValidPatch.mono : ∀ a0 k, LeO (spec_ValidPatch.f k a0) (spec_ValidPatch.f (k + 1) a0) := by
 intro a0 k; have ih0 := spec_ValidPatch.mono_l k
 unfold spec_ValidPatch.f
 repeat' first
   | (with_reducible exact ih0 _ _)
   | (with_reducible exact spec_ValidPath.mono _ _)
   | (with_reducible exact LeO.refl _)
   | (with_reducible exact LeO.none _)
   | (with_reducible refine LeO.ite ?_ ?_)
   | (with_reducible refine LeO.bind ?_ (fun _ => ?_))
   | exact ih0 _ _
   | exact spec_ValidPath.mono _ _
   | exact LeO.none _
   | refine LeO.ite ?_ ?_
   | refine LeO.bind ?_ (fun _ => ?_)
def spec_ValidPatch.T7 : Bool × List (List Nat × List Nat) := (true, [([], []), ([0], [0]), ([1], [1]), ([2], [2]), ([3, 2], [3]), ([4], [4]), ([5, 4], [4, 5]), ([6, 4, 4], [4, 6]), ([7, 4], [4, 7]), ([4, 8], [4, 8]), ([9, 7], [9]), ([10], [10]), ([11, 10], [10, 11]), ([12, 10, 10], [10, 12]), ([13, 10], [10, 13]), ([10, 14], [10, 14]), ([15, 13], [15]), ([16], [16]), ([17, 16], [16, 17]), ([16], [16]), ([19, 16], [16, 19]), ([18, 20, 16], [16, 18, 20]), ([16, 21], [16, 21]), ([22, 16], [22]), ([23], [23]), ([24, 23], [23, 24]), ([25, 23, 23], [23, 25]), ([26], [26]), ([27, 26], [26, 27]), ([26], [26]), ([29, 26], [26, 29]), ([28, 30, 26], [26, 28, 30]), ([31, 26], [26, 31]), ([32, 26], [26, 32]), ([26], [26]), ([34, 26], [26, 34]), ([33, 35, 26], [26, 33, 35]), ([26, 36, 23], [23, 26, 36]), ([23, 37], [23, 37])])
def spec_ValidPatch.B7 : List Nat := [0, 1, 3, 7, 15, 31, 63, 127, 255, 511, 1023, 2047, 4095, 8191, 16383, 32767, 65535, 131071, 262143, 131071, 655359, 2097151, 4194303, 8388607, 16777215, 33554431, 67108863, 134217727, 268435455, 134217727, 671088639, 2147483647, 4294967295, 8589934591, 134217727, 17314086911, 68719476735, 137438953471, 274877906943]
theorem spec_ValidPatch.tab7 : rtab .any (opsOf Tryd.f89 7) = spec_ValidPatch.T7 := by kernel_rfl
theorem spec_ValidPatch.bits7 : waitsOk spec_ValidPatch.T7.2 spec_ValidPatch.B7 = true := by kernel_rfl
set_option maxHeartbeats 8000000 in
set_option maxRecDepth 100000 in
theorem spec_ValidPatch.calls (k : Nat) (aM : Option Addr) (af : Nat) (a1 : List (S120)) (r : Bool) (w : World) (b1 : Kd.C k120 w aM a1.length a1) (b2 : a1.length ≤ af) (h : spec_ValidPatch.f k a1 = some r) :
  Calls Tryd.prog 89 #[.agg #[.slice aM a1.length af]] w fun e w' => e = .returned (.bool r) ∧ Below w.heap.size w w' := by
 have hu52 := Tryd.underlying52; have hu120 := Tryd.underlying120; have hu118 := Tryd.underlying118; have al := Aside0.mk b1; have HC0_0 := Aside0.mk b2; clear b1 b2; have HB := Aside0.mk (Below.refl w.heap.size w); have H : (if (a1.length : Int) > 200 then (some false) else (spec_ValidPatch.l0 k 0 a1)) = some r := h; clear h
 by_cases c2 : (a1.length : Int) > 200
 ·rw [if_pos c2] at H
  have b3 : decide (200 < (a1.length : Int)) = true := decide_eq_true c2; have b4 : decide (200 < a1.length) = true := decide_eq_true (by omega); clear c2; obtain rfl := Option.some.inj H
  go_enter Tryd.func89, Tryd.ntmps89
  go_wp2_with (first | ((with_reducible refine gd 1 rfl ?_); refine bx 1 52 (#[.slice aM a1.length af]) ?_; intro aj hg w3 hbox hb; refine Ya4 (below_step (be HB.out) hb) (hbox) (bs hg (be HB.out)) (bs hg (be HB.out)) ?_; clear HB; intro HB a5 b7 b8; clear hb hbox hg; have ⟨b9, ba⟩ := Yc1 a5.out))
  go_ret
  exact ⟨Ye2, (bf HB.out)⟩
 ·rw [if_neg c2] at H
  have b3 : decide (200 < (a1.length : Int)) = false := decide_eq_false c2; have b4 : decide (200 < a1.length) = false := decide_eq_false (by omega); clear c2; have H' := Aside0.mk H; clear H
  go_enter Tryd.func89, Tryd.ntmps89
  go_wp2_with (first | ((with_reducible refine gd 1 rfl ?_); refine bx 1 52 (#[.slice aM a1.length af]) ?_; intro aj hg w5 hbox hb; refine Ya4 (below_step (be HB.out) hb) (hbox) (bs hg (be HB.out)) (bs hg (be HB.out)) ?_; clear HB; intro HB a5 b7 b8; clear hb hbox hg; have ⟨bd, bg⟩ := Yc1 a5.out))
  go_loopg [3] k (fun kq v3 w' => ∃ (a2 : Int), v3 = .int .i64 a2 ∧ Aside0 (spec_ValidPatch.l0 kq a2 a1 = some r) ∧ Aside0 (kq ≤ k) ∧ Aside0 (w'.heap[aj]? = some (.cells #[(.slice aM a1.length af)] 52 (0, 0))) ∧ Aside0 (Below w.heap.size w w'))
  case atStart => exact ⟨(0), Ye1, H', ⟨Nat.le_refl _⟩, ⟨bk a5.out⟩, ⟨bf HB.out⟩⟩
  case round =>
   clear H'; (try clear c2); (try clear b3); (try clear b4); (try clear p2); (try clear b9); (try clear bd); (try clear ba); (try clear bg); obtain ⟨a2, rfl, HA, HK1, a5, HB⟩ := hrel
   cases gk with
   | zero => exact absurd HA.out (by simp [spec_ValidPatch.l0])
   | succ k1 =>
    have H := HA.out; clear HA; simp only [spec_ValidPatch.l0] at H
    by_cases c7 : a2 < (a1.length : Int)
    ·rw [if_pos c7] at H
     have bh : decide (a2 < (a1.length : Int)) = true := decide_eq_true c7; clear c7
     by_cases c8 : 0 ≤ a2
     ·rw [if_pos c8] at H
      have c8b0 : decide (0 ≤ a2) = true := decide_eq_true c8; clear c8; replace H := Option.bind_eq_some_iff.mp H; obtain ⟨aN, A90, H⟩ := H; replace H : (if aN = true then ((spec_l6FileOk.f ((rd_T120 a1 a2).f1.f0) ((rd_T120 a1 a2).f1.f1) ((rd_T120 a1 a2).f1.f2)).bind fun av => (if av = true then ((spec_l6FileOk.f ((rd_T120 a1 a2).f2.f0) ((rd_T120 a1 a2).f2.f1) ((rd_T120 a1 a2).f2.f2)).bind fun ai => (if ai = true then (if (((rd_T120 a1 a2).f1.f0) == ((rd_T120 a1 a2).f2.f0) && ((((rd_T120 a1 a2).f1.f1).toList) == (((rd_T120 a1 a2).f2.f1).toList) && (((rd_T120 a1 a2).f1.f2) == ((rd_T120 a1 a2).f2.f2)))) = true then (some false) else (if a2 > 0 then (if 0 ≤ (wrap64 (a2 - 1)) then (if (wrap64 (a2 - 1)) < (a1.length : Int) then (if ((Op.bytesLess (((rd_T120 a1 (wrap64 (a2 - 1))).f0).toList) (((rd_T120 a1 a2).f0).toList)) = true) then (spec_ValidPatch.l0 k1 (wrap64 (a2 + 1)) a1) else (some false)) else (none)) else (none)) else (spec_ValidPatch.l0 k1 (wrap64 (a2 + 1)) a1))) else (some false))) else (some false))) else (some false)) = some r := H; have A9 := Aside0.mk A90; clear A90
      by_cases c10 : aN = true
      ·subst c10
       have H1 : ((spec_l6FileOk.f ((rd_T120 a1 a2).f1.f0) ((rd_T120 a1 a2).f1.f1) ((rd_T120 a1 a2).f1.f2)).bind fun av => (if av = true then ((spec_l6FileOk.f ((rd_T120 a1 a2).f2.f0) ((rd_T120 a1 a2).f2.f1) ((rd_T120 a1 a2).f2.f2)).bind fun ai => (if ai = true then (if (((rd_T120 a1 a2).f1.f0) == ((rd_T120 a1 a2).f2.f0) && ((((rd_T120 a1 a2).f1.f1).toList) == (((rd_T120 a1 a2).f2.f1).toList) && (((rd_T120 a1 a2).f1.f2) == ((rd_T120 a1 a2).f2.f2)))) = true then (some false) else (if a2 > 0 then (if 0 ≤ (wrap64 (a2 - 1)) then (if (wrap64 (a2 - 1)) < (a1.length : Int) then (if ((Op.bytesLess (((rd_T120 a1 (wrap64 (a2 - 1))).f0).toList) (((rd_T120 a1 a2).f0).toList)) = true) then (spec_ValidPatch.l0 k1 (wrap64 (a2 + 1)) a1) else (some false)) else (none)) else (none)) else (spec_ValidPatch.l0 k1 (wrap64 (a2 + 1)) a1))) else (some false))) else (some false))) = some r := by rw [if_pos rfl] at H; exact H
       clear H; have H := H1; clear H1; replace H := Option.bind_eq_some_iff.mp H; obtain ⟨av, b5, H⟩ := H; replace H : (if av = true then ((spec_l6FileOk.f ((rd_T120 a1 a2).f2.f0) ((rd_T120 a1 a2).f2.f1) ((rd_T120 a1 a2).f2.f2)).bind fun ai => (if ai = true then (if (((rd_T120 a1 a2).f1.f0) == ((rd_T120 a1 a2).f2.f0) && ((((rd_T120 a1 a2).f1.f1).toList) == (((rd_T120 a1 a2).f2.f1).toList) && (((rd_T120 a1 a2).f1.f2) == ((rd_T120 a1 a2).f2.f2)))) = true then (some false) else (if a2 > 0 then (if 0 ≤ (wrap64 (a2 - 1)) then (if (wrap64 (a2 - 1)) < (a1.length : Int) then (if ((Op.bytesLess (((rd_T120 a1 (wrap64 (a2 - 1))).f0).toList) (((rd_T120 a1 a2).f0).toList)) = true) then (spec_ValidPatch.l0 k1 (wrap64 (a2 + 1)) a1) else (some false)) else (none)) else (none)) else (spec_ValidPatch.l0 k1 (wrap64 (a2 + 1)) a1))) else (some false))) else (some false)) = some r := H; have aw := Aside0.mk b5; clear b5
       by_cases aO : av = true
       ·subst aO
        have H1 : ((spec_l6FileOk.f ((rd_T120 a1 a2).f2.f0) ((rd_T120 a1 a2).f2.f1) ((rd_T120 a1 a2).f2.f2)).bind fun ai => (if ai = true then (if (((rd_T120 a1 a2).f1.f0) == ((rd_T120 a1 a2).f2.f0) && ((((rd_T120 a1 a2).f1.f1).toList) == (((rd_T120 a1 a2).f2.f1).toList) && (((rd_T120 a1 a2).f1.f2) == ((rd_T120 a1 a2).f2.f2)))) = true then (some false) else (if a2 > 0 then (if 0 ≤ (wrap64 (a2 - 1)) then (if (wrap64 (a2 - 1)) < (a1.length : Int) then (if ((Op.bytesLess (((rd_T120 a1 (wrap64 (a2 - 1))).f0).toList) (((rd_T120 a1 a2).f0).toList)) = true) then (spec_ValidPatch.l0 k1 (wrap64 (a2 + 1)) a1) else (some false)) else (none)) else (none)) else (spec_ValidPatch.l0 k1 (wrap64 (a2 + 1)) a1))) else (some false))) = some r := by rw [if_pos rfl] at H; exact H
        clear H; have H := H1; clear H1; replace H := Option.bind_eq_some_iff.mp H; obtain ⟨ai, b6, H⟩ := H; replace H : (if ai = true then (if (((rd_T120 a1 a2).f1.f0) == ((rd_T120 a1 a2).f2.f0) && ((((rd_T120 a1 a2).f1.f1).toList) == (((rd_T120 a1 a2).f2.f1).toList) && (((rd_T120 a1 a2).f1.f2) == ((rd_T120 a1 a2).f2.f2)))) = true then (some false) else (if a2 > 0 then (if 0 ≤ (wrap64 (a2 - 1)) then (if (wrap64 (a2 - 1)) < (a1.length : Int) then (if ((Op.bytesLess (((rd_T120 a1 (wrap64 (a2 - 1))).f0).toList) (((rd_T120 a1 a2).f0).toList)) = true) then (spec_ValidPatch.l0 k1 (wrap64 (a2 + 1)) a1) else (some false)) else (none)) else (none)) else (spec_ValidPatch.l0 k1 (wrap64 (a2 + 1)) a1))) else (some false)) = some r := H; have aA := Aside0.mk b6; clear b6
        by_cases aP : ai = true
        ·subst aP
         have H1 : (if (((rd_T120 a1 a2).f1.f0) == ((rd_T120 a1 a2).f2.f0) && ((((rd_T120 a1 a2).f1.f1).toList) == (((rd_T120 a1 a2).f2.f1).toList) && (((rd_T120 a1 a2).f1.f2) == ((rd_T120 a1 a2).f2.f2)))) = true then (some false) else (if a2 > 0 then (if 0 ≤ (wrap64 (a2 - 1)) then (if (wrap64 (a2 - 1)) < (a1.length : Int) then (if ((Op.bytesLess (((rd_T120 a1 (wrap64 (a2 - 1))).f0).toList) (((rd_T120 a1 a2).f0).toList)) = true) then (spec_ValidPatch.l0 k1 (wrap64 (a2 + 1)) a1) else (some false)) else (none)) else (none)) else (spec_ValidPatch.l0 k1 (wrap64 (a2 + 1)) a1))) = some r := by rw [if_pos rfl] at H; exact H
         clear H; have H := H1; clear H1
         by_cases ak : (((rd_T120 a1 a2).f1.f0) == ((rd_T120 a1 a2).f2.f0) && ((((rd_T120 a1 a2).f1.f1).toList) == (((rd_T120 a1 a2).f2.f1).toList) && (((rd_T120 a1 a2).f1.f2) == ((rd_T120 a1 a2).f2.f2)))) = true
         ·rw [if_pos ak] at H
          have bi : (((rd_T120 a1 a2).f1.f0) == ((rd_T120 a1 a2).f2.f0) && ((((rd_T120 a1 a2).f1.f1).toList) == (((rd_T120 a1 a2).f2.f1).toList) && (((rd_T120 a1 a2).f1.f2) == ((rd_T120 a1 a2).f2.f2)))) = true := ak; (try (have bj : decide (((rd_T120 a1 a2).f1.f0) = ((rd_T120 a1 a2).f2.f0) && ((((rd_T120 a1 a2).f1.f1).toList) == (((rd_T120 a1 a2).f2.f1).toList) && (((rd_T120 a1 a2).f1.f2) == ((rd_T120 a1 a2).f2.f2)))) = true := by simpa using ak)); (try (have bm : (((rd_T120 a1 a2).f1.f0) == ((rd_T120 a1 a2).f2.f0) && ((((rd_T120 a1 a2).f1.f1).toList) == (((rd_T120 a1 a2).f2.f1).toList) && (((rd_T120 a1 a2).f1.f2) == ((rd_T120 a1 a2).f2.f2)))) = true := by simpa using ak)); clear ak; obtain rfl := Option.some.inj H; have ⟨bq, bu⟩ := Yc1 a5.out; have a8 : 0 ≤ (a2 : Int) := oda; have a9 : a2 < (a1.length : Int) := oda; obtain ⟨a7, ag, aB, aC, aD, aE, aF, aG, aH⟩ := at_T120 (Kd.C_below al.out HB.out) a2 a8 a9
          cases ag
          replace a8 := eq_true a8; replace a9 := eq_true a9
          try go_wp2_with (first | ((with_reducible refine gd 4 rfl ?_); refine bx 4 120 (#[.string (⟨#[]⟩ : ByteArray), .bool false, .string (⟨#[]⟩ : ByteArray), .bool false, .bool false, .string (⟨#[]⟩ : ByteArray), .bool false]) ?_; intro a4 hg aQ hbox hb; refine Ya7 (bb a5 hb) (below_step (bf HB.out) hb) (hbox) (bs hg (bf HB.out)) (bs hg (bf HB.out)) (bl hg a5) (br hg a5) ?_; clear a5 HB; intro a5 HB a3 aI aJ ad ah; clear hb hbox hg; have hnb18 := ah.out; have hnc18 := ad.out; have ⟨bv, bw, bz, bA, bB, bC, bD, bE, bF, bG, bH, bI, bJ, bK⟩ := Yc7 a3.out))
          have aa : Aside0 ((((((((aQ.setCell ⟨a4, 0, none⟩ (.string ((rd_T120 a1 a2).f0))).setCell ⟨a4, 1, none⟩ (.bool ((rd_T120 a1 a2).f1.f0))).setCell ⟨a4, 2, none⟩ (.string ((rd_T120 a1 a2).f1.f1))).setCell ⟨a4, 3, none⟩ (.bool ((rd_T120 a1 a2).f1.f2))).setCell ⟨a4, 4, none⟩ (.bool ((rd_T120 a1 a2).f2.f0))).setCell ⟨a4, 5, none⟩ (.string ((rd_T120 a1 a2).f2.f1))).setCell ⟨a4, 6, none⟩ (.bool ((rd_T120 a1 a2).f2.f2))).heap[aj]? = some (.cells #[.slice (some a7) a1.length af] 52 (0, 0))) := ⟨bkf a5.out ad.out⟩
          have ab : Aside0 ((((((((aQ.setCell ⟨a4, 0, none⟩ (.string ((rd_T120 a1 a2).f0))).setCell ⟨a4, 1, none⟩ (.bool ((rd_T120 a1 a2).f1.f0))).setCell ⟨a4, 2, none⟩ (.string ((rd_T120 a1 a2).f1.f1))).setCell ⟨a4, 3, none⟩ (.bool ((rd_T120 a1 a2).f1.f2))).setCell ⟨a4, 4, none⟩ (.bool ((rd_T120 a1 a2).f2.f0))).setCell ⟨a4, 5, none⟩ (.string ((rd_T120 a1 a2).f2.f1))).setCell ⟨a4, 6, none⟩ (.bool ((rd_T120 a1 a2).f2.f2))).heap[a4]? = some (.cells #[.string ((rd_T120 a1 a2).f0), .bool ((rd_T120 a1 a2).f1.f0), .string ((rd_T120 a1 a2).f1.f1), .bool ((rd_T120 a1 a2).f1.f2), .bool ((rd_T120 a1 a2).f2.f0), .string ((rd_T120 a1 a2).f2.f1), .bool ((rd_T120 a1 a2).f2.f2)] 120 (0, 0))) := ⟨bp a3.out⟩
          have ac : Aside0 (Below w.heap.size w (((((((aQ.setCell ⟨a4, 0, none⟩ (.string ((rd_T120 a1 a2).f0))).setCell ⟨a4, 1, none⟩ (.bool ((rd_T120 a1 a2).f1.f0))).setCell ⟨a4, 2, none⟩ (.string ((rd_T120 a1 a2).f1.f1))).setCell ⟨a4, 3, none⟩ (.bool ((rd_T120 a1 a2).f1.f2))).setCell ⟨a4, 4, none⟩ (.bool ((rd_T120 a1 a2).f2.f0))).setCell ⟨a4, 5, none⟩ (.string ((rd_T120 a1 a2).f2.f1))).setCell ⟨a4, 6, none⟩ (.bool ((rd_T120 a1 a2).f2.f2)))) := ⟨bf HB.out⟩
          (try clear a5); (try clear a3); (try clear HB); generalize (((((((aQ.setCell ⟨a4, 0, none⟩ (.string ((rd_T120 a1 a2).f0))).setCell ⟨a4, 1, none⟩ (.bool ((rd_T120 a1 a2).f1.f0))).setCell ⟨a4, 2, none⟩ (.string ((rd_T120 a1 a2).f1.f1))).setCell ⟨a4, 3, none⟩ (.bool ((rd_T120 a1 a2).f1.f2))).setCell ⟨a4, 4, none⟩ (.bool ((rd_T120 a1 a2).f2.f0))).setCell ⟨a4, 5, none⟩ (.string ((rd_T120 a1 a2).f2.f1))).setCell ⟨a4, 6, none⟩ (.bool ((rd_T120 a1 a2).f2.f2))) = w20 at aa ab ac ⊢; have a5 := aa; have a3 := ab; have HB := ac; clear aa ab ac; refine Ya3 (blk_drew a5.out) (blk_drew a3.out) (below_drew1 HB.out) ?_; clear a5 a3 HB; intro a5 a3 HB; refine start_ (n := 39) (S := fun w' => w'.cell? ⟨a4, 0, none⟩ = some (.string ((rd_T120 a1 a2).f0)) ∧ w'.cell? ⟨a4, 1, none⟩ = some (.bool ((rd_T120 a1 a2).f1.f0)) ∧ w'.cell? ⟨a4, 2, none⟩ = some (.string ((rd_T120 a1 a2).f1.f1)) ∧ w'.cell? ⟨a4, 3, none⟩ = some (.bool ((rd_T120 a1 a2).f1.f2)) ∧ w'.cell? ⟨a4, 4, none⟩ = some (.bool ((rd_T120 a1 a2).f2.f0)) ∧ w'.cell? ⟨a4, 5, none⟩ = some (.string ((rd_T120 a1 a2).f2.f1)) ∧ w'.cell? ⟨a4, 6, none⟩ = some (.bool ((rd_T120 a1 a2).f2.f2))) (ds := []) (fb 39 0) (by kernel_rfl) rfl rfl ⟨bc a3 0, bc a3 1, bc a3 2, bc a3 3, bc a3 4, bc a3 5, bc a3 6⟩ (fun hHeld => ?_); refine with_tabW spec_ValidPatch.tab7 spec_ValidPatch.bits7 (fun HT_ HW_ => ?_); generalize w20.drew = w21 at a5 a3 HB hHeld ⊢; refine pu 0 21 (fb 39 1) HT_ ?_; refine tk 1 22 (fb 39 3) HT_ HW_ hHeld ?_; refine o1 2 (some 23) (fb 39 7) HT_ (fun K hK => ?_); refine gs _ (#[.string ((rd_T120 a1 a2).f0)]) Tryd.func23 ?_; (with_reducible refine (spec_ValidPath.calls k1 ((rd_T120 a1 a2).f0) true _ A9.out).mono ?_); rintro e w22 ⟨rfl, hb⟩; refine ⟨_, rfl, ?_⟩; refine Ya3 (bb a5 hb) (bb a3 hb) (below_step (bf HB.out) hb) ?_; clear a5 a3 HB; intro a5 a3 HB; (try clear hb); (try clear hb2); (try clear hk); (try clear hi); refine hK.out _ _ ⟨bc a3 0, bc a3 1, bc a3 2, bc a3 3, bc a3 4, bc a3 5, bc a3 6⟩ (fun hHeld => ?_); clear hK K; refine nm 23 ?_; refine pu 3 24 (fb 39 15) HT_ ?_; refine pu 4 25 (fb 39 31) HT_ ?_; refine pu 5 26 (fb 39 63) HT_ ?_; refine tk 6 27 (fb 39 127) HT_ HW_ hHeld ?_; refine o1 7 (some 28) (fb 39 255) HT_ (fun K hK => ?_); refine gs _ (#[.agg #[.bool ((rd_T120 a1 a2).f1.f0), .string ((rd_T120 a1 a2).f1.f1), .bool ((rd_T120 a1 a2).f1.f2)]]) Tryd.func152 ?_; (with_reducible refine (spec_l6FileOk.calls ((rd_T120 a1 a2).f1.f0) ((rd_T120 a1 a2).f1.f1) ((rd_T120 a1 a2).f1.f2) true _ aw.out).mono ?_); rintro e w23 ⟨rfl, hb⟩; refine ⟨_, rfl, ?_⟩; refine Ya3 (bb a5 hb) (bb a3 hb) (below_step (bf HB.out) hb) ?_; clear a5 a3 HB; intro a5 a3 HB; (try clear hb); (try clear hb2); (try clear hk); (try clear hi); refine hK.out _ _ ⟨bc a3 0, bc a3 1, bc a3 2, bc a3 3, bc a3 4, bc a3 5, bc a3 6⟩ (fun hHeld => ?_); clear hK K; refine nm 28 ?_; refine pu 8 29 (fb 39 511) HT_ ?_; refine pu 9 30 (fb 39 1023) HT_ ?_; refine pu 10 31 (fb 39 2047) HT_ ?_; refine pu 11 32 (fb 39 4095) HT_ ?_; refine tk 12 33 (fb 39 8191) HT_ HW_ hHeld ?_; refine o1 13 (some 34) (fb 39 16383) HT_ (fun K hK => ?_); refine gs _ (#[.agg #[.bool ((rd_T120 a1 a2).f2.f0), .string ((rd_T120 a1 a2).f2.f1), .bool ((rd_T120 a1 a2).f2.f2)]]) Tryd.func152 ?_; (with_reducible refine (spec_l6FileOk.calls ((rd_T120 a1 a2).f2.f0) ((rd_T120 a1 a2).f2.f1) ((rd_T120 a1 a2).f2.f2) true _ aA.out).mono ?_); rintro e w24 ⟨rfl, hb⟩; refine ⟨_, rfl, ?_⟩; refine Ya3 (bb a5 hb) (bb a3 hb) (below_step (bf HB.out) hb) ?_; clear a5 a3 HB; intro a5 a3 HB; (try clear hb); (try clear hb2); (try clear hk); (try clear hi); refine hK.out _ _ ⟨bc a3 0, bc a3 1, bc a3 2, bc a3 3, bc a3 4, bc a3 5, bc a3 6⟩ (fun hHeld => ?_); clear hK K; refine nm 34 ?_; refine pu 14 35 (fb 39 32767) HT_ ?_; refine pu 15 36 (fb 39 65535) HT_ ?_; refine pu 16 37 (fb 39 131071) HT_ ?_; refine pu 17 38 (fb 39 262143) HT_ ?_; refine pu 19 40 (fb 39 786431) HT_ ?_; refine tk 18 39 (fb 39 1048575) HT_ HW_ hHeld ?_; refine tk 20 41 (fb 39 2097151) HT_ HW_ hHeld ?_; refine pu 21 42 (fb 39 4194303) HT_ ?_; refine pu 22 43 (fb 39 8388607) HT_ ?_; refine pu 23 44 (fb 39 16777215) HT_ ?_; refine pn 24 45 (fb 39 33554431) HT_ ?_; refine pn 25 46 (fb 39 67108863) HT_ ?_; refine pn 26 47 (fb 39 134217727) HT_ ?_; refine pn 27 48 (fb 39 268435455) HT_ ?_; refine pn 28 49 (fb 39 536870911) HT_ ?_; refine pn 29 50 (fb 39 1073741823) HT_ ?_; refine pn 30 51 (fb 39 2147483647) HT_ ?_; refine pn 31 52 (fb 39 4294967295) HT_ ?_; refine pn 32 53 (fb 39 8589934591) HT_ ?_; refine pn 33 54 (fb 39 17179869183) HT_ ?_; refine pn 34 55 (fb 39 34359738367) HT_ ?_; refine pn 35 56 (fb 39 68719476735) HT_ ?_; refine pn 36 57 (fb 39 137438953471) HT_ ?_; refine pn 37 58 (fb 39 274877906943) HT_ ?_; refine pu 38 59 (fb 39 549755813887) HT_ ?_; refine done_ (done_of HT_.out (by kernel_rfl)) ?_
          try go_wp2
          go_ret
          exact ⟨Ye2, (bf HB.out)⟩
         ·rw [if_neg ak] at H
          have bi : (((rd_T120 a1 a2).f1.f0) == ((rd_T120 a1 a2).f2.f0) && ((((rd_T120 a1 a2).f1.f1).toList) == (((rd_T120 a1 a2).f2.f1).toList) && (((rd_T120 a1 a2).f1.f2) == ((rd_T120 a1 a2).f2.f2)))) = false := by simpa using ak
          (try (have bj : decide (((rd_T120 a1 a2).f1.f0) = ((rd_T120 a1 a2).f2.f0) && ((((rd_T120 a1 a2).f1.f1).toList) == (((rd_T120 a1 a2).f2.f1).toList) && (((rd_T120 a1 a2).f1.f2) == ((rd_T120 a1 a2).f2.f2)))) = false := by simpa using ak)); (try (have bm : (((rd_T120 a1 a2).f1.f0) == ((rd_T120 a1 a2).f2.f0) && ((((rd_T120 a1 a2).f1.f1).toList) == (((rd_T120 a1 a2).f2.f1).toList) && (((rd_T120 a1 a2).f1.f2) == ((rd_T120 a1 a2).f2.f2)))) = false := by simpa using ak)); (try (have c15b3 : ¬ (((rd_T120 a1 a2).f1.f0) = ((rd_T120 a1 a2).f2.f0) && ((((rd_T120 a1 a2).f1.f1).toList) == (((rd_T120 a1 a2).f2.f1).toList) && (((rd_T120 a1 a2).f1.f2) == ((rd_T120 a1 a2).f2.f2)))) := by simpa using ak)); clear ak
          by_cases aK : a2 > 0
          ·rw [if_pos aK] at H
           have bn : decide (0 < a2) = true := decide_eq_true aK; clear aK
           obtain ⟨a6, ax⟩ : ∃ j_ : Int, (wrap64 (a2 - 1)) = j_ := ⟨_, rfl⟩
           replace H : (if 0 ≤ (a6) then (if (a6) < (a1.length : Int) then (if ((Op.bytesLess (((rd_T120 a1 (a6)).f0).toList) (((rd_T120 a1 a2).f0).toList)) = true) then (spec_ValidPatch.l0 k1 (wrap64 (a2 + 1)) a1) else (some false)) else (none)) else (none)) = some r := by first | (rw [ax] at H; exact H) | (simp only [ax] at H ⊢; exact H)
           (try rw [ax] at A9); (try rw [ax] at aw); (try rw [ax] at aA); have hji26w : (IntKind.i64.wrap (a2 - 1)) = a6 := (i64_w _).trans ax
           by_cases aR : 0 ≤ (a6)
           ·rw [if_pos aR] at H
            have c27b0 : decide (0 ≤ (a6)) = true := decide_eq_true aR; clear aR
            by_cases aS : (a6) < (a1.length : Int)
            ·rw [if_pos aS] at H
             have c28b0 : decide ((a6) < (a1.length : Int)) = true := decide_eq_true aS; clear aS
             by_cases aL : ((Op.bytesLess (((rd_T120 a1 (a6)).f0).toList) (((rd_T120 a1 a2).f0).toList)) = true)
             ·rw [if_pos aL] at H
              have bo : (Op.bytesLess (((rd_T120 a1 (a6)).f0).toList) (((rd_T120 a1 a2).f0).toList)) = true := aL; clear aL; have H' := Aside0.mk H; clear H; have ⟨bL, bM⟩ := Yc1 a5.out; have a8 : 0 ≤ (a2 : Int) := oda; have a9 : a2 < (a1.length : Int) := oda; obtain ⟨a7, ag, aB, aC, aD, aE, aF, aG, aH⟩ := at_T120 (Kd.C_below al.out HB.out) a2 a8 a9
              cases ag
              replace a8 := eq_true a8; replace a9 := eq_true a9
              try go_wp2_with (first | ((with_reducible refine gd 4 rfl ?_); refine bx 4 120 (#[.string (⟨#[]⟩ : ByteArray), .bool false, .string (⟨#[]⟩ : ByteArray), .bool false, .bool false, .string (⟨#[]⟩ : ByteArray), .bool false]) ?_; intro a4 hg aT hbox hb; refine Ya7 (bb a5 hb) (below_step (bf HB.out) hb) (hbox) (bs hg (bf HB.out)) (bs hg (bf HB.out)) (bl hg a5) (br hg a5) ?_; clear a5 HB; intro a5 HB a3 aI aJ ad ah; clear hb hbox hg; have hnb32 := ah.out; have hnc32 := ad.out; have ⟨bN, bO, bP, bQ, bR, bS, bT, bU, bV, bW, bX, bY, bZ, c0⟩ := Yc7 a3.out))
              have aa : Aside0 ((((((((aT.setCell ⟨a4, 0, none⟩ (.string ((rd_T120 a1 a2).f0))).setCell ⟨a4, 1, none⟩ (.bool ((rd_T120 a1 a2).f1.f0))).setCell ⟨a4, 2, none⟩ (.string ((rd_T120 a1 a2).f1.f1))).setCell ⟨a4, 3, none⟩ (.bool ((rd_T120 a1 a2).f1.f2))).setCell ⟨a4, 4, none⟩ (.bool ((rd_T120 a1 a2).f2.f0))).setCell ⟨a4, 5, none⟩ (.string ((rd_T120 a1 a2).f2.f1))).setCell ⟨a4, 6, none⟩ (.bool ((rd_T120 a1 a2).f2.f2))).heap[aj]? = some (.cells #[.slice (some a7) a1.length af] 52 (0, 0))) := ⟨bkf a5.out ad.out⟩
              have ab : Aside0 ((((((((aT.setCell ⟨a4, 0, none⟩ (.string ((rd_T120 a1 a2).f0))).setCell ⟨a4, 1, none⟩ (.bool ((rd_T120 a1 a2).f1.f0))).setCell ⟨a4, 2, none⟩ (.string ((rd_T120 a1 a2).f1.f1))).setCell ⟨a4, 3, none⟩ (.bool ((rd_T120 a1 a2).f1.f2))).setCell ⟨a4, 4, none⟩ (.bool ((rd_T120 a1 a2).f2.f0))).setCell ⟨a4, 5, none⟩ (.string ((rd_T120 a1 a2).f2.f1))).setCell ⟨a4, 6, none⟩ (.bool ((rd_T120 a1 a2).f2.f2))).heap[a4]? = some (.cells #[.string ((rd_T120 a1 a2).f0), .bool ((rd_T120 a1 a2).f1.f0), .string ((rd_T120 a1 a2).f1.f1), .bool ((rd_T120 a1 a2).f1.f2), .bool ((rd_T120 a1 a2).f2.f0), .string ((rd_T120 a1 a2).f2.f1), .bool ((rd_T120 a1 a2).f2.f2)] 120 (0, 0))) := ⟨bp a3.out⟩
              have ac : Aside0 (Below w.heap.size w (((((((aT.setCell ⟨a4, 0, none⟩ (.string ((rd_T120 a1 a2).f0))).setCell ⟨a4, 1, none⟩ (.bool ((rd_T120 a1 a2).f1.f0))).setCell ⟨a4, 2, none⟩ (.string ((rd_T120 a1 a2).f1.f1))).setCell ⟨a4, 3, none⟩ (.bool ((rd_T120 a1 a2).f1.f2))).setCell ⟨a4, 4, none⟩ (.bool ((rd_T120 a1 a2).f2.f0))).setCell ⟨a4, 5, none⟩ (.string ((rd_T120 a1 a2).f2.f1))).setCell ⟨a4, 6, none⟩ (.bool ((rd_T120 a1 a2).f2.f2)))) := ⟨bf HB.out⟩
              (try clear a5); (try clear a3); (try clear HB); generalize (((((((aT.setCell ⟨a4, 0, none⟩ (.string ((rd_T120 a1 a2).f0))).setCell ⟨a4, 1, none⟩ (.bool ((rd_T120 a1 a2).f1.f0))).setCell ⟨a4, 2, none⟩ (.string ((rd_T120 a1 a2).f1.f1))).setCell ⟨a4, 3, none⟩ (.bool ((rd_T120 a1 a2).f1.f2))).setCell ⟨a4, 4, none⟩ (.bool ((rd_T120 a1 a2).f2.f0))).setCell ⟨a4, 5, none⟩ (.string ((rd_T120 a1 a2).f2.f1))).setCell ⟨a4, 6, none⟩ (.bool ((rd_T120 a1 a2).f2.f2))) = w34 at aa ab ac ⊢; have a5 := aa; have a3 := ab; have HB := ac; clear aa ab ac; refine Ya3 (blk_drew a5.out) (blk_drew a3.out) (below_drew1 HB.out) ?_; clear a5 a3 HB; intro a5 a3 HB; have ay : 0 ≤ ((a6) : Int) := oda; have az : (a6) < (a1.length : Int) := oda; obtain ⟨aZ, b0, am, an, ao, ap, aq, ar, au⟩ := at_T120 al.out (a6) ay az; have hw662_6 := au; have hw662_5 := ar; have hw662_4 := aq; have hw662_3 := ap; have hw662_2 := ao; have hw662_1 := an; have hw662_0 := am
              obtain rfl : a7 = aZ := (by injection b0)
              replace am := pw_cell_below HB.out am; replace an := pw_cell_below HB.out an; replace ao := pw_cell_below HB.out ao; replace ap := pw_cell_below HB.out ap; replace aq := pw_cell_below HB.out aq; replace ar := pw_cell_below HB.out ar; replace au := pw_cell_below HB.out au; replace ay := eq_true ay; replace az := eq_true az; refine start_ (n := 39) (S := fun w' => w'.cell? ⟨a4, 0, none⟩ = some (.string ((rd_T120 a1 a2).f0)) ∧ w'.cell? ⟨a4, 1, none⟩ = some (.bool ((rd_T120 a1 a2).f1.f0)) ∧ w'.cell? ⟨a4, 2, none⟩ = some (.string ((rd_T120 a1 a2).f1.f1)) ∧ w'.cell? ⟨a4, 3, none⟩ = some (.bool ((rd_T120 a1 a2).f1.f2)) ∧ w'.cell? ⟨a4, 4, none⟩ = some (.bool ((rd_T120 a1 a2).f2.f0)) ∧ w'.cell? ⟨a4, 5, none⟩ = some (.string ((rd_T120 a1 a2).f2.f1)) ∧ w'.cell? ⟨a4, 6, none⟩ = some (.bool ((rd_T120 a1 a2).f2.f2)) ∧ w'.cell? ⟨aj, 0, none⟩ = some (.slice (some a7) a1.length af) ∧ w'.cell? (a7.add (((a6)).toNat * 7)) = some (.string ((rd_T120 a1 (a6)).f0)) ∧ w'.cell? ⟨(a7.add (((a6)).toNat * 7)).block, (a7.add (((a6)).toNat * 7)).off + 1, none⟩ = some (.bool ((rd_T120 a1 (a6)).f1.f0)) ∧ w'.cell? ⟨(a7.add (((a6)).toNat * 7)).block, (a7.add (((a6)).toNat * 7)).off + 2, none⟩ = some (.string ((rd_T120 a1 (a6)).f1.f1)) ∧ w'.cell? ⟨(a7.add (((a6)).toNat * 7)).block, (a7.add (((a6)).toNat * 7)).off + 3, none⟩ = some (.bool ((rd_T120 a1 (a6)).f1.f2)) ∧ w'.cell? ⟨(a7.add (((a6)).toNat * 7)).block, (a7.add (((a6)).toNat * 7)).off + 4, none⟩ = some (.bool ((rd_T120 a1 (a6)).f2.f0)) ∧ w'.cell? ⟨(a7.add (((a6)).toNat * 7)).block, (a7.add (((a6)).toNat * 7)).off + 5, none⟩ = some (.string ((rd_T120 a1 (a6)).f2.f1)) ∧ w'.cell? ⟨(a7.add (((a6)).toNat * 7)).block, (a7.add (((a6)).toNat * 7)).off + 6, none⟩ = some (.bool ((rd_T120 a1 (a6)).f2.f2))) (ds := []) (fb 39 0) (by kernel_rfl) rfl rfl ⟨bc a3 0, bc a3 1, bc a3 2, bc a3 3, bc a3 4, bc a3 5, bc a3 6, bc a5 0, (pw_cell_below HB.out hw662_0), (pw_cell_below HB.out hw662_1), (pw_cell_below HB.out hw662_2), (pw_cell_below HB.out hw662_3), (pw_cell_below HB.out hw662_4), (pw_cell_below HB.out hw662_5), (pw_cell_below HB.out hw662_6)⟩ (fun hHeld => ?_); refine with_tabW spec_ValidPatch.tab7 spec_ValidPatch.bits7 (fun HT_ HW_ => ?_); generalize w34.drew = w35 at a5 a3 HB am an ao ap aq ar au hHeld ⊢; refine pu 0 21 (fb 39 1) HT_ ?_; refine tk 1 22 (fb 39 3) HT_ HW_ hHeld ?_; refine o1 2 (some 23) (fb 39 7) HT_ (fun K hK => ?_); refine gs _ (#[.string ((rd_T120 a1 a2).f0)]) Tryd.func23 ?_; (with_reducible refine (spec_ValidPath.calls k1 ((rd_T120 a1 a2).f0) true _ A9.out).mono ?_); rintro e w36 ⟨rfl, hb⟩; refine ⟨_, rfl, ?_⟩; refine Ya3 (bb a5 hb) (bb a3 hb) (below_step (bf HB.out) hb) ?_; clear a5 a3 HB; intro a5 a3 HB; (try clear hb); (try clear hb2); (try clear hk); (try clear hi); refine hK.out _ _ ⟨bc a3 0, bc a3 1, bc a3 2, bc a3 3, bc a3 4, bc a3 5, bc a3 6, bc a5 0, (pw_cell_below HB.out hw662_0), (pw_cell_below HB.out hw662_1), (pw_cell_below HB.out hw662_2), (pw_cell_below HB.out hw662_3), (pw_cell_below HB.out hw662_4), (pw_cell_below HB.out hw662_5), (pw_cell_below HB.out hw662_6)⟩ (fun hHeld => ?_); clear hK K; refine nm 23 ?_; refine pu 3 24 (fb 39 15) HT_ ?_; refine pu 4 25 (fb 39 31) HT_ ?_; refine pu 5 26 (fb 39 63) HT_ ?_; refine tk 6 27 (fb 39 127) HT_ HW_ hHeld ?_; refine o1 7 (some 28) (fb 39 255) HT_ (fun K hK => ?_); refine gs _ (#[.agg #[.bool ((rd_T120 a1 a2).f1.f0), .string ((rd_T120 a1 a2).f1.f1), .bool ((rd_T120 a1 a2).f1.f2)]]) Tryd.func152 ?_; (with_reducible refine (spec_l6FileOk.calls ((rd_T120 a1 a2).f1.f0) ((rd_T120 a1 a2).f1.f1) ((rd_T120 a1 a2).f1.f2) true _ aw.out).mono ?_); rintro e w37 ⟨rfl, hb⟩; refine ⟨_, rfl, ?_⟩; refine Ya3 (bb a5 hb) (bb a3 hb) (below_step (bf HB.out) hb) ?_; clear a5 a3 HB; intro a5 a3 HB; (try clear hb); (try clear hb2); (try clear hk); (try clear hi); refine hK.out _ _ ⟨bc a3 0, bc a3 1, bc a3 2, bc a3 3, bc a3 4, bc a3 5, bc a3 6, bc a5 0, (pw_cell_below HB.out hw662_0), (pw_cell_below HB.out hw662_1), (pw_cell_below HB.out hw662_2), (pw_cell_below HB.out hw662_3), (pw_cell_below HB.out hw662_4), (pw_cell_below HB.out hw662_5), (pw_cell_below HB.out hw662_6)⟩ (fun hHeld => ?_); clear hK K; refine nm 28 ?_; refine pu 8 29 (fb 39 511) HT_ ?_; refine pu 9 30 (fb 39 1023) HT_ ?_; refine pu 10 31 (fb 39 2047) HT_ ?_; refine pu 11 32 (fb 39 4095) HT_ ?_; refine tk 12 33 (fb 39 8191) HT_ HW_ hHeld ?_; refine o1 13 (some 34) (fb 39 16383) HT_ (fun K hK => ?_); refine gs _ (#[.agg #[.bool ((rd_T120 a1 a2).f2.f0), .string ((rd_T120 a1 a2).f2.f1), .bool ((rd_T120 a1 a2).f2.f2)]]) Tryd.func152 ?_; (with_reducible refine (spec_l6FileOk.calls ((rd_T120 a1 a2).f2.f0) ((rd_T120 a1 a2).f2.f1) ((rd_T120 a1 a2).f2.f2) true _ aA.out).mono ?_); rintro e w38 ⟨rfl, hb⟩; refine ⟨_, rfl, ?_⟩; refine Ya3 (bb a5 hb) (bb a3 hb) (below_step (bf HB.out) hb) ?_; clear a5 a3 HB; intro a5 a3 HB; (try clear hb); (try clear hb2); (try clear hk); (try clear hi); refine hK.out _ _ ⟨bc a3 0, bc a3 1, bc a3 2, bc a3 3, bc a3 4, bc a3 5, bc a3 6, bc a5 0, (pw_cell_below HB.out hw662_0), (pw_cell_below HB.out hw662_1), (pw_cell_below HB.out hw662_2), (pw_cell_below HB.out hw662_3), (pw_cell_below HB.out hw662_4), (pw_cell_below HB.out hw662_5), (pw_cell_below HB.out hw662_6)⟩ (fun hHeld => ?_); clear hK K; refine nm 34 ?_; refine pu 14 35 (fb 39 32767) HT_ ?_; refine pu 15 36 (fb 39 65535) HT_ ?_; refine pu 16 37 (fb 39 131071) HT_ ?_; refine pu 17 38 (fb 39 262143) HT_ ?_; refine pu 19 40 (fb 39 786431) HT_ ?_; refine tk 18 39 (fb 39 1048575) HT_ HW_ hHeld ?_
              refine tk 20 41 (fb 39 2097151) HT_ HW_ hHeld ?_; refine pu 21 42 (fb 39 4194303) HT_ ?_; refine pu 22 43 (fb 39 8388607) HT_ ?_; refine pu 23 44 (fb 39 16777215) HT_ ?_; refine pu 24 45 (fb 39 33554431) HT_ ?_; refine pu 25 46 (fb 39 67108863) HT_ ?_; refine pu 26 47 (fb 39 134217727) HT_ ?_; refine pu 27 48 (fb 39 268435455) HT_ ?_; refine pu 29 50 (fb 39 805306367) HT_ ?_; refine pu 30 51 (fb 39 1879048191) HT_ ?_; refine pu 34 55 (fb 39 19058917375) HT_ ?_; refine tk 28 49 (fb 39 19327352831) HT_ HW_ hHeld ?_; refine pu 31 52 (fb 39 21474836479) HT_ ?_; refine pu 32 53 (fb 39 25769803775) HT_ ?_; refine tk 33 54 (fb 39 34359738367) HT_ HW_ hHeld ?_; refine tk 35 56 (fb 39 68719476735) HT_ HW_ hHeld ?_; refine pu 36 57 (fb 39 137438953471) HT_ ?_; refine pu 37 58 (fb 39 274877906943) HT_ ?_; refine pu 38 59 (fb 39 549755813887) HT_ ?_; refine done_ (done_of HT_.out (by kernel_rfl)) ?_
              try go_wp2
              go_roundg k1
              case measure => have := HK1.out; omega
              case rel => exact ⟨(wrap64 (a2 + 1)), Ye1, H', ⟨by have := HK1.out; omega⟩, ⟨bk a5.out⟩, ⟨bf HB.out⟩⟩
             ·rw [if_neg aL] at H
              have bo : (Op.bytesLess (((rd_T120 a1 (a6)).f0).toList) (((rd_T120 a1 a2).f0).toList)) = false := by simpa using aL
              clear aL; obtain rfl := Option.some.inj H; have ⟨c1, ca⟩ := Yc1 a5.out; have a8 : 0 ≤ (a2 : Int) := oda; have a9 : a2 < (a1.length : Int) := oda; obtain ⟨a7, ag, aB, aC, aD, aE, aF, aG, aH⟩ := at_T120 (Kd.C_below al.out HB.out) a2 a8 a9
              cases ag
              replace a8 := eq_true a8; replace a9 := eq_true a9
              try go_wp2_with (first | ((with_reducible refine gd 4 rfl ?_); refine bx 4 120 (#[.string (⟨#[]⟩ : ByteArray), .bool false, .string (⟨#[]⟩ : ByteArray), .bool false, .bool false, .string (⟨#[]⟩ : ByteArray), .bool false]) ?_; intro a4 hg aU hbox hb; refine Ya7 (bb a5 hb) (below_step (bf HB.out) hb) (hbox) (bs hg (bf HB.out)) (bs hg (bf HB.out)) (bl hg a5) (br hg a5) ?_; clear a5 HB; intro a5 HB a3 aI aJ ad ah; clear hb hbox hg; have hnb41 := ah.out; have hnc41 := ad.out; have ⟨cc, cd, ce, cf, cg, ch, ci, cj, ck, cl, cm, cn, co, cp⟩ := Yc7 a3.out))
              have aa : Aside0 ((((((((aU.setCell ⟨a4, 0, none⟩ (.string ((rd_T120 a1 a2).f0))).setCell ⟨a4, 1, none⟩ (.bool ((rd_T120 a1 a2).f1.f0))).setCell ⟨a4, 2, none⟩ (.string ((rd_T120 a1 a2).f1.f1))).setCell ⟨a4, 3, none⟩ (.bool ((rd_T120 a1 a2).f1.f2))).setCell ⟨a4, 4, none⟩ (.bool ((rd_T120 a1 a2).f2.f0))).setCell ⟨a4, 5, none⟩ (.string ((rd_T120 a1 a2).f2.f1))).setCell ⟨a4, 6, none⟩ (.bool ((rd_T120 a1 a2).f2.f2))).heap[aj]? = some (.cells #[.slice (some a7) a1.length af] 52 (0, 0))) := ⟨bkf a5.out ad.out⟩
              have ab : Aside0 ((((((((aU.setCell ⟨a4, 0, none⟩ (.string ((rd_T120 a1 a2).f0))).setCell ⟨a4, 1, none⟩ (.bool ((rd_T120 a1 a2).f1.f0))).setCell ⟨a4, 2, none⟩ (.string ((rd_T120 a1 a2).f1.f1))).setCell ⟨a4, 3, none⟩ (.bool ((rd_T120 a1 a2).f1.f2))).setCell ⟨a4, 4, none⟩ (.bool ((rd_T120 a1 a2).f2.f0))).setCell ⟨a4, 5, none⟩ (.string ((rd_T120 a1 a2).f2.f1))).setCell ⟨a4, 6, none⟩ (.bool ((rd_T120 a1 a2).f2.f2))).heap[a4]? = some (.cells #[.string ((rd_T120 a1 a2).f0), .bool ((rd_T120 a1 a2).f1.f0), .string ((rd_T120 a1 a2).f1.f1), .bool ((rd_T120 a1 a2).f1.f2), .bool ((rd_T120 a1 a2).f2.f0), .string ((rd_T120 a1 a2).f2.f1), .bool ((rd_T120 a1 a2).f2.f2)] 120 (0, 0))) := ⟨bp a3.out⟩
              have ac : Aside0 (Below w.heap.size w (((((((aU.setCell ⟨a4, 0, none⟩ (.string ((rd_T120 a1 a2).f0))).setCell ⟨a4, 1, none⟩ (.bool ((rd_T120 a1 a2).f1.f0))).setCell ⟨a4, 2, none⟩ (.string ((rd_T120 a1 a2).f1.f1))).setCell ⟨a4, 3, none⟩ (.bool ((rd_T120 a1 a2).f1.f2))).setCell ⟨a4, 4, none⟩ (.bool ((rd_T120 a1 a2).f2.f0))).setCell ⟨a4, 5, none⟩ (.string ((rd_T120 a1 a2).f2.f1))).setCell ⟨a4, 6, none⟩ (.bool ((rd_T120 a1 a2).f2.f2)))) := ⟨bf HB.out⟩
              (try clear a5); (try clear a3); (try clear HB); generalize (((((((aU.setCell ⟨a4, 0, none⟩ (.string ((rd_T120 a1 a2).f0))).setCell ⟨a4, 1, none⟩ (.bool ((rd_T120 a1 a2).f1.f0))).setCell ⟨a4, 2, none⟩ (.string ((rd_T120 a1 a2).f1.f1))).setCell ⟨a4, 3, none⟩ (.bool ((rd_T120 a1 a2).f1.f2))).setCell ⟨a4, 4, none⟩ (.bool ((rd_T120 a1 a2).f2.f0))).setCell ⟨a4, 5, none⟩ (.string ((rd_T120 a1 a2).f2.f1))).setCell ⟨a4, 6, none⟩ (.bool ((rd_T120 a1 a2).f2.f2))) = w43 at aa ab ac ⊢; have a5 := aa; have a3 := ab; have HB := ac; clear aa ab ac; refine Ya3 (blk_drew a5.out) (blk_drew a3.out) (below_drew1 HB.out) ?_; clear a5 a3 HB; intro a5 a3 HB; have ay : 0 ≤ ((a6) : Int) := oda; have az : (a6) < (a1.length : Int) := oda; obtain ⟨aZ, b0, am, an, ao, ap, aq, ar, au⟩ := at_T120 al.out (a6) ay az; have hw662_6 := au; have hw662_5 := ar; have hw662_4 := aq; have hw662_3 := ap; have hw662_2 := ao; have hw662_1 := an; have hw662_0 := am
              obtain rfl : a7 = aZ := (by injection b0)
              replace am := pw_cell_below HB.out am; replace an := pw_cell_below HB.out an; replace ao := pw_cell_below HB.out ao; replace ap := pw_cell_below HB.out ap; replace aq := pw_cell_below HB.out aq; replace ar := pw_cell_below HB.out ar; replace au := pw_cell_below HB.out au; replace ay := eq_true ay; replace az := eq_true az; refine start_ (n := 39) (S := fun w' => w'.cell? ⟨a4, 0, none⟩ = some (.string ((rd_T120 a1 a2).f0)) ∧ w'.cell? ⟨a4, 1, none⟩ = some (.bool ((rd_T120 a1 a2).f1.f0)) ∧ w'.cell? ⟨a4, 2, none⟩ = some (.string ((rd_T120 a1 a2).f1.f1)) ∧ w'.cell? ⟨a4, 3, none⟩ = some (.bool ((rd_T120 a1 a2).f1.f2)) ∧ w'.cell? ⟨a4, 4, none⟩ = some (.bool ((rd_T120 a1 a2).f2.f0)) ∧ w'.cell? ⟨a4, 5, none⟩ = some (.string ((rd_T120 a1 a2).f2.f1)) ∧ w'.cell? ⟨a4, 6, none⟩ = some (.bool ((rd_T120 a1 a2).f2.f2)) ∧ w'.cell? ⟨aj, 0, none⟩ = some (.slice (some a7) a1.length af) ∧ w'.cell? (a7.add (((a6)).toNat * 7)) = some (.string ((rd_T120 a1 (a6)).f0)) ∧ w'.cell? ⟨(a7.add (((a6)).toNat * 7)).block, (a7.add (((a6)).toNat * 7)).off + 1, none⟩ = some (.bool ((rd_T120 a1 (a6)).f1.f0)) ∧ w'.cell? ⟨(a7.add (((a6)).toNat * 7)).block, (a7.add (((a6)).toNat * 7)).off + 2, none⟩ = some (.string ((rd_T120 a1 (a6)).f1.f1)) ∧ w'.cell? ⟨(a7.add (((a6)).toNat * 7)).block, (a7.add (((a6)).toNat * 7)).off + 3, none⟩ = some (.bool ((rd_T120 a1 (a6)).f1.f2)) ∧ w'.cell? ⟨(a7.add (((a6)).toNat * 7)).block, (a7.add (((a6)).toNat * 7)).off + 4, none⟩ = some (.bool ((rd_T120 a1 (a6)).f2.f0)) ∧ w'.cell? ⟨(a7.add (((a6)).toNat * 7)).block, (a7.add (((a6)).toNat * 7)).off + 5, none⟩ = some (.string ((rd_T120 a1 (a6)).f2.f1)) ∧ w'.cell? ⟨(a7.add (((a6)).toNat * 7)).block, (a7.add (((a6)).toNat * 7)).off + 6, none⟩ = some (.bool ((rd_T120 a1 (a6)).f2.f2))) (ds := []) (fb 39 0) (by kernel_rfl) rfl rfl ⟨bc a3 0, bc a3 1, bc a3 2, bc a3 3, bc a3 4, bc a3 5, bc a3 6, bc a5 0, (pw_cell_below HB.out hw662_0), (pw_cell_below HB.out hw662_1), (pw_cell_below HB.out hw662_2), (pw_cell_below HB.out hw662_3), (pw_cell_below HB.out hw662_4), (pw_cell_below HB.out hw662_5), (pw_cell_below HB.out hw662_6)⟩ (fun hHeld => ?_); refine with_tabW spec_ValidPatch.tab7 spec_ValidPatch.bits7 (fun HT_ HW_ => ?_); generalize w43.drew = w44 at a5 a3 HB am an ao ap aq ar au hHeld ⊢; refine pu 0 21 (fb 39 1) HT_ ?_; refine tk 1 22 (fb 39 3) HT_ HW_ hHeld ?_; refine o1 2 (some 23) (fb 39 7) HT_ (fun K hK => ?_); refine gs _ (#[.string ((rd_T120 a1 a2).f0)]) Tryd.func23 ?_; (with_reducible refine (spec_ValidPath.calls k1 ((rd_T120 a1 a2).f0) true _ A9.out).mono ?_); rintro e w45 ⟨rfl, hb⟩; refine ⟨_, rfl, ?_⟩; refine Ya3 (bb a5 hb) (bb a3 hb) (below_step (bf HB.out) hb) ?_; clear a5 a3 HB; intro a5 a3 HB; (try clear hb); (try clear hb2); (try clear hk); (try clear hi); refine hK.out _ _ ⟨bc a3 0, bc a3 1, bc a3 2, bc a3 3, bc a3 4, bc a3 5, bc a3 6, bc a5 0, (pw_cell_below HB.out hw662_0), (pw_cell_below HB.out hw662_1), (pw_cell_below HB.out hw662_2), (pw_cell_below HB.out hw662_3), (pw_cell_below HB.out hw662_4), (pw_cell_below HB.out hw662_5), (pw_cell_below HB.out hw662_6)⟩ (fun hHeld => ?_); clear hK K; refine nm 23 ?_; refine pu 3 24 (fb 39 15) HT_ ?_; refine pu 4 25 (fb 39 31) HT_ ?_; refine pu 5 26 (fb 39 63) HT_ ?_; refine tk 6 27 (fb 39 127) HT_ HW_ hHeld ?_; refine o1 7 (some 28) (fb 39 255) HT_ (fun K hK => ?_); refine gs _ (#[.agg #[.bool ((rd_T120 a1 a2).f1.f0), .string ((rd_T120 a1 a2).f1.f1), .bool ((rd_T120 a1 a2).f1.f2)]]) Tryd.func152 ?_; (with_reducible refine (spec_l6FileOk.calls ((rd_T120 a1 a2).f1.f0) ((rd_T120 a1 a2).f1.f1) ((rd_T120 a1 a2).f1.f2) true _ aw.out).mono ?_); rintro e w46 ⟨rfl, hb⟩; refine ⟨_, rfl, ?_⟩; refine Ya3 (bb a5 hb) (bb a3 hb) (below_step (bf HB.out) hb) ?_; clear a5 a3 HB; intro a5 a3 HB; (try clear hb); (try clear hb2); (try clear hk); (try clear hi); refine hK.out _ _ ⟨bc a3 0, bc a3 1, bc a3 2, bc a3 3, bc a3 4, bc a3 5, bc a3 6, bc a5 0, (pw_cell_below HB.out hw662_0), (pw_cell_below HB.out hw662_1), (pw_cell_below HB.out hw662_2), (pw_cell_below HB.out hw662_3), (pw_cell_below HB.out hw662_4), (pw_cell_below HB.out hw662_5), (pw_cell_below HB.out hw662_6)⟩ (fun hHeld => ?_); clear hK K; refine nm 28 ?_; refine pu 8 29 (fb 39 511) HT_ ?_; refine pu 9 30 (fb 39 1023) HT_ ?_; refine pu 10 31 (fb 39 2047) HT_ ?_; refine pu 11 32 (fb 39 4095) HT_ ?_; refine tk 12 33 (fb 39 8191) HT_ HW_ hHeld ?_; refine o1 13 (some 34) (fb 39 16383) HT_ (fun K hK => ?_); refine gs _ (#[.agg #[.bool ((rd_T120 a1 a2).f2.f0), .string ((rd_T120 a1 a2).f2.f1), .bool ((rd_T120 a1 a2).f2.f2)]]) Tryd.func152 ?_; (with_reducible refine (spec_l6FileOk.calls ((rd_T120 a1 a2).f2.f0) ((rd_T120 a1 a2).f2.f1) ((rd_T120 a1 a2).f2.f2) true _ aA.out).mono ?_); rintro e w47 ⟨rfl, hb⟩; refine ⟨_, rfl, ?_⟩; refine Ya3 (bb a5 hb) (bb a3 hb) (below_step (bf HB.out) hb) ?_; clear a5 a3 HB; intro a5 a3 HB; (try clear hb); (try clear hb2); (try clear hk); (try clear hi); refine hK.out _ _ ⟨bc a3 0, bc a3 1, bc a3 2, bc a3 3, bc a3 4, bc a3 5, bc a3 6, bc a5 0, (pw_cell_below HB.out hw662_0), (pw_cell_below HB.out hw662_1), (pw_cell_below HB.out hw662_2), (pw_cell_below HB.out hw662_3), (pw_cell_below HB.out hw662_4), (pw_cell_below HB.out hw662_5), (pw_cell_below HB.out hw662_6)⟩ (fun hHeld => ?_); clear hK K; refine nm 34 ?_; refine pu 14 35 (fb 39 32767) HT_ ?_; refine pu 15 36 (fb 39 65535) HT_ ?_; refine pu 16 37 (fb 39 131071) HT_ ?_; refine pu 17 38 (fb 39 262143) HT_ ?_; refine pu 19 40 (fb 39 786431) HT_ ?_; refine tk 18 39 (fb 39 1048575) HT_ HW_ hHeld ?_
              refine tk 20 41 (fb 39 2097151) HT_ HW_ hHeld ?_; refine pu 21 42 (fb 39 4194303) HT_ ?_; refine pu 22 43 (fb 39 8388607) HT_ ?_; refine pu 23 44 (fb 39 16777215) HT_ ?_; refine pu 24 45 (fb 39 33554431) HT_ ?_; refine pu 25 46 (fb 39 67108863) HT_ ?_; refine pu 26 47 (fb 39 134217727) HT_ ?_; refine pu 27 48 (fb 39 268435455) HT_ ?_; refine pu 29 50 (fb 39 805306367) HT_ ?_; refine pu 30 51 (fb 39 1879048191) HT_ ?_; refine pu 34 55 (fb 39 19058917375) HT_ ?_; refine tk 28 49 (fb 39 19327352831) HT_ HW_ hHeld ?_; refine pu 31 52 (fb 39 21474836479) HT_ ?_; refine pu 32 53 (fb 39 25769803775) HT_ ?_; refine tk 33 54 (fb 39 34359738367) HT_ HW_ hHeld ?_; refine tk 35 56 (fb 39 68719476735) HT_ HW_ hHeld ?_; refine pu 36 57 (fb 39 137438953471) HT_ ?_; refine pu 37 58 (fb 39 274877906943) HT_ ?_; refine pu 38 59 (fb 39 549755813887) HT_ ?_; refine done_ (done_of HT_.out (by kernel_rfl)) ?_
              try go_wp2
              go_ret
              exact ⟨by first | rfl | (simp [errW_none, errW_some] <;> rfl) | (simp only [← ax]; first | rfl | (simp [errW_none, errW_some] <;> rfl)) | (simp [*, errW_none, errW_some] <;> rfl), (bf HB.out)⟩
            ·rw [if_neg aS] at H
             exact absurd H (by simp)
           ·rw [if_neg aR] at H
            exact absurd H (by simp)
          ·rw [if_neg aK] at H
           have bn : decide (0 < a2) = false := decide_eq_false aK; clear aK; have H' := Aside0.mk H; clear H; have ⟨cq, cr⟩ := Yc1 a5.out; have a8 : 0 ≤ (a2 : Int) := oda; have a9 : a2 < (a1.length : Int) := oda; obtain ⟨a7, ag, aB, aC, aD, aE, aF, aG, aH⟩ := at_T120 (Kd.C_below al.out HB.out) a2 a8 a9
           cases ag
           replace a8 := eq_true a8; replace a9 := eq_true a9
           try go_wp2_with (first | ((with_reducible refine gd 4 rfl ?_); refine bx 4 120 (#[.string (⟨#[]⟩ : ByteArray), .bool false, .string (⟨#[]⟩ : ByteArray), .bool false, .bool false, .string (⟨#[]⟩ : ByteArray), .bool false]) ?_; intro a4 hg aV hbox hb; refine Ya7 (bb a5 hb) (below_step (bf HB.out) hb) (hbox) (bs hg (bf HB.out)) (bs hg (bf HB.out)) (bl hg a5) (br hg a5) ?_; clear a5 HB; intro a5 HB a3 aI aJ ad ah; clear hb hbox hg; have hnb50 := ah.out; have hnc50 := ad.out; have ⟨cs, ct, cu, cv, cx, cy, cz, cA, cB, cC, cD, cE, cF, cG⟩ := Yc7 a3.out))
           have aa : Aside0 ((((((((aV.setCell ⟨a4, 0, none⟩ (.string ((rd_T120 a1 a2).f0))).setCell ⟨a4, 1, none⟩ (.bool ((rd_T120 a1 a2).f1.f0))).setCell ⟨a4, 2, none⟩ (.string ((rd_T120 a1 a2).f1.f1))).setCell ⟨a4, 3, none⟩ (.bool ((rd_T120 a1 a2).f1.f2))).setCell ⟨a4, 4, none⟩ (.bool ((rd_T120 a1 a2).f2.f0))).setCell ⟨a4, 5, none⟩ (.string ((rd_T120 a1 a2).f2.f1))).setCell ⟨a4, 6, none⟩ (.bool ((rd_T120 a1 a2).f2.f2))).heap[aj]? = some (.cells #[.slice (some a7) a1.length af] 52 (0, 0))) := ⟨bkf a5.out ad.out⟩
           have ab : Aside0 ((((((((aV.setCell ⟨a4, 0, none⟩ (.string ((rd_T120 a1 a2).f0))).setCell ⟨a4, 1, none⟩ (.bool ((rd_T120 a1 a2).f1.f0))).setCell ⟨a4, 2, none⟩ (.string ((rd_T120 a1 a2).f1.f1))).setCell ⟨a4, 3, none⟩ (.bool ((rd_T120 a1 a2).f1.f2))).setCell ⟨a4, 4, none⟩ (.bool ((rd_T120 a1 a2).f2.f0))).setCell ⟨a4, 5, none⟩ (.string ((rd_T120 a1 a2).f2.f1))).setCell ⟨a4, 6, none⟩ (.bool ((rd_T120 a1 a2).f2.f2))).heap[a4]? = some (.cells #[.string ((rd_T120 a1 a2).f0), .bool ((rd_T120 a1 a2).f1.f0), .string ((rd_T120 a1 a2).f1.f1), .bool ((rd_T120 a1 a2).f1.f2), .bool ((rd_T120 a1 a2).f2.f0), .string ((rd_T120 a1 a2).f2.f1), .bool ((rd_T120 a1 a2).f2.f2)] 120 (0, 0))) := ⟨bp a3.out⟩
           have ac : Aside0 (Below w.heap.size w (((((((aV.setCell ⟨a4, 0, none⟩ (.string ((rd_T120 a1 a2).f0))).setCell ⟨a4, 1, none⟩ (.bool ((rd_T120 a1 a2).f1.f0))).setCell ⟨a4, 2, none⟩ (.string ((rd_T120 a1 a2).f1.f1))).setCell ⟨a4, 3, none⟩ (.bool ((rd_T120 a1 a2).f1.f2))).setCell ⟨a4, 4, none⟩ (.bool ((rd_T120 a1 a2).f2.f0))).setCell ⟨a4, 5, none⟩ (.string ((rd_T120 a1 a2).f2.f1))).setCell ⟨a4, 6, none⟩ (.bool ((rd_T120 a1 a2).f2.f2)))) := ⟨bf HB.out⟩
           (try clear a5); (try clear a3); (try clear HB); generalize (((((((aV.setCell ⟨a4, 0, none⟩ (.string ((rd_T120 a1 a2).f0))).setCell ⟨a4, 1, none⟩ (.bool ((rd_T120 a1 a2).f1.f0))).setCell ⟨a4, 2, none⟩ (.string ((rd_T120 a1 a2).f1.f1))).setCell ⟨a4, 3, none⟩ (.bool ((rd_T120 a1 a2).f1.f2))).setCell ⟨a4, 4, none⟩ (.bool ((rd_T120 a1 a2).f2.f0))).setCell ⟨a4, 5, none⟩ (.string ((rd_T120 a1 a2).f2.f1))).setCell ⟨a4, 6, none⟩ (.bool ((rd_T120 a1 a2).f2.f2))) = w52 at aa ab ac ⊢; have a5 := aa; have a3 := ab; have HB := ac; clear aa ab ac; refine Ya3 (blk_drew a5.out) (blk_drew a3.out) (below_drew1 HB.out) ?_; clear a5 a3 HB; intro a5 a3 HB; refine start_ (n := 39) (S := fun w' => w'.cell? ⟨a4, 0, none⟩ = some (.string ((rd_T120 a1 a2).f0)) ∧ w'.cell? ⟨a4, 1, none⟩ = some (.bool ((rd_T120 a1 a2).f1.f0)) ∧ w'.cell? ⟨a4, 2, none⟩ = some (.string ((rd_T120 a1 a2).f1.f1)) ∧ w'.cell? ⟨a4, 3, none⟩ = some (.bool ((rd_T120 a1 a2).f1.f2)) ∧ w'.cell? ⟨a4, 4, none⟩ = some (.bool ((rd_T120 a1 a2).f2.f0)) ∧ w'.cell? ⟨a4, 5, none⟩ = some (.string ((rd_T120 a1 a2).f2.f1)) ∧ w'.cell? ⟨a4, 6, none⟩ = some (.bool ((rd_T120 a1 a2).f2.f2))) (ds := []) (fb 39 0) (by kernel_rfl) rfl rfl ⟨bc a3 0, bc a3 1, bc a3 2, bc a3 3, bc a3 4, bc a3 5, bc a3 6⟩ (fun hHeld => ?_); refine with_tabW spec_ValidPatch.tab7 spec_ValidPatch.bits7 (fun HT_ HW_ => ?_); generalize w52.drew = w53 at a5 a3 HB hHeld ⊢; refine pu 0 21 (fb 39 1) HT_ ?_; refine tk 1 22 (fb 39 3) HT_ HW_ hHeld ?_; refine o1 2 (some 23) (fb 39 7) HT_ (fun K hK => ?_); refine gs _ (#[.string ((rd_T120 a1 a2).f0)]) Tryd.func23 ?_; (with_reducible refine (spec_ValidPath.calls k1 ((rd_T120 a1 a2).f0) true _ A9.out).mono ?_); rintro e w54 ⟨rfl, hb⟩; refine ⟨_, rfl, ?_⟩; refine Ya3 (bb a5 hb) (bb a3 hb) (below_step (bf HB.out) hb) ?_; clear a5 a3 HB; intro a5 a3 HB; (try clear hb); (try clear hb2); (try clear hk); (try clear hi); refine hK.out _ _ ⟨bc a3 0, bc a3 1, bc a3 2, bc a3 3, bc a3 4, bc a3 5, bc a3 6⟩ (fun hHeld => ?_); clear hK K; refine nm 23 ?_; refine pu 3 24 (fb 39 15) HT_ ?_; refine pu 4 25 (fb 39 31) HT_ ?_; refine pu 5 26 (fb 39 63) HT_ ?_; refine tk 6 27 (fb 39 127) HT_ HW_ hHeld ?_; refine o1 7 (some 28) (fb 39 255) HT_ (fun K hK => ?_); refine gs _ (#[.agg #[.bool ((rd_T120 a1 a2).f1.f0), .string ((rd_T120 a1 a2).f1.f1), .bool ((rd_T120 a1 a2).f1.f2)]]) Tryd.func152 ?_; (with_reducible refine (spec_l6FileOk.calls ((rd_T120 a1 a2).f1.f0) ((rd_T120 a1 a2).f1.f1) ((rd_T120 a1 a2).f1.f2) true _ aw.out).mono ?_); rintro e w55 ⟨rfl, hb⟩; refine ⟨_, rfl, ?_⟩; refine Ya3 (bb a5 hb) (bb a3 hb) (below_step (bf HB.out) hb) ?_; clear a5 a3 HB; intro a5 a3 HB; (try clear hb); (try clear hb2); (try clear hk); (try clear hi); refine hK.out _ _ ⟨bc a3 0, bc a3 1, bc a3 2, bc a3 3, bc a3 4, bc a3 5, bc a3 6⟩ (fun hHeld => ?_); clear hK K; refine nm 28 ?_; refine pu 8 29 (fb 39 511) HT_ ?_; refine pu 9 30 (fb 39 1023) HT_ ?_; refine pu 10 31 (fb 39 2047) HT_ ?_; refine pu 11 32 (fb 39 4095) HT_ ?_; refine tk 12 33 (fb 39 8191) HT_ HW_ hHeld ?_; refine o1 13 (some 34) (fb 39 16383) HT_ (fun K hK => ?_); refine gs _ (#[.agg #[.bool ((rd_T120 a1 a2).f2.f0), .string ((rd_T120 a1 a2).f2.f1), .bool ((rd_T120 a1 a2).f2.f2)]]) Tryd.func152 ?_; (with_reducible refine (spec_l6FileOk.calls ((rd_T120 a1 a2).f2.f0) ((rd_T120 a1 a2).f2.f1) ((rd_T120 a1 a2).f2.f2) true _ aA.out).mono ?_); rintro e w56 ⟨rfl, hb⟩; refine ⟨_, rfl, ?_⟩; refine Ya3 (bb a5 hb) (bb a3 hb) (below_step (bf HB.out) hb) ?_; clear a5 a3 HB; intro a5 a3 HB; (try clear hb); (try clear hb2); (try clear hk); (try clear hi); refine hK.out _ _ ⟨bc a3 0, bc a3 1, bc a3 2, bc a3 3, bc a3 4, bc a3 5, bc a3 6⟩ (fun hHeld => ?_); clear hK K; refine nm 34 ?_; refine pu 14 35 (fb 39 32767) HT_ ?_; refine pu 15 36 (fb 39 65535) HT_ ?_; refine pu 16 37 (fb 39 131071) HT_ ?_; refine pu 17 38 (fb 39 262143) HT_ ?_; refine pu 19 40 (fb 39 786431) HT_ ?_; refine tk 18 39 (fb 39 1048575) HT_ HW_ hHeld ?_; refine tk 20 41 (fb 39 2097151) HT_ HW_ hHeld ?_; refine pu 21 42 (fb 39 4194303) HT_ ?_; refine pu 22 43 (fb 39 8388607) HT_ ?_; refine pu 23 44 (fb 39 16777215) HT_ ?_; refine pu 24 45 (fb 39 33554431) HT_ ?_; refine pu 25 46 (fb 39 67108863) HT_ ?_; refine pu 26 47 (fb 39 134217727) HT_ ?_; refine pn 27 48 (fb 39 268435455) HT_ ?_; refine pn 28 49 (fb 39 536870911) HT_ ?_; refine pn 29 50 (fb 39 1073741823) HT_ ?_; refine pn 30 51 (fb 39 2147483647) HT_ ?_; refine pn 31 52 (fb 39 4294967295) HT_ ?_; refine pn 32 53 (fb 39 8589934591) HT_ ?_; refine pn 33 54 (fb 39 17179869183) HT_ ?_; refine pn 34 55 (fb 39 34359738367) HT_ ?_; refine pn 35 56 (fb 39 68719476735) HT_ ?_; refine pn 36 57 (fb 39 137438953471) HT_ ?_; refine pu 37 58 (fb 39 274877906943) HT_ ?_; refine pu 38 59 (fb 39 549755813887) HT_ ?_; refine done_ (done_of HT_.out (by kernel_rfl)) ?_
           try go_wp2
           go_roundg k1
           case measure => have := HK1.out; omega
           case rel => exact ⟨(wrap64 (a2 + 1)), Ye1, H', ⟨by have := HK1.out; omega⟩, ⟨bk a5.out⟩, ⟨bf HB.out⟩⟩
        ·replace aP := Bool.eq_false_iff.mpr aP; subst aP
         have H1 : (some false) = some r := by rw [if_neg (show ¬ (false = true) by decide)] at H; exact H
         clear H; have H := H1; clear H1; obtain rfl := Option.some.inj H; have ⟨cH, cI⟩ := Yc1 a5.out; have a8 : 0 ≤ (a2 : Int) := oda; have a9 : a2 < (a1.length : Int) := oda; obtain ⟨a7, ag, aB, aC, aD, aE, aF, aG, aH⟩ := at_T120 (Kd.C_below al.out HB.out) a2 a8 a9
         cases ag
         replace a8 := eq_true a8; replace a9 := eq_true a9
         try go_wp2_with (first | ((with_reducible refine gd 4 rfl ?_); refine bx 4 120 (#[.string (⟨#[]⟩ : ByteArray), .bool false, .string (⟨#[]⟩ : ByteArray), .bool false, .bool false, .string (⟨#[]⟩ : ByteArray), .bool false]) ?_; intro a4 hg aW hbox hb; refine Ya7 (bb a5 hb) (below_step (bf HB.out) hb) (hbox) (bs hg (bf HB.out)) (bs hg (bf HB.out)) (bl hg a5) (br hg a5) ?_; clear a5 HB; intro a5 HB a3 aI aJ ad ah; clear hb hbox hg; have hnb59 := ah.out; have hnc59 := ad.out; have ⟨cJ, cK, cL, cM, cN, cO, cP, cQ, cR, cS, cT, cU, cV, cW⟩ := Yc7 a3.out))
         have aa : Aside0 ((((((((aW.setCell ⟨a4, 0, none⟩ (.string ((rd_T120 a1 a2).f0))).setCell ⟨a4, 1, none⟩ (.bool ((rd_T120 a1 a2).f1.f0))).setCell ⟨a4, 2, none⟩ (.string ((rd_T120 a1 a2).f1.f1))).setCell ⟨a4, 3, none⟩ (.bool ((rd_T120 a1 a2).f1.f2))).setCell ⟨a4, 4, none⟩ (.bool ((rd_T120 a1 a2).f2.f0))).setCell ⟨a4, 5, none⟩ (.string ((rd_T120 a1 a2).f2.f1))).setCell ⟨a4, 6, none⟩ (.bool ((rd_T120 a1 a2).f2.f2))).heap[aj]? = some (.cells #[.slice (some a7) a1.length af] 52 (0, 0))) := ⟨bkf a5.out ad.out⟩
         have ab : Aside0 ((((((((aW.setCell ⟨a4, 0, none⟩ (.string ((rd_T120 a1 a2).f0))).setCell ⟨a4, 1, none⟩ (.bool ((rd_T120 a1 a2).f1.f0))).setCell ⟨a4, 2, none⟩ (.string ((rd_T120 a1 a2).f1.f1))).setCell ⟨a4, 3, none⟩ (.bool ((rd_T120 a1 a2).f1.f2))).setCell ⟨a4, 4, none⟩ (.bool ((rd_T120 a1 a2).f2.f0))).setCell ⟨a4, 5, none⟩ (.string ((rd_T120 a1 a2).f2.f1))).setCell ⟨a4, 6, none⟩ (.bool ((rd_T120 a1 a2).f2.f2))).heap[a4]? = some (.cells #[.string ((rd_T120 a1 a2).f0), .bool ((rd_T120 a1 a2).f1.f0), .string ((rd_T120 a1 a2).f1.f1), .bool ((rd_T120 a1 a2).f1.f2), .bool ((rd_T120 a1 a2).f2.f0), .string ((rd_T120 a1 a2).f2.f1), .bool ((rd_T120 a1 a2).f2.f2)] 120 (0, 0))) := ⟨bp a3.out⟩
         have ac : Aside0 (Below w.heap.size w (((((((aW.setCell ⟨a4, 0, none⟩ (.string ((rd_T120 a1 a2).f0))).setCell ⟨a4, 1, none⟩ (.bool ((rd_T120 a1 a2).f1.f0))).setCell ⟨a4, 2, none⟩ (.string ((rd_T120 a1 a2).f1.f1))).setCell ⟨a4, 3, none⟩ (.bool ((rd_T120 a1 a2).f1.f2))).setCell ⟨a4, 4, none⟩ (.bool ((rd_T120 a1 a2).f2.f0))).setCell ⟨a4, 5, none⟩ (.string ((rd_T120 a1 a2).f2.f1))).setCell ⟨a4, 6, none⟩ (.bool ((rd_T120 a1 a2).f2.f2)))) := ⟨bf HB.out⟩
         (try clear a5); (try clear a3); (try clear HB); generalize (((((((aW.setCell ⟨a4, 0, none⟩ (.string ((rd_T120 a1 a2).f0))).setCell ⟨a4, 1, none⟩ (.bool ((rd_T120 a1 a2).f1.f0))).setCell ⟨a4, 2, none⟩ (.string ((rd_T120 a1 a2).f1.f1))).setCell ⟨a4, 3, none⟩ (.bool ((rd_T120 a1 a2).f1.f2))).setCell ⟨a4, 4, none⟩ (.bool ((rd_T120 a1 a2).f2.f0))).setCell ⟨a4, 5, none⟩ (.string ((rd_T120 a1 a2).f2.f1))).setCell ⟨a4, 6, none⟩ (.bool ((rd_T120 a1 a2).f2.f2))) = w61 at aa ab ac ⊢; have a5 := aa; have a3 := ab; have HB := ac; clear aa ab ac; refine Ya3 (blk_drew a5.out) (blk_drew a3.out) (below_drew1 HB.out) ?_; clear a5 a3 HB; intro a5 a3 HB; refine start_ (n := 39) (S := fun w' => w'.cell? ⟨a4, 0, none⟩ = some (.string ((rd_T120 a1 a2).f0)) ∧ w'.cell? ⟨a4, 1, none⟩ = some (.bool ((rd_T120 a1 a2).f1.f0)) ∧ w'.cell? ⟨a4, 2, none⟩ = some (.string ((rd_T120 a1 a2).f1.f1)) ∧ w'.cell? ⟨a4, 3, none⟩ = some (.bool ((rd_T120 a1 a2).f1.f2)) ∧ w'.cell? ⟨a4, 4, none⟩ = some (.bool ((rd_T120 a1 a2).f2.f0)) ∧ w'.cell? ⟨a4, 5, none⟩ = some (.string ((rd_T120 a1 a2).f2.f1)) ∧ w'.cell? ⟨a4, 6, none⟩ = some (.bool ((rd_T120 a1 a2).f2.f2))) (ds := []) (fb 39 0) (by kernel_rfl) rfl rfl ⟨bc a3 0, bc a3 1, bc a3 2, bc a3 3, bc a3 4, bc a3 5, bc a3 6⟩ (fun hHeld => ?_); refine with_tabW spec_ValidPatch.tab7 spec_ValidPatch.bits7 (fun HT_ HW_ => ?_); generalize w61.drew = w62 at a5 a3 HB hHeld ⊢; refine pu 0 21 (fb 39 1) HT_ ?_; refine tk 1 22 (fb 39 3) HT_ HW_ hHeld ?_; refine o1 2 (some 23) (fb 39 7) HT_ (fun K hK => ?_); refine gs _ (#[.string ((rd_T120 a1 a2).f0)]) Tryd.func23 ?_; (with_reducible refine (spec_ValidPath.calls k1 ((rd_T120 a1 a2).f0) true _ A9.out).mono ?_); rintro e w63 ⟨rfl, hb⟩; refine ⟨_, rfl, ?_⟩; refine Ya3 (bb a5 hb) (bb a3 hb) (below_step (bf HB.out) hb) ?_; clear a5 a3 HB; intro a5 a3 HB; (try clear hb); (try clear hb2); (try clear hk); (try clear hi); refine hK.out _ _ ⟨bc a3 0, bc a3 1, bc a3 2, bc a3 3, bc a3 4, bc a3 5, bc a3 6⟩ (fun hHeld => ?_); clear hK K; refine nm 23 ?_; refine pu 3 24 (fb 39 15) HT_ ?_; refine pu 4 25 (fb 39 31) HT_ ?_; refine pu 5 26 (fb 39 63) HT_ ?_; refine tk 6 27 (fb 39 127) HT_ HW_ hHeld ?_; refine o1 7 (some 28) (fb 39 255) HT_ (fun K hK => ?_); refine gs _ (#[.agg #[.bool ((rd_T120 a1 a2).f1.f0), .string ((rd_T120 a1 a2).f1.f1), .bool ((rd_T120 a1 a2).f1.f2)]]) Tryd.func152 ?_; (with_reducible refine (spec_l6FileOk.calls ((rd_T120 a1 a2).f1.f0) ((rd_T120 a1 a2).f1.f1) ((rd_T120 a1 a2).f1.f2) true _ aw.out).mono ?_); rintro e w64 ⟨rfl, hb⟩; refine ⟨_, rfl, ?_⟩; refine Ya3 (bb a5 hb) (bb a3 hb) (below_step (bf HB.out) hb) ?_; clear a5 a3 HB; intro a5 a3 HB; (try clear hb); (try clear hb2); (try clear hk); (try clear hi); refine hK.out _ _ ⟨bc a3 0, bc a3 1, bc a3 2, bc a3 3, bc a3 4, bc a3 5, bc a3 6⟩ (fun hHeld => ?_); clear hK K; refine nm 28 ?_; refine pu 8 29 (fb 39 511) HT_ ?_; refine pu 9 30 (fb 39 1023) HT_ ?_; refine pu 10 31 (fb 39 2047) HT_ ?_; refine pu 11 32 (fb 39 4095) HT_ ?_; refine tk 12 33 (fb 39 8191) HT_ HW_ hHeld ?_; refine o1 13 (some 34) (fb 39 16383) HT_ (fun K hK => ?_); refine gs _ (#[.agg #[.bool ((rd_T120 a1 a2).f2.f0), .string ((rd_T120 a1 a2).f2.f1), .bool ((rd_T120 a1 a2).f2.f2)]]) Tryd.func152 ?_; (with_reducible refine (spec_l6FileOk.calls ((rd_T120 a1 a2).f2.f0) ((rd_T120 a1 a2).f2.f1) ((rd_T120 a1 a2).f2.f2) false _ aA.out).mono ?_); rintro e w65 ⟨rfl, hb⟩; refine ⟨_, rfl, ?_⟩; refine Ya3 (bb a5 hb) (bb a3 hb) (below_step (bf HB.out) hb) ?_; clear a5 a3 HB; intro a5 a3 HB; (try clear hb); (try clear hb2); (try clear hk); (try clear hi); refine hK.out _ _ ⟨bc a3 0, bc a3 1, bc a3 2, bc a3 3, bc a3 4, bc a3 5, bc a3 6⟩ (fun hHeld => ?_); clear hK K; refine nm 34 ?_; refine pu 14 35 (fb 39 32767) HT_ ?_; refine pu 15 36 (fb 39 65535) HT_ ?_; refine pu 16 37 (fb 39 131071) HT_ ?_; refine pn 17 38 (fb 39 262143) HT_ ?_; refine pn 18 39 (fb 39 524287) HT_ ?_; refine pn 19 40 (fb 39 1048575) HT_ ?_; refine pn 20 41 (fb 39 2097151) HT_ ?_; refine pn 21 42 (fb 39 4194303) HT_ ?_; refine pu 22 43 (fb 39 8388607) HT_ ?_; refine pu 23 44 (fb 39 16777215) HT_ ?_; refine pn 24 45 (fb 39 33554431) HT_ ?_; refine pn 25 46 (fb 39 67108863) HT_ ?_; refine pn 26 47 (fb 39 134217727) HT_ ?_; refine pn 27 48 (fb 39 268435455) HT_ ?_; refine pn 28 49 (fb 39 536870911) HT_ ?_; refine pn 29 50 (fb 39 1073741823) HT_ ?_; refine pn 30 51 (fb 39 2147483647) HT_ ?_; refine pn 31 52 (fb 39 4294967295) HT_ ?_; refine pn 32 53 (fb 39 8589934591) HT_ ?_; refine pn 33 54 (fb 39 17179869183) HT_ ?_; refine pn 34 55 (fb 39 34359738367) HT_ ?_; refine pn 35 56 (fb 39 68719476735) HT_ ?_; refine pn 36 57 (fb 39 137438953471) HT_ ?_; refine pn 37 58 (fb 39 274877906943) HT_ ?_; refine pu 38 59 (fb 39 549755813887) HT_ ?_; refine done_ (done_of HT_.out (by kernel_rfl)) ?_
         try go_wp2
         go_ret
         exact ⟨Ye2, (bf HB.out)⟩
       ·replace aO := Bool.eq_false_iff.mpr aO; subst aO
        have H1 : (some false) = some r := by rw [if_neg (show ¬ (false = true) by decide)] at H; exact H
        clear H; have H := H1; clear H1; obtain rfl := Option.some.inj H; have ⟨cX, cY⟩ := Yc1 a5.out; have a8 : 0 ≤ (a2 : Int) := oda; have a9 : a2 < (a1.length : Int) := oda; obtain ⟨a7, ag, aB, aC, aD, aE, aF, aG, aH⟩ := at_T120 (Kd.C_below al.out HB.out) a2 a8 a9
        cases ag
        replace a8 := eq_true a8; replace a9 := eq_true a9
        try go_wp2_with (first | ((with_reducible refine gd 4 rfl ?_); refine bx 4 120 (#[.string (⟨#[]⟩ : ByteArray), .bool false, .string (⟨#[]⟩ : ByteArray), .bool false, .bool false, .string (⟨#[]⟩ : ByteArray), .bool false]) ?_; intro a4 hg aX hbox hb; refine Ya7 (bb a5 hb) (below_step (bf HB.out) hb) (hbox) (bs hg (bf HB.out)) (bs hg (bf HB.out)) (bl hg a5) (br hg a5) ?_; clear a5 HB; intro a5 HB a3 aI aJ ad ah; clear hb hbox hg; have hnb68 := ah.out; have hnc68 := ad.out; have ⟨cZ, d0, d1, d2, d3, d4, d5, d6, d7, d8, d9, da, db, dc⟩ := Yc7 a3.out))
        have aa : Aside0 ((((((((aX.setCell ⟨a4, 0, none⟩ (.string ((rd_T120 a1 a2).f0))).setCell ⟨a4, 1, none⟩ (.bool ((rd_T120 a1 a2).f1.f0))).setCell ⟨a4, 2, none⟩ (.string ((rd_T120 a1 a2).f1.f1))).setCell ⟨a4, 3, none⟩ (.bool ((rd_T120 a1 a2).f1.f2))).setCell ⟨a4, 4, none⟩ (.bool ((rd_T120 a1 a2).f2.f0))).setCell ⟨a4, 5, none⟩ (.string ((rd_T120 a1 a2).f2.f1))).setCell ⟨a4, 6, none⟩ (.bool ((rd_T120 a1 a2).f2.f2))).heap[aj]? = some (.cells #[.slice (some a7) a1.length af] 52 (0, 0))) := ⟨bkf a5.out ad.out⟩
        have ab : Aside0 ((((((((aX.setCell ⟨a4, 0, none⟩ (.string ((rd_T120 a1 a2).f0))).setCell ⟨a4, 1, none⟩ (.bool ((rd_T120 a1 a2).f1.f0))).setCell ⟨a4, 2, none⟩ (.string ((rd_T120 a1 a2).f1.f1))).setCell ⟨a4, 3, none⟩ (.bool ((rd_T120 a1 a2).f1.f2))).setCell ⟨a4, 4, none⟩ (.bool ((rd_T120 a1 a2).f2.f0))).setCell ⟨a4, 5, none⟩ (.string ((rd_T120 a1 a2).f2.f1))).setCell ⟨a4, 6, none⟩ (.bool ((rd_T120 a1 a2).f2.f2))).heap[a4]? = some (.cells #[.string ((rd_T120 a1 a2).f0), .bool ((rd_T120 a1 a2).f1.f0), .string ((rd_T120 a1 a2).f1.f1), .bool ((rd_T120 a1 a2).f1.f2), .bool ((rd_T120 a1 a2).f2.f0), .string ((rd_T120 a1 a2).f2.f1), .bool ((rd_T120 a1 a2).f2.f2)] 120 (0, 0))) := ⟨bp a3.out⟩
        have ac : Aside0 (Below w.heap.size w (((((((aX.setCell ⟨a4, 0, none⟩ (.string ((rd_T120 a1 a2).f0))).setCell ⟨a4, 1, none⟩ (.bool ((rd_T120 a1 a2).f1.f0))).setCell ⟨a4, 2, none⟩ (.string ((rd_T120 a1 a2).f1.f1))).setCell ⟨a4, 3, none⟩ (.bool ((rd_T120 a1 a2).f1.f2))).setCell ⟨a4, 4, none⟩ (.bool ((rd_T120 a1 a2).f2.f0))).setCell ⟨a4, 5, none⟩ (.string ((rd_T120 a1 a2).f2.f1))).setCell ⟨a4, 6, none⟩ (.bool ((rd_T120 a1 a2).f2.f2)))) := ⟨bf HB.out⟩
        (try clear a5); (try clear a3); (try clear HB); generalize (((((((aX.setCell ⟨a4, 0, none⟩ (.string ((rd_T120 a1 a2).f0))).setCell ⟨a4, 1, none⟩ (.bool ((rd_T120 a1 a2).f1.f0))).setCell ⟨a4, 2, none⟩ (.string ((rd_T120 a1 a2).f1.f1))).setCell ⟨a4, 3, none⟩ (.bool ((rd_T120 a1 a2).f1.f2))).setCell ⟨a4, 4, none⟩ (.bool ((rd_T120 a1 a2).f2.f0))).setCell ⟨a4, 5, none⟩ (.string ((rd_T120 a1 a2).f2.f1))).setCell ⟨a4, 6, none⟩ (.bool ((rd_T120 a1 a2).f2.f2))) = w70 at aa ab ac ⊢; have a5 := aa; have a3 := ab; have HB := ac; clear aa ab ac; refine Ya3 (blk_drew a5.out) (blk_drew a3.out) (below_drew1 HB.out) ?_; clear a5 a3 HB; intro a5 a3 HB; refine start_ (n := 39) (S := fun w' => w'.cell? ⟨a4, 0, none⟩ = some (.string ((rd_T120 a1 a2).f0)) ∧ w'.cell? ⟨a4, 1, none⟩ = some (.bool ((rd_T120 a1 a2).f1.f0)) ∧ w'.cell? ⟨a4, 2, none⟩ = some (.string ((rd_T120 a1 a2).f1.f1)) ∧ w'.cell? ⟨a4, 3, none⟩ = some (.bool ((rd_T120 a1 a2).f1.f2)) ∧ w'.cell? ⟨a4, 4, none⟩ = some (.bool ((rd_T120 a1 a2).f2.f0)) ∧ w'.cell? ⟨a4, 5, none⟩ = some (.string ((rd_T120 a1 a2).f2.f1)) ∧ w'.cell? ⟨a4, 6, none⟩ = some (.bool ((rd_T120 a1 a2).f2.f2))) (ds := []) (fb 39 0) (by kernel_rfl) rfl rfl ⟨bc a3 0, bc a3 1, bc a3 2, bc a3 3, bc a3 4, bc a3 5, bc a3 6⟩ (fun hHeld => ?_); refine with_tabW spec_ValidPatch.tab7 spec_ValidPatch.bits7 (fun HT_ HW_ => ?_); generalize w70.drew = w71 at a5 a3 HB hHeld ⊢; refine pu 0 21 (fb 39 1) HT_ ?_; refine tk 1 22 (fb 39 3) HT_ HW_ hHeld ?_; refine o1 2 (some 23) (fb 39 7) HT_ (fun K hK => ?_); refine gs _ (#[.string ((rd_T120 a1 a2).f0)]) Tryd.func23 ?_; (with_reducible refine (spec_ValidPath.calls k1 ((rd_T120 a1 a2).f0) true _ A9.out).mono ?_); rintro e w72 ⟨rfl, hb⟩; refine ⟨_, rfl, ?_⟩; refine Ya3 (bb a5 hb) (bb a3 hb) (below_step (bf HB.out) hb) ?_; clear a5 a3 HB; intro a5 a3 HB; (try clear hb); (try clear hb2); (try clear hk); (try clear hi); refine hK.out _ _ ⟨bc a3 0, bc a3 1, bc a3 2, bc a3 3, bc a3 4, bc a3 5, bc a3 6⟩ (fun hHeld => ?_); clear hK K; refine nm 23 ?_; refine pu 3 24 (fb 39 15) HT_ ?_; refine pu 4 25 (fb 39 31) HT_ ?_; refine pu 5 26 (fb 39 63) HT_ ?_; refine tk 6 27 (fb 39 127) HT_ HW_ hHeld ?_; refine o1 7 (some 28) (fb 39 255) HT_ (fun K hK => ?_); refine gs _ (#[.agg #[.bool ((rd_T120 a1 a2).f1.f0), .string ((rd_T120 a1 a2).f1.f1), .bool ((rd_T120 a1 a2).f1.f2)]]) Tryd.func152 ?_; (with_reducible refine (spec_l6FileOk.calls ((rd_T120 a1 a2).f1.f0) ((rd_T120 a1 a2).f1.f1) ((rd_T120 a1 a2).f1.f2) false _ aw.out).mono ?_); rintro e w73 ⟨rfl, hb⟩; refine ⟨_, rfl, ?_⟩; refine Ya3 (bb a5 hb) (bb a3 hb) (below_step (bf HB.out) hb) ?_; clear a5 a3 HB; intro a5 a3 HB; (try clear hb); (try clear hb2); (try clear hk); (try clear hi); refine hK.out _ _ ⟨bc a3 0, bc a3 1, bc a3 2, bc a3 3, bc a3 4, bc a3 5, bc a3 6⟩ (fun hHeld => ?_); clear hK K; refine nm 28 ?_; refine pu 8 29 (fb 39 511) HT_ ?_; refine pu 9 30 (fb 39 1023) HT_ ?_; refine pu 10 31 (fb 39 2047) HT_ ?_; refine pn 11 32 (fb 39 4095) HT_ ?_; refine pn 12 33 (fb 39 8191) HT_ ?_; refine pn 13 34 (fb 39 16383) HT_ ?_; refine pn 14 35 (fb 39 32767) HT_ ?_; refine pu 15 36 (fb 39 65535) HT_ ?_; refine pu 16 37 (fb 39 131071) HT_ ?_; refine pn 17 38 (fb 39 262143) HT_ ?_; refine pn 18 39 (fb 39 524287) HT_ ?_; refine pn 19 40 (fb 39 1048575) HT_ ?_; refine pn 20 41 (fb 39 2097151) HT_ ?_; refine pn 21 42 (fb 39 4194303) HT_ ?_; refine pu 22 43 (fb 39 8388607) HT_ ?_; refine pu 23 44 (fb 39 16777215) HT_ ?_; refine pn 24 45 (fb 39 33554431) HT_ ?_; refine pn 25 46 (fb 39 67108863) HT_ ?_; refine pn 26 47 (fb 39 134217727) HT_ ?_; refine pn 27 48 (fb 39 268435455) HT_ ?_; refine pn 28 49 (fb 39 536870911) HT_ ?_; refine pn 29 50 (fb 39 1073741823) HT_ ?_; refine pn 30 51 (fb 39 2147483647) HT_ ?_; refine pn 31 52 (fb 39 4294967295) HT_ ?_; refine pn 32 53 (fb 39 8589934591) HT_ ?_; refine pn 33 54 (fb 39 17179869183) HT_ ?_; refine pn 34 55 (fb 39 34359738367) HT_ ?_; refine pn 35 56 (fb 39 68719476735) HT_ ?_; refine pn 36 57 (fb 39 137438953471) HT_ ?_; refine pn 37 58 (fb 39 274877906943) HT_ ?_; refine pu 38 59 (fb 39 549755813887) HT_ ?_; refine done_ (done_of HT_.out (by kernel_rfl)) ?_
        try go_wp2
        go_ret
        exact ⟨Ye2, (bf HB.out)⟩
      ·replace c10 := Bool.eq_false_iff.mpr c10; subst c10
       have H1 : (some false) = some r := by rw [if_neg (show ¬ (false = true) by decide)] at H; exact H
       clear H; have H := H1; clear H1; obtain rfl := Option.some.inj H; have ⟨dd, de⟩ := Yc1 a5.out; have a8 : 0 ≤ (a2 : Int) := oda; have a9 : a2 < (a1.length : Int) := oda; obtain ⟨a7, ag, aB, aC, aD, aE, aF, aG, aH⟩ := at_T120 (Kd.C_below al.out HB.out) a2 a8 a9
       cases ag
       replace a8 := eq_true a8; replace a9 := eq_true a9
       try go_wp2_with (first | ((with_reducible refine gd 4 rfl ?_); refine bx 4 120 (#[.string (⟨#[]⟩ : ByteArray), .bool false, .string (⟨#[]⟩ : ByteArray), .bool false, .bool false, .string (⟨#[]⟩ : ByteArray), .bool false]) ?_; intro a4 hg aY hbox hb; refine Ya7 (bb a5 hb) (below_step (bf HB.out) hb) (hbox) (bs hg (bf HB.out)) (bs hg (bf HB.out)) (bl hg a5) (br hg a5) ?_; clear a5 HB; intro a5 HB a3 aI aJ ad ah; clear hb hbox hg; have hnb76 := ah.out; have hnc76 := ad.out; have ⟨df, dg, dh, di, dj, dk, dl, dm, dn, dp, dq, dr, dt, du⟩ := Yc7 a3.out))
       have aa : Aside0 ((((((((aY.setCell ⟨a4, 0, none⟩ (.string ((rd_T120 a1 a2).f0))).setCell ⟨a4, 1, none⟩ (.bool ((rd_T120 a1 a2).f1.f0))).setCell ⟨a4, 2, none⟩ (.string ((rd_T120 a1 a2).f1.f1))).setCell ⟨a4, 3, none⟩ (.bool ((rd_T120 a1 a2).f1.f2))).setCell ⟨a4, 4, none⟩ (.bool ((rd_T120 a1 a2).f2.f0))).setCell ⟨a4, 5, none⟩ (.string ((rd_T120 a1 a2).f2.f1))).setCell ⟨a4, 6, none⟩ (.bool ((rd_T120 a1 a2).f2.f2))).heap[aj]? = some (.cells #[.slice (some a7) a1.length af] 52 (0, 0))) := ⟨bkf a5.out ad.out⟩
       have ab : Aside0 ((((((((aY.setCell ⟨a4, 0, none⟩ (.string ((rd_T120 a1 a2).f0))).setCell ⟨a4, 1, none⟩ (.bool ((rd_T120 a1 a2).f1.f0))).setCell ⟨a4, 2, none⟩ (.string ((rd_T120 a1 a2).f1.f1))).setCell ⟨a4, 3, none⟩ (.bool ((rd_T120 a1 a2).f1.f2))).setCell ⟨a4, 4, none⟩ (.bool ((rd_T120 a1 a2).f2.f0))).setCell ⟨a4, 5, none⟩ (.string ((rd_T120 a1 a2).f2.f1))).setCell ⟨a4, 6, none⟩ (.bool ((rd_T120 a1 a2).f2.f2))).heap[a4]? = some (.cells #[.string ((rd_T120 a1 a2).f0), .bool ((rd_T120 a1 a2).f1.f0), .string ((rd_T120 a1 a2).f1.f1), .bool ((rd_T120 a1 a2).f1.f2), .bool ((rd_T120 a1 a2).f2.f0), .string ((rd_T120 a1 a2).f2.f1), .bool ((rd_T120 a1 a2).f2.f2)] 120 (0, 0))) := ⟨bp a3.out⟩
       have ac : Aside0 (Below w.heap.size w (((((((aY.setCell ⟨a4, 0, none⟩ (.string ((rd_T120 a1 a2).f0))).setCell ⟨a4, 1, none⟩ (.bool ((rd_T120 a1 a2).f1.f0))).setCell ⟨a4, 2, none⟩ (.string ((rd_T120 a1 a2).f1.f1))).setCell ⟨a4, 3, none⟩ (.bool ((rd_T120 a1 a2).f1.f2))).setCell ⟨a4, 4, none⟩ (.bool ((rd_T120 a1 a2).f2.f0))).setCell ⟨a4, 5, none⟩ (.string ((rd_T120 a1 a2).f2.f1))).setCell ⟨a4, 6, none⟩ (.bool ((rd_T120 a1 a2).f2.f2)))) := ⟨bf HB.out⟩
       (try clear a5); (try clear a3); (try clear HB); generalize (((((((aY.setCell ⟨a4, 0, none⟩ (.string ((rd_T120 a1 a2).f0))).setCell ⟨a4, 1, none⟩ (.bool ((rd_T120 a1 a2).f1.f0))).setCell ⟨a4, 2, none⟩ (.string ((rd_T120 a1 a2).f1.f1))).setCell ⟨a4, 3, none⟩ (.bool ((rd_T120 a1 a2).f1.f2))).setCell ⟨a4, 4, none⟩ (.bool ((rd_T120 a1 a2).f2.f0))).setCell ⟨a4, 5, none⟩ (.string ((rd_T120 a1 a2).f2.f1))).setCell ⟨a4, 6, none⟩ (.bool ((rd_T120 a1 a2).f2.f2))) = w78 at aa ab ac ⊢; have a5 := aa; have a3 := ab; have HB := ac; clear aa ab ac; refine Ya3 (blk_drew a5.out) (blk_drew a3.out) (below_drew1 HB.out) ?_; clear a5 a3 HB; intro a5 a3 HB; refine start_ (n := 39) (S := fun w' => w'.cell? ⟨a4, 0, none⟩ = some (.string ((rd_T120 a1 a2).f0)) ∧ w'.cell? ⟨a4, 1, none⟩ = some (.bool ((rd_T120 a1 a2).f1.f0)) ∧ w'.cell? ⟨a4, 2, none⟩ = some (.string ((rd_T120 a1 a2).f1.f1)) ∧ w'.cell? ⟨a4, 3, none⟩ = some (.bool ((rd_T120 a1 a2).f1.f2)) ∧ w'.cell? ⟨a4, 4, none⟩ = some (.bool ((rd_T120 a1 a2).f2.f0)) ∧ w'.cell? ⟨a4, 5, none⟩ = some (.string ((rd_T120 a1 a2).f2.f1)) ∧ w'.cell? ⟨a4, 6, none⟩ = some (.bool ((rd_T120 a1 a2).f2.f2))) (ds := []) (fb 39 0) (by kernel_rfl) rfl rfl ⟨bc a3 0, bc a3 1, bc a3 2, bc a3 3, bc a3 4, bc a3 5, bc a3 6⟩ (fun hHeld => ?_); refine with_tabW spec_ValidPatch.tab7 spec_ValidPatch.bits7 (fun HT_ HW_ => ?_); generalize w78.drew = w79 at a5 a3 HB hHeld ⊢; refine pu 0 21 (fb 39 1) HT_ ?_; refine tk 1 22 (fb 39 3) HT_ HW_ hHeld ?_; refine o1 2 (some 23) (fb 39 7) HT_ (fun K hK => ?_); refine gs _ (#[.string ((rd_T120 a1 a2).f0)]) Tryd.func23 ?_; (with_reducible refine (spec_ValidPath.calls k1 ((rd_T120 a1 a2).f0) false _ A9.out).mono ?_); rintro e w80 ⟨rfl, hb⟩; refine ⟨_, rfl, ?_⟩; refine Ya3 (bb a5 hb) (bb a3 hb) (below_step (bf HB.out) hb) ?_; clear a5 a3 HB; intro a5 a3 HB; (try clear hb); (try clear hb2); (try clear hk); (try clear hi); refine hK.out _ _ ⟨bc a3 0, bc a3 1, bc a3 2, bc a3 3, bc a3 4, bc a3 5, bc a3 6⟩ (fun hHeld => ?_); clear hK K; refine nm 23 ?_; refine pu 3 24 (fb 39 15) HT_ ?_; refine pu 4 25 (fb 39 31) HT_ ?_; refine pn 5 26 (fb 39 63) HT_ ?_; refine pn 6 27 (fb 39 127) HT_ ?_; refine pn 7 28 (fb 39 255) HT_ ?_; refine pn 8 29 (fb 39 511) HT_ ?_; refine pu 9 30 (fb 39 1023) HT_ ?_; refine pu 10 31 (fb 39 2047) HT_ ?_; refine pn 11 32 (fb 39 4095) HT_ ?_; refine pn 12 33 (fb 39 8191) HT_ ?_; refine pn 13 34 (fb 39 16383) HT_ ?_; refine pn 14 35 (fb 39 32767) HT_ ?_; refine pu 15 36 (fb 39 65535) HT_ ?_; refine pu 16 37 (fb 39 131071) HT_ ?_; refine pn 17 38 (fb 39 262143) HT_ ?_; refine pn 18 39 (fb 39 524287) HT_ ?_; refine pn 19 40 (fb 39 1048575) HT_ ?_; refine pn 20 41 (fb 39 2097151) HT_ ?_; refine pn 21 42 (fb 39 4194303) HT_ ?_; refine pu 22 43 (fb 39 8388607) HT_ ?_; refine pu 23 44 (fb 39 16777215) HT_ ?_; refine pn 24 45 (fb 39 33554431) HT_ ?_; refine pn 25 46 (fb 39 67108863) HT_ ?_; refine pn 26 47 (fb 39 134217727) HT_ ?_; refine pn 27 48 (fb 39 268435455) HT_ ?_; refine pn 28 49 (fb 39 536870911) HT_ ?_; refine pn 29 50 (fb 39 1073741823) HT_ ?_; refine pn 30 51 (fb 39 2147483647) HT_ ?_; refine pn 31 52 (fb 39 4294967295) HT_ ?_; refine pn 32 53 (fb 39 8589934591) HT_ ?_; refine pn 33 54 (fb 39 17179869183) HT_ ?_; refine pn 34 55 (fb 39 34359738367) HT_ ?_; refine pn 35 56 (fb 39 68719476735) HT_ ?_; refine pn 36 57 (fb 39 137438953471) HT_ ?_; refine pn 37 58 (fb 39 274877906943) HT_ ?_; refine pu 38 59 (fb 39 549755813887) HT_ ?_; refine done_ (done_of HT_.out (by kernel_rfl)) ?_
       try go_wp2
       go_ret
       exact ⟨Ye2, (bf HB.out)⟩
     ·rw [if_neg c8] at H
      exact absurd H (by simp)
    ·rw [if_neg c7] at H
     have bh : decide (a2 < (a1.length : Int)) = false := decide_eq_false c7; clear c7; obtain rfl := Option.some.inj H; have ⟨dv, dw⟩ := Yc1 a5.out
     go_wp2
     go_ret
     exact ⟨Ye2, (bf HB.out)⟩

end Go.Proofs.YtknagppkeodggaaDoor.P

