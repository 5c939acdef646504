-- Printed for this claim by a small program of this session (kprint.py), which drives the kit's print program.
import Derived.Test.YtnndpbkcldkbgaaP0
import Derived.Test.YtnndpbkcldkbgaaSqueeze
import Derived.Test.YtnndpbkcldkbgaaPImplCommon
import Derived.Test.YtnndpbkcldkbgaaPLawsHeldPairS
import Derived.Test.YtnndpbkcldkbgaaPLawsMarkPairS
import Derived.Test.YtnndpbkcldkbgaaPLawsMarkStringS
import Derived.Test.YtnndpbkcldkbgaaPLawsPair
import Derived.Test.YtnndpbkcldkbgaaPLawsString
import Derived.Test.YtnndpbkcldkbgaaPSpecCommon
namespace Go.Proofs.Ytnndpbkcldkbgaa.P
open Go.RowKit Go.Proofs.YtnndpbkcldkbgaaW.PrintWords Go.Proofs.YtnndpbkcldkbgaaW.PrintLast Go.Proofs.YtnndpbkcldkbgaaW.PrintMore
attribute [local go_sem] max2_int min2_int max_two min_two max_three min_three max_four min_four
set_option linter.unusedVariables false
set_option linter.unusedSimpArgs false

/-! ### laws_FnExactCommon: function 8 -/
def laws_FnExactCommon.j0 : Nat → List ByteArray → List ByteArray → List (S69) → List (S69) → Bool → Option (Bool)
 | 0, _, _, _, _, _ => none
 | k + 1, x0, x1, x6, x9, x63 => if x63 = true then (some false) else ((laws_markPairS.f k x9 1).bind fun bt1125 => ((laws_heldPairS.f k bt1125.2 1).bind fun t1127 => (if t1127 < 0 then (some false) else (if t1127 = bt1125.1 then ((laws_toStringS.f k x0).bind fun t1128 => ((laws_toStringS.f k x1).bind fun t1131 => ((impl_Common.f t1128 t1131).bind fun t1134 => ((laws_eqPairS.f k t1134 x6).bind fun t1137 => (if t1137 = true then ((laws_heldPairS.f k bt1125.2 1).bind fun t1138 => (if t1138 < 0 then (some false) else (if t1138 = bt1125.1 then (some true) else (some false)))) else (some false)))))) else (some false)))))
def laws_FnExactCommon.f (k : Nat) (l0 : List ByteArray) (l1 : List ByteArray) : Option (Bool) := (laws_szStringS.f k l0 1048576).bind fun t1091 => (if t1091 < 0 then (some true) else ((laws_szStringS.f k l1 t1091).bind fun t1092 => (if t1092 < 0 then (some true) else ((laws_toStringS.f k l0).bind fun t1093 => ((laws_toStringS.f k l1).bind fun t1096 => ((spec_Common.f k t1093 t1096).bind fun t1099 => ((laws_toStringS.f k l0).bind fun t1102 => ((laws_toStringS.f k l1).bind fun t1105 => ((impl_Common.f t1102 t1105).bind fun t1108 => ((laws_eqPairS.f k t1108 t1099).bind fun t1111 => (if t1111 = true then ((laws_toStringS.f k l0).bind fun t1112 => ((laws_eqStringS.f k t1102 t1112).bind fun t1115 => (if t1115 = true then ((laws_toStringS.f k l1).bind fun t1116 => ((laws_eqStringS.f k t1105 t1116).bind fun t1119 => (if t1119 = true then ((laws_markStringS.f k t1102 1).bind fun bt1120 => ((laws_markStringS.f k t1105 bt1120.1).bind fun bt1122 => (if bt1122.1 < 0 then (laws_FnExactCommon.j0 k l0 l1 t1099 t1108 true) else ((laws_eqPairS.f k t1108 t1099).bind fun t1124 => (laws_FnExactCommon.j0 k l0 l1 t1099 t1108 (!t1124)))))) else (some false)))) else (some false)))) else (some false))))))))))))
theorem laws_FnExactCommon.mono_l : ∀ k, (∀ y0 y1 y2 y3 y4, LeO (laws_FnExactCommon.j0 k y0 y1 y2 y3 y4) (laws_FnExactCommon.j0 (k + 1) y0 y1 y2 y3 y4))
 | 0 => fun _ _ _ _ _ r h => by simp [laws_FnExactCommon.j0] at h
 | k + 1 => by
  have ih0 := laws_FnExactCommon.mono_l k
  ·intro y0 y1 y2 y3 y4
   unfold laws_FnExactCommon.j0
   repeat' first
   | (with_reducible exact ih0 _ _ _ _ _)
   | (with_reducible exact laws_eqPairS.mono _ _ _)
   | (with_reducible exact laws_eqStringS.mono _ _ _)
   | (with_reducible exact laws_heldPairS.mono _ _ _)
   | (with_reducible exact laws_markPairS.mono _ _ _)
   | (with_reducible exact laws_markStringS.mono _ _ _)
   | (with_reducible exact laws_szStringS.mono _ _ _)
   | (with_reducible exact laws_toStringS.mono _ _)
   | (with_reducible exact spec_Common.mono _ _ _)
   | (with_reducible exact LeO.refl _)
   | (with_reducible exact LeO.none _)
   | (with_reducible refine LeO.ite ?_ ?_)
   | (with_reducible refine LeO.bind ?_ (fun _ => ?_))
   | exact ih0 _ _ _ _ _
   | exact laws_eqPairS.mono _ _ _
   | exact laws_eqStringS.mono _ _ _
   | exact laws_heldPairS.mono _ _ _
   | exact laws_markPairS.mono _ _ _
   | exact laws_markStringS.mono _ _ _
   | exact laws_szStringS.mono _ _ _
   | exact laws_toStringS.mono _ _
   | exact spec_Common.mono _ _ _
   | exact LeO.none _
   | refine LeO.ite ?_ ?_
   | refine LeO.bind ?_ (fun _ => ?_)
theorem laws_FnExactCommon.mono : ∀ a0 a1 k, LeO (laws_FnExactCommon.f k a0 a1) (laws_FnExactCommon.f (k + 1) a0 a1) := by
 intro a0 a1 k
 have ih0 := laws_FnExactCommon.mono_l k
 unfold laws_FnExactCommon.f
 repeat' first
   | (with_reducible exact ih0 _ _ _ _ _)
   | (with_reducible exact laws_eqPairS.mono _ _ _)
   | (with_reducible exact laws_eqStringS.mono _ _ _)
   | (with_reducible exact laws_heldPairS.mono _ _ _)
   | (with_reducible exact laws_markPairS.mono _ _ _)
   | (with_reducible exact laws_markStringS.mono _ _ _)
   | (with_reducible exact laws_szStringS.mono _ _ _)
   | (with_reducible exact laws_toStringS.mono _ _)
   | (with_reducible exact spec_Common.mono _ _ _)
   | (with_reducible exact LeO.refl _)
   | (with_reducible exact LeO.none _)
   | (with_reducible refine LeO.ite ?_ ?_)
   | (with_reducible refine LeO.bind ?_ (fun _ => ?_))
   | exact ih0 _ _ _ _ _
   | exact laws_eqPairS.mono _ _ _
   | exact laws_eqStringS.mono _ _ _
   | exact laws_heldPairS.mono _ _ _
   | exact laws_markPairS.mono _ _ _
   | exact laws_markStringS.mono _ _ _
   | exact laws_szStringS.mono _ _ _
   | exact laws_toStringS.mono _ _
   | exact spec_Common.mono _ _ _
   | exact LeO.none _
   | refine LeO.ite ?_ ?_
   | refine LeO.bind ?_ (fun _ => ?_)
set_option maxHeartbeats 8000000 in
set_option maxRecDepth 100000 in
theorem laws_FnExactCommon.calls (k : Nat) (A0 : Option Addr) (c0 : Nat) (l0 : List ByteArray) (A1 : Option Addr) (c1 : Nat) (l1 : List ByteArray) (r : Bool) (w : World) (hr0 : Kd.C Kd.string w A0 l0.length l0) (hc0 : l0.length ≤ c0) (hr1 : Kd.C Kd.string w A1 l1.length l1) (hc1 : l1.length ≤ c1) (h : laws_FnExactCommon.f k l0 l1 = some r) (hrt : r = true) :
  Calls Try.prog 8 #[.slice A0 l0.length c0, .slice A1 l1.length c1] w fun e w' => e = .returned (.bool r) ∧ Below w.heap.size w w' := by
 have HR0 := Aside0.mk hr0
 have HC0 := Aside0.mk hc0
 clear hr0 hc0
 have HR1 := Aside0.mk hr1
 have HC1 := Aside0.mk hc1
 clear hr1 hc1
 have HB := Aside0.mk (Below.refl w.heap.size w)
 have H : ((laws_szStringS.f k l0 1048576).bind fun t1091 => (if t1091 < 0 then (some true) else ((laws_szStringS.f k l1 t1091).bind fun t1092 => (if t1092 < 0 then (some true) else ((laws_toStringS.f k l0).bind fun t1093 => ((laws_toStringS.f k l1).bind fun t1096 => ((spec_Common.f k t1093 t1096).bind fun t1099 => ((laws_toStringS.f k l0).bind fun t1102 => ((laws_toStringS.f k l1).bind fun t1105 => ((impl_Common.f t1102 t1105).bind fun t1108 => ((laws_eqPairS.f k t1108 t1099).bind fun t1111 => (if t1111 = true then ((laws_toStringS.f k l0).bind fun t1112 => ((laws_eqStringS.f k t1102 t1112).bind fun t1115 => (if t1115 = true then ((laws_toStringS.f k l1).bind fun t1116 => ((laws_eqStringS.f k t1105 t1116).bind fun t1119 => (if t1119 = true then ((laws_markStringS.f k t1102 1).bind fun bt1120 => ((laws_markStringS.f k t1105 bt1120.1).bind fun bt1122 => (if bt1122.1 < 0 then (laws_FnExactCommon.j0 k l0 l1 t1099 t1108 true) else ((laws_eqPairS.f k t1108 t1099).bind fun t1124 => (laws_FnExactCommon.j0 k l0 l1 t1099 t1108 (!t1124)))))) else (some false)))) else (some false)))) else (some false))))))))))))) = some r := h
 clear h
 replace H := Option.bind_eq_some_iff.mp H
 obtain ⟨t1091, A30, H⟩ := H
 replace H : (if t1091 < 0 then (some true) else ((laws_szStringS.f k l1 t1091).bind fun t1092 => (if t1092 < 0 then (some true) else ((laws_toStringS.f k l0).bind fun t1093 => ((laws_toStringS.f k l1).bind fun t1096 => ((spec_Common.f k t1093 t1096).bind fun t1099 => ((laws_toStringS.f k l0).bind fun t1102 => ((laws_toStringS.f k l1).bind fun t1105 => ((impl_Common.f t1102 t1105).bind fun t1108 => ((laws_eqPairS.f k t1108 t1099).bind fun t1111 => (if t1111 = true then ((laws_toStringS.f k l0).bind fun t1112 => ((laws_eqStringS.f k t1102 t1112).bind fun t1115 => (if t1115 = true then ((laws_toStringS.f k l1).bind fun t1116 => ((laws_eqStringS.f k t1105 t1116).bind fun t1119 => (if t1119 = true then ((laws_markStringS.f k t1102 1).bind fun bt1120 => ((laws_markStringS.f k t1105 bt1120.1).bind fun bt1122 => (if bt1122.1 < 0 then (laws_FnExactCommon.j0 k l0 l1 t1099 t1108 true) else ((laws_eqPairS.f k t1108 t1099).bind fun t1124 => (laws_FnExactCommon.j0 k l0 l1 t1099 t1108 (!t1124)))))) else (some false)))) else (some false)))) else (some false)))))))))))) = some r := H
 have A3 := Aside0.mk A30
 clear A30
 by_cases c4 : t1091 < 0
 ·rw [if_pos c4] at H
  have c4b0 : decide (t1091 < 0) = true := decide_eq_true c4
  clear c4
  obtain rfl := Option.some.inj H
  go_enter Try.func8, Try.ntmps8
  go_wp2_with (first | ((with_reducible refine gc 37 rfl ?_); refine gl (some 16) _ (#[.slice A0 l0.length c0, .int .i64 1048576]) Try.func37 ?_; (with_reducible refine (laws_szStringS.calls k _ _ l0 1048576 t1091 _ ?side1 ?side2 A3.out).mono ?_); (case side1 => exact cb HR0.out); (case side2 => exact HC0.out); rintro e w' ⟨rfl, ⟨nd, rfl⟩⟩; refine ⟨_, rfl, ?_⟩))
  go_ret
  exact ⟨Ye2, be HB.out⟩
 ·rw [if_neg c4] at H
  have c4b0 : decide (t1091 < 0) = false := decide_eq_false c4
  clear c4
  replace H := Option.bind_eq_some_iff.mp H
  obtain ⟨t1092, A50, H⟩ := H
  replace H : (if t1092 < 0 then (some true) else ((laws_toStringS.f k l0).bind fun t1093 => ((laws_toStringS.f k l1).bind fun t1096 => ((spec_Common.f k t1093 t1096).bind fun t1099 => ((laws_toStringS.f k l0).bind fun t1102 => ((laws_toStringS.f k l1).bind fun t1105 => ((impl_Common.f t1102 t1105).bind fun t1108 => ((laws_eqPairS.f k t1108 t1099).bind fun t1111 => (if t1111 = true then ((laws_toStringS.f k l0).bind fun t1112 => ((laws_eqStringS.f k t1102 t1112).bind fun t1115 => (if t1115 = true then ((laws_toStringS.f k l1).bind fun t1116 => ((laws_eqStringS.f k t1105 t1116).bind fun t1119 => (if t1119 = true then ((laws_markStringS.f k t1102 1).bind fun bt1120 => ((laws_markStringS.f k t1105 bt1120.1).bind fun bt1122 => (if bt1122.1 < 0 then (laws_FnExactCommon.j0 k l0 l1 t1099 t1108 true) else ((laws_eqPairS.f k t1108 t1099).bind fun t1124 => (laws_FnExactCommon.j0 k l0 l1 t1099 t1108 (!t1124)))))) else (some false)))) else (some false)))) else (some false)))))))))) = some r := H
  have A5 := Aside0.mk A50
  clear A50
  by_cases c6 : t1092 < 0
  ·rw [if_pos c6] at H
   have c6b0 : decide (t1092 < 0) = true := decide_eq_true c6
   clear c6
   obtain rfl := Option.some.inj H
   go_enter Try.func8, Try.ntmps8
   go_wp2_with (first | ((with_reducible refine gc 37 rfl ?_); refine gl (some 16) _ (#[.slice A0 l0.length c0, .int .i64 1048576]) Try.func37 ?_; (with_reducible refine (laws_szStringS.calls k _ _ l0 1048576 t1091 _ ?side1 ?side2 A3.out).mono ?_); (case side1 => exact cb HR0.out); (case side2 => exact HC0.out); rintro e w' ⟨rfl, ⟨nd, rfl⟩⟩; refine ⟨_, rfl, ?_⟩) | ((with_reducible refine gc 37 rfl ?_); refine gl (some 21) _ (#[.slice A1 l1.length c1, .int .i64 t1091]) Try.func37 ?_; (with_reducible refine (laws_szStringS.calls k _ _ l1 t1091 t1092 _ ?side1 ?side2 A5.out).mono ?_); (case side1 => exact cb HR1.out); (case side2 => exact HC1.out); rintro e w' ⟨rfl, ⟨nd, rfl⟩⟩; refine ⟨_, rfl, ?_⟩))
   go_ret
   exact ⟨Ye2, be HB.out⟩
  ·rw [if_neg c6] at H
   have c6b0 : decide (t1092 < 0) = false := decide_eq_false c6
   clear c6
   replace H := Option.bind_eq_some_iff.mp H
   obtain ⟨t1093, A70, H⟩ := H
   replace H : ((laws_toStringS.f k l1).bind fun t1096 => ((spec_Common.f k t1093 t1096).bind fun t1099 => ((laws_toStringS.f k l0).bind fun t1102 => ((laws_toStringS.f k l1).bind fun t1105 => ((impl_Common.f t1102 t1105).bind fun t1108 => ((laws_eqPairS.f k t1108 t1099).bind fun t1111 => (if t1111 = true then ((laws_toStringS.f k l0).bind fun t1112 => ((laws_eqStringS.f k t1102 t1112).bind fun t1115 => (if t1115 = true then ((laws_toStringS.f k l1).bind fun t1116 => ((laws_eqStringS.f k t1105 t1116).bind fun t1119 => (if t1119 = true then ((laws_markStringS.f k t1102 1).bind fun bt1120 => ((laws_markStringS.f k t1105 bt1120.1).bind fun bt1122 => (if bt1122.1 < 0 then (laws_FnExactCommon.j0 k l0 l1 t1099 t1108 true) else ((laws_eqPairS.f k t1108 t1099).bind fun t1124 => (laws_FnExactCommon.j0 k l0 l1 t1099 t1108 (!t1124)))))) else (some false)))) else (some false)))) else (some false)))))))) = some r := H
   have A7 := Aside0.mk A70
   clear A70
   replace H := Option.bind_eq_some_iff.mp H
   obtain ⟨t1096, A80, H⟩ := H
   replace H : ((spec_Common.f k t1093 t1096).bind fun t1099 => ((laws_toStringS.f k l0).bind fun t1102 => ((laws_toStringS.f k l1).bind fun t1105 => ((impl_Common.f t1102 t1105).bind fun t1108 => ((laws_eqPairS.f k t1108 t1099).bind fun t1111 => (if t1111 = true then ((laws_toStringS.f k l0).bind fun t1112 => ((laws_eqStringS.f k t1102 t1112).bind fun t1115 => (if t1115 = true then ((laws_toStringS.f k l1).bind fun t1116 => ((laws_eqStringS.f k t1105 t1116).bind fun t1119 => (if t1119 = true then ((laws_markStringS.f k t1102 1).bind fun bt1120 => ((laws_markStringS.f k t1105 bt1120.1).bind fun bt1122 => (if bt1122.1 < 0 then (laws_FnExactCommon.j0 k l0 l1 t1099 t1108 true) else ((laws_eqPairS.f k t1108 t1099).bind fun t1124 => (laws_FnExactCommon.j0 k l0 l1 t1099 t1108 (!t1124)))))) else (some false)))) else (some false)))) else (some false))))))) = some r := H
   have A8 := Aside0.mk A80
   clear A80
   replace H := Option.bind_eq_some_iff.mp H
   obtain ⟨t1099, A90, H⟩ := H
   replace H : ((laws_toStringS.f k l0).bind fun t1102 => ((laws_toStringS.f k l1).bind fun t1105 => ((impl_Common.f t1102 t1105).bind fun t1108 => ((laws_eqPairS.f k t1108 t1099).bind fun t1111 => (if t1111 = true then ((laws_toStringS.f k l0).bind fun t1112 => ((laws_eqStringS.f k t1102 t1112).bind fun t1115 => (if t1115 = true then ((laws_toStringS.f k l1).bind fun t1116 => ((laws_eqStringS.f k t1105 t1116).bind fun t1119 => (if t1119 = true then ((laws_markStringS.f k t1102 1).bind fun bt1120 => ((laws_markStringS.f k t1105 bt1120.1).bind fun bt1122 => (if bt1122.1 < 0 then (laws_FnExactCommon.j0 k l0 l1 t1099 t1108 true) else ((laws_eqPairS.f k t1108 t1099).bind fun t1124 => (laws_FnExactCommon.j0 k l0 l1 t1099 t1108 (!t1124)))))) else (some false)))) else (some false)))) else (some false)))))) = some r := H
   have A9 := Aside0.mk A90
   clear A90
   replace H := Option.bind_eq_some_iff.mp H
   obtain ⟨t1102, A100, H⟩ := H
   replace H : ((laws_toStringS.f k l1).bind fun t1105 => ((impl_Common.f t1102 t1105).bind fun t1108 => ((laws_eqPairS.f k t1108 t1099).bind fun t1111 => (if t1111 = true then ((laws_toStringS.f k l0).bind fun t1112 => ((laws_eqStringS.f k t1102 t1112).bind fun t1115 => (if t1115 = true then ((laws_toStringS.f k l1).bind fun t1116 => ((laws_eqStringS.f k t1105 t1116).bind fun t1119 => (if t1119 = true then ((laws_markStringS.f k t1102 1).bind fun bt1120 => ((laws_markStringS.f k t1105 bt1120.1).bind fun bt1122 => (if bt1122.1 < 0 then (laws_FnExactCommon.j0 k l0 l1 t1099 t1108 true) else ((laws_eqPairS.f k t1108 t1099).bind fun t1124 => (laws_FnExactCommon.j0 k l0 l1 t1099 t1108 (!t1124)))))) else (some false)))) else (some false)))) else (some false))))) = some r := H
   have A10 := Aside0.mk A100
   clear A100
   replace H := Option.bind_eq_some_iff.mp H
   obtain ⟨t1105, A110, H⟩ := H
   replace H : ((impl_Common.f t1102 t1105).bind fun t1108 => ((laws_eqPairS.f k t1108 t1099).bind fun t1111 => (if t1111 = true then ((laws_toStringS.f k l0).bind fun t1112 => ((laws_eqStringS.f k t1102 t1112).bind fun t1115 => (if t1115 = true then ((laws_toStringS.f k l1).bind fun t1116 => ((laws_eqStringS.f k t1105 t1116).bind fun t1119 => (if t1119 = true then ((laws_markStringS.f k t1102 1).bind fun bt1120 => ((laws_markStringS.f k t1105 bt1120.1).bind fun bt1122 => (if bt1122.1 < 0 then (laws_FnExactCommon.j0 k l0 l1 t1099 t1108 true) else ((laws_eqPairS.f k t1108 t1099).bind fun t1124 => (laws_FnExactCommon.j0 k l0 l1 t1099 t1108 (!t1124)))))) else (some false)))) else (some false)))) else (some false)))) = some r := H
   have A11 := Aside0.mk A110
   clear A110
   replace H := Option.bind_eq_some_iff.mp H
   obtain ⟨t1108, A120, H⟩ := H
   replace H : ((laws_eqPairS.f k t1108 t1099).bind fun t1111 => (if t1111 = true then ((laws_toStringS.f k l0).bind fun t1112 => ((laws_eqStringS.f k t1102 t1112).bind fun t1115 => (if t1115 = true then ((laws_toStringS.f k l1).bind fun t1116 => ((laws_eqStringS.f k t1105 t1116).bind fun t1119 => (if t1119 = true then ((laws_markStringS.f k t1102 1).bind fun bt1120 => ((laws_markStringS.f k t1105 bt1120.1).bind fun bt1122 => (if bt1122.1 < 0 then (laws_FnExactCommon.j0 k l0 l1 t1099 t1108 true) else ((laws_eqPairS.f k t1108 t1099).bind fun t1124 => (laws_FnExactCommon.j0 k l0 l1 t1099 t1108 (!t1124)))))) else (some false)))) else (some false)))) else (some false))) = some r := H
   have A12 := Aside0.mk A120
   clear A120
   replace H := Option.bind_eq_some_iff.mp H
   obtain ⟨t1111, A130, H⟩ := H
   replace H : (if t1111 = true then ((laws_toStringS.f k l0).bind fun t1112 => ((laws_eqStringS.f k t1102 t1112).bind fun t1115 => (if t1115 = true then ((laws_toStringS.f k l1).bind fun t1116 => ((laws_eqStringS.f k t1105 t1116).bind fun t1119 => (if t1119 = true then ((laws_markStringS.f k t1102 1).bind fun bt1120 => ((laws_markStringS.f k t1105 bt1120.1).bind fun bt1122 => (if bt1122.1 < 0 then (laws_FnExactCommon.j0 k l0 l1 t1099 t1108 true) else ((laws_eqPairS.f k t1108 t1099).bind fun t1124 => (laws_FnExactCommon.j0 k l0 l1 t1099 t1108 (!t1124)))))) else (some false)))) else (some false)))) else (some false)) = some r := H
   have A13 := Aside0.mk A130
   clear A130
   by_cases c14 : t1111 = true
   ·subst c14
    have H1 : ((laws_toStringS.f k l0).bind fun t1112 => ((laws_eqStringS.f k t1102 t1112).bind fun t1115 => (if t1115 = true then ((laws_toStringS.f k l1).bind fun t1116 => ((laws_eqStringS.f k t1105 t1116).bind fun t1119 => (if t1119 = true then ((laws_markStringS.f k t1102 1).bind fun bt1120 => ((laws_markStringS.f k t1105 bt1120.1).bind fun bt1122 => (if bt1122.1 < 0 then (laws_FnExactCommon.j0 k l0 l1 t1099 t1108 true) else ((laws_eqPairS.f k t1108 t1099).bind fun t1124 => (laws_FnExactCommon.j0 k l0 l1 t1099 t1108 (!t1124)))))) else (some false)))) else (some false)))) = some r := by rw [if_pos rfl] at H; exact H
    clear H
    have H := H1
    clear H1
    replace H := Option.bind_eq_some_iff.mp H
    obtain ⟨t1112, A150, H⟩ := H
    replace H : ((laws_eqStringS.f k t1102 t1112).bind fun t1115 => (if t1115 = true then ((laws_toStringS.f k l1).bind fun t1116 => ((laws_eqStringS.f k t1105 t1116).bind fun t1119 => (if t1119 = true then ((laws_markStringS.f k t1102 1).bind fun bt1120 => ((laws_markStringS.f k t1105 bt1120.1).bind fun bt1122 => (if bt1122.1 < 0 then (laws_FnExactCommon.j0 k l0 l1 t1099 t1108 true) else ((laws_eqPairS.f k t1108 t1099).bind fun t1124 => (laws_FnExactCommon.j0 k l0 l1 t1099 t1108 (!t1124)))))) else (some false)))) else (some false))) = some r := H
    have A15 := Aside0.mk A150
    clear A150
    replace H := Option.bind_eq_some_iff.mp H
    obtain ⟨t1115, A160, H⟩ := H
    replace H : (if t1115 = true then ((laws_toStringS.f k l1).bind fun t1116 => ((laws_eqStringS.f k t1105 t1116).bind fun t1119 => (if t1119 = true then ((laws_markStringS.f k t1102 1).bind fun bt1120 => ((laws_markStringS.f k t1105 bt1120.1).bind fun bt1122 => (if bt1122.1 < 0 then (laws_FnExactCommon.j0 k l0 l1 t1099 t1108 true) else ((laws_eqPairS.f k t1108 t1099).bind fun t1124 => (laws_FnExactCommon.j0 k l0 l1 t1099 t1108 (!t1124)))))) else (some false)))) else (some false)) = some r := H
    have A16 := Aside0.mk A160
    clear A160
    by_cases c17 : t1115 = true
    ·subst c17
     have H1 : ((laws_toStringS.f k l1).bind fun t1116 => ((laws_eqStringS.f k t1105 t1116).bind fun t1119 => (if t1119 = true then ((laws_markStringS.f k t1102 1).bind fun bt1120 => ((laws_markStringS.f k t1105 bt1120.1).bind fun bt1122 => (if bt1122.1 < 0 then (laws_FnExactCommon.j0 k l0 l1 t1099 t1108 true) else ((laws_eqPairS.f k t1108 t1099).bind fun t1124 => (laws_FnExactCommon.j0 k l0 l1 t1099 t1108 (!t1124)))))) else (some false)))) = some r := by rw [if_pos rfl] at H; exact H
     clear H
     have H := H1
     clear H1
     replace H := Option.bind_eq_some_iff.mp H
     obtain ⟨t1116, A180, H⟩ := H
     replace H : ((laws_eqStringS.f k t1105 t1116).bind fun t1119 => (if t1119 = true then ((laws_markStringS.f k t1102 1).bind fun bt1120 => ((laws_markStringS.f k t1105 bt1120.1).bind fun bt1122 => (if bt1122.1 < 0 then (laws_FnExactCommon.j0 k l0 l1 t1099 t1108 true) else ((laws_eqPairS.f k t1108 t1099).bind fun t1124 => (laws_FnExactCommon.j0 k l0 l1 t1099 t1108 (!t1124)))))) else (some false))) = some r := H
     have A18 := Aside0.mk A180
     clear A180
     replace H := Option.bind_eq_some_iff.mp H
     obtain ⟨t1119, A190, H⟩ := H
     replace H : (if t1119 = true then ((laws_markStringS.f k t1102 1).bind fun bt1120 => ((laws_markStringS.f k t1105 bt1120.1).bind fun bt1122 => (if bt1122.1 < 0 then (laws_FnExactCommon.j0 k l0 l1 t1099 t1108 true) else ((laws_eqPairS.f k t1108 t1099).bind fun t1124 => (laws_FnExactCommon.j0 k l0 l1 t1099 t1108 (!t1124)))))) else (some false)) = some r := H
     have A19 := Aside0.mk A190
     clear A190
     by_cases c20 : t1119 = true
     ·subst c20
      have H1 : ((laws_markStringS.f k t1102 1).bind fun bt1120 => ((laws_markStringS.f k t1105 bt1120.1).bind fun bt1122 => (if bt1122.1 < 0 then (laws_FnExactCommon.j0 k l0 l1 t1099 t1108 true) else ((laws_eqPairS.f k t1108 t1099).bind fun t1124 => (laws_FnExactCommon.j0 k l0 l1 t1099 t1108 (!t1124)))))) = some r := by rw [if_pos rfl] at H; exact H
      clear H
      have H := H1
      clear H1
      replace H := Option.bind_eq_some_iff.mp H
      obtain ⟨⟨t1120, t1121⟩, A210, H⟩ := H
      replace H : ((laws_markStringS.f k t1105 t1120).bind fun bt1122 => (if bt1122.1 < 0 then (laws_FnExactCommon.j0 k l0 l1 t1099 t1108 true) else ((laws_eqPairS.f k t1108 t1099).bind fun t1124 => (laws_FnExactCommon.j0 k l0 l1 t1099 t1108 (!t1124))))) = some r := H
      have A21 := Aside0.mk A210
      clear A210
      replace H := Option.bind_eq_some_iff.mp H
      obtain ⟨⟨t1122, t1123⟩, A220, H⟩ := H
      replace H : (if t1122 < 0 then (laws_FnExactCommon.j0 k l0 l1 t1099 t1108 true) else ((laws_eqPairS.f k t1108 t1099).bind fun t1124 => (laws_FnExactCommon.j0 k l0 l1 t1099 t1108 (!t1124)))) = some r := H
      have A22 := Aside0.mk A220
      clear A220
      have HC23 := Aside0.mk H
      clear H
      go_enter Try.func8, Try.ntmps8
      go_upto_region 21 with (first | ((with_reducible refine gc 37 rfl ?_); refine gl (some 16) _ (#[.slice A0 l0.length c0, .int .i64 1048576]) Try.func37 ?_; (with_reducible refine (laws_szStringS.calls k _ _ l0 1048576 t1091 _ ?side1 ?side2 A3.out).mono ?_); (case side1 => exact cb HR0.out); (case side2 => exact HC0.out); rintro e w' ⟨rfl, ⟨nd, rfl⟩⟩; refine ⟨_, rfl, ?_⟩) | ((with_reducible refine gc 37 rfl ?_); refine gl (some 21) _ (#[.slice A1 l1.length c1, .int .i64 t1091]) Try.func37 ?_; (with_reducible refine (laws_szStringS.calls k _ _ l1 t1091 t1092 _ ?side1 ?side2 A5.out).mono ?_); (case side1 => exact cb HR1.out); (case side2 => exact HC1.out); rintro e w' ⟨rfl, ⟨nd, rfl⟩⟩; refine ⟨_, rfl, ?_⟩) | ((with_reducible refine gc 39 rfl ?_); refine gl (some 25) _ (#[.slice A0 l0.length c0]) Try.func39 ?_; (with_reducible refine (laws_toStringS.calls k _ _ l0 t1093 _ ?side1 ?side2 A7.out).mono ?_); (case side1 => exact cb HR0.out); (case side2 => exact HC0.out); rintro e w24 ⟨v1094, rfl, ho0, hb⟩; refine ⟨_, rfl, ?_⟩; refine Ya2 (Kd.R_lower ho0 (below_size (be HB.out))) (below_step (be HB.out) hb) ?_; clear HB; intro HO1095 HB; (try clear hb); (try clear hb2); (try clear hk); (try clear hi); (try clear ho0)) | ((with_reducible refine gc 39 rfl ?_); refine gl (some 27) _ (#[.slice A1 l1.length c1]) Try.func39 ?_; (with_reducible refine (laws_toStringS.calls k _ _ l1 t1096 _ ?side1 ?side2 A8.out).mono ?_); (case side1 => exact cb (Kd.C_below HR1.out HB.out)); (case side2 => exact HC1.out); rintro e w25 ⟨v1097, rfl, ho0, hb⟩; refine ⟨_, rfl, ?_⟩; refine Ya3 (Kd.R_elder' (kr HO1095.out) (Kd.R_base ho0) hb) (Kd.R_lower (Kd.R_new' ho0 (Kd.R_lt (kr HO1095.out))) (below_size (be HB.out))) (below_step (be HB.out) hb) ?_; clear HO1095 HB; intro HO1095 HO1098 HB; (try clear hb); (try clear hb2); (try clear hk); (try clear hi); (try clear ho0); obtain ⟨Ao26, co26, eo26⟩ := Kd.R_slice HO1095.out; subst eo26; obtain ⟨Ao27, co27, eo27⟩ := Kd.R_slice HO1098.out; subst eo27) | ((with_reducible refine gc 38 rfl ?_); refine gl (some 28) _ (#[.slice Ao26 t1093.length co26, .slice Ao27 t1096.length co27]) Try.func38 ?_; (with_reducible refine (spec_Common.calls k _ _ t1093 _ _ t1096 t1099 _ ?side1 ?side2 ?side3 ?side4 A9.out).mono ?_); (case side1 => repeat (first | exact (Kd.R_reads' HO1095.out).2.2 | (with_reducible refine Kd.C_alloc ?_ _) | (with_reducible refine Kd.C_drewN ?_ _) | (with_reducible refine Kd.C_drew ?_))); (case side2 => exact (Kd.R_reads' HO1095.out).2.1); (case side3 => repeat (first | exact (Kd.R_reads' HO1098.out).2.2 | (with_reducible refine Kd.C_alloc ?_ _) | (with_reducible refine Kd.C_drewN ?_ _) | (with_reducible refine Kd.C_drew ?_))); (case side4 => exact (Kd.R_reads' HO1098.out).2.1); rintro e w28 ⟨v1100, rfl, ho0, hb⟩; refine ⟨_, rfl, ?_⟩; refine Ya4 (Kd.R_below (kr HO1095.out) hb) (Kd.R_below (kr HO1098.out) hb) (Kd.R_lower ho0 (below_size (be HB.out))) (below_step (be HB.out) hb) ?_; clear HO1095 HO1098 HB; intro HO1095 HO1098 HO1101 HB; (try clear hb); (try clear hb2); (try clear hk); (try clear hi); (try clear ho0)) | ((with_reducible refine gc 39 rfl ?_); refine gl (some 30) _ (#[.slice A0 l0.length c0]) Try.func39 ?_; (with_reducible refine (laws_toStringS.calls k _ _ l0 t1102 _ ?side1 ?side2 A10.out).mono ?_); (case side1 => exact cb (Kd.C_below HR0.out HB.out)); (case side2 => exact HC0.out); rintro e w29 ⟨v1103, rfl, ho0, hb⟩; refine ⟨_, rfl, ?_⟩; refine Ya5 (Kd.R_elder' (kr HO1095.out) (Kd.R_base ho0) hb) (Kd.R_elder' (kr HO1098.out) (Kd.R_base ho0) hb) (Kd.R_below (kr HO1101.out) hb) (Kd.R_lower (Kd.R_new' (Kd.R_new' ho0 (Kd.R_lt (kr HO1095.out))) (Kd.R_lt (kr HO1098.out))) (below_size (be HB.out))) (below_step (be HB.out) hb) ?_; clear HO1095 HO1098 HO1101 HB; intro HO1095 HO1098 HO1101 HO1104 HB; (try clear hb); (try clear hb2); (try clear hk); (try clear hi); (try clear ho0)) | ((with_reducible refine gc 39 rfl ?_); refine gl (some 32) _ (#[.slice A1 l1.length c1]) Try.func39 ?_; (with_reducible refine (laws_toStringS.calls k _ _ l1 t1105 _ ?side1 ?side2 A11.out).mono ?_); (case side1 => exact cb (Kd.C_below HR1.out HB.out)); (case side2 => exact HC1.out); rintro e w30 ⟨v1106, rfl, ho0, hb⟩; refine ⟨_, rfl, ?_⟩; refine Ya6 (Kd.R_elder' (kr HO1095.out) (Kd.R_base ho0) hb) (Kd.R_elder' (kr HO1098.out) (Kd.R_base ho0) hb) (Kd.R_below (kr HO1101.out) hb) (Kd.R_elder' (kr HO1104.out) (Kd.R_base ho0) hb) (Kd.R_lower (Kd.R_new' (Kd.R_new' (Kd.R_new' ho0 (Kd.R_lt (kr HO1095.out))) (Kd.R_lt (kr HO1098.out))) (Kd.R_lt (kr HO1104.out))) (below_size (be HB.out))) (below_step (be HB.out) hb) ?_; clear HO1095 HO1098 HO1101 HO1104 HB; intro HO1095 HO1098 HO1101 HO1104 HO1107 HB; (try clear hb); (try clear hb2); (try clear hk); (try clear hi); (try clear ho0); obtain ⟨Ao31, co31, eo31⟩ := Kd.R_slice HO1104.out; subst eo31; obtain ⟨Ao32, co32, eo32⟩ := Kd.R_slice HO1107.out; subst eo32) | ((with_reducible refine gc 40 rfl ?_); refine gl (some 35) _ (#[.slice Ao31 t1102.length co31, .slice Ao32 t1105.length co32]) Try.func40 ?_; (with_reducible refine (impl_Common.calls _ _ t1102 _ _ t1105 t1108 _ ?side1 ?side2 ?side3 ?side4 A12.out).mono ?_); (case side1 => repeat (first | exact (Kd.R_reads' HO1104.out).2.2 | (with_reducible refine Kd.C_alloc ?_ _) | (with_reducible refine Kd.C_drewN ?_ _) | (with_reducible refine Kd.C_drew ?_))); (case side2 => exact (Kd.R_reads' HO1104.out).2.1); (case side3 => repeat (first | exact (Kd.R_reads' HO1107.out).2.2 | (with_reducible refine Kd.C_alloc ?_ _) | (with_reducible refine Kd.C_drewN ?_ _) | (with_reducible refine Kd.C_drew ?_))); (case side4 => exact (Kd.R_reads' HO1107.out).2.1); rintro e w33 ⟨v1109, rfl, ho0, hb⟩; refine ⟨_, rfl, ?_⟩; refine Ya7 (Kd.R_below (kr HO1095.out) hb) (Kd.R_below (kr HO1098.out) hb) (Kd.R_elder' (kr HO1101.out) (Kd.R_base ho0) hb) (Kd.R_below (kr HO1104.out) hb) (Kd.R_below (kr HO1107.out) hb) (Kd.R_lower (Kd.R_new' ho0 (Kd.R_lt (kr HO1101.out))) (below_size (be HB.out))) (below_step (be HB.out) hb) ?_; clear HO1095 HO1098 HO1101 HO1104 HO1107 HB; intro HO1095 HO1098 HO1101 HO1104 HO1107 HO1110 HB; (try clear hb); (try clear hb2); (try clear hk); (try clear hi); (try clear ho0); obtain ⟨Ao34, co34, eo34⟩ := Kd.R_slice HO1110.out; subst eo34; obtain ⟨Ao35, co35, eo35⟩ := Kd.R_slice HO1101.out; subst eo35) | ((with_reducible refine gc 41 rfl ?_); refine gl (some 38) _ (#[.slice Ao34 t1108.length co34, .slice Ao35 t1099.length co35]) Try.func41 ?_; (with_reducible refine (laws_eqPairS.calls k _ _ t1108 _ _ t1099 true _ ?side1 ?side2 ?side3 ?side4 A13.out).mono ?_); (case side1 => repeat (first | exact (Kd.R_reads' HO1110.out).2.2 | (with_reducible refine Kd.C_alloc ?_ _) | (with_reducible refine Kd.C_drewN ?_ _) | (with_reducible refine Kd.C_drew ?_))); (case side2 => exact (Kd.R_reads' HO1110.out).2.1); (case side3 => repeat (first | exact (Kd.R_reads' HO1101.out).2.2 | (with_reducible refine Kd.C_alloc ?_ _) | (with_reducible refine Kd.C_drewN ?_ _) | (with_reducible refine Kd.C_drew ?_))); (case side4 => exact (Kd.R_reads' HO1101.out).2.1); rintro e w36 ⟨rfl, hb⟩; refine ⟨_, rfl, ?_⟩; refine Ya7 (Kd.R_below (kr HO1095.out) hb) (Kd.R_below (kr HO1098.out) hb) (Kd.R_below (kr HO1101.out) hb) (Kd.R_below (kr HO1104.out) hb) (Kd.R_below (kr HO1107.out) hb) (Kd.R_below (kr HO1110.out) hb) (below_step (be HB.out) hb) ?_; clear HO1095 HO1098 HO1101 HO1104 HO1107 HO1110 HB; intro HO1095 HO1098 HO1101 HO1104 HO1107 HO1110 HB; (try clear hb); (try clear hb2); (try clear hk); (try clear hi)) | ((with_reducible refine gc 39 rfl ?_); refine gl (some 42) _ (#[.slice A0 l0.length c0]) Try.func39 ?_; (with_reducible refine (laws_toStringS.calls k _ _ l0 t1112 _ ?side1 ?side2 A15.out).mono ?_); (case side1 => exact cb (Kd.C_below HR0.out HB.out)); (case side2 => exact HC0.out); rintro e w37 ⟨v1113, rfl, ho0, hb⟩; refine ⟨_, rfl, ?_⟩; refine Ya8 (Kd.R_elder' (kr HO1095.out) (Kd.R_base ho0) hb) (Kd.R_elder' (kr HO1098.out) (Kd.R_base ho0) hb) (Kd.R_below (kr HO1101.out) hb) (Kd.R_elder' (kr HO1104.out) (Kd.R_base ho0) hb) (Kd.R_elder' (kr HO1107.out) (Kd.R_base ho0) hb) (Kd.R_below (kr HO1110.out) hb) (Kd.R_lower (Kd.R_new' (Kd.R_new' (Kd.R_new' (Kd.R_new' ho0 (Kd.R_lt (kr HO1095.out))) (Kd.R_lt (kr HO1098.out))) (Kd.R_lt (kr HO1104.out))) (Kd.R_lt (kr HO1107.out))) (below_size (be HB.out))) (below_step (be HB.out) hb) ?_; clear HO1095 HO1098 HO1101 HO1104 HO1107 HO1110 HB; intro HO1095 HO1098 HO1101 HO1104 HO1107 HO1110 HO1114 HB; (try clear hb); (try clear hb2); (try clear hk); (try clear hi); (try clear ho0); obtain ⟨Ao38, co38, eo38⟩ := Kd.R_slice HO1114.out; subst eo38) | ((with_reducible refine gc 42 rfl ?_); refine gl (some 43) _ (#[.slice Ao31 t1102.length co31, .slice Ao38 t1112.length co38]) Try.func42 ?_; (with_reducible refine (laws_eqStringS.calls k _ _ t1102 _ _ t1112 true _ ?side1 ?side2 ?side3 ?side4 A16.out).mono ?_); (case side1 => repeat (first | exact (Kd.R_reads' HO1104.out).2.2 | (with_reducible refine Kd.C_alloc ?_ _) | (with_reducible refine Kd.C_drewN ?_ _) | (with_reducible refine Kd.C_drew ?_))); (case side2 => exact (Kd.R_reads' HO1104.out).2.1); (case side3 => repeat (first | exact (Kd.R_reads' HO1114.out).2.2 | (with_reducible refine Kd.C_alloc ?_ _) | (with_reducible refine Kd.C_drewN ?_ _) | (with_reducible refine Kd.C_drew ?_))); (case side4 => exact (Kd.R_reads' HO1114.out).2.1); rintro e w' ⟨rfl, ⟨nd, rfl⟩⟩; refine ⟨_, rfl, ?_⟩) | ((with_reducible refine gc 39 rfl ?_); refine gl (some 47) _ (#[.slice A1 l1.length c1]) Try.func39 ?_; (with_reducible refine (laws_toStringS.calls k _ _ l1 t1116 _ ?side1 ?side2 A18.out).mono ?_); (case side1 => repeat (first | exact (Kd.C_below HR1.out (be HB.out)) | (with_reducible refine Kd.C_alloc ?_ _) | (with_reducible refine Kd.C_drewN ?_ _) | (with_reducible refine Kd.C_drew ?_))); (case side2 => exact HC1.out); rintro e w39 ⟨v1117, rfl, ho0, hb⟩; refine ⟨_, rfl, ?_⟩; have n0_ := Aside0.mk (Kd.R_elder' (kr HO1095.out) (Kd.R_base ho0) hb); have n1_ := Aside0.mk (Kd.R_elder' (kr HO1098.out) (Kd.R_base ho0) hb); have n2_ := Aside0.mk (Kd.R_below (kr HO1101.out) hb); have n3_ := Aside0.mk (Kd.R_elder' (kr HO1104.out) (Kd.R_base ho0) hb); have n4_ := Aside0.mk (Kd.R_elder' (kr HO1107.out) (Kd.R_base ho0) hb); have n5_ := Aside0.mk (Kd.R_below (kr HO1110.out) hb); have n6_ := Aside0.mk (Kd.R_elder' (kr HO1114.out) (Kd.R_base ho0) hb); have n7_ := Aside0.mk (Kd.R_lower (Kd.R_new' (Kd.R_new' (Kd.R_new' (Kd.R_new' (Kd.R_new' ho0 (Kd.R_lt (kr HO1095.out))) (Kd.R_lt (kr HO1098.out))) (Kd.R_lt (kr HO1104.out))) (Kd.R_lt (kr HO1107.out))) (Kd.R_lt (kr HO1114.out))) (below_size (be HB.out))); have n8_ := Aside0.mk (below_step (be HB.out) hb); clear HO1095; clear HO1098; clear HO1101; clear HO1104; clear HO1107; clear HO1110; clear HO1114; clear HB; have HO1095 := n0_; have HO1098 := n1_; have HO1101 := n2_; have HO1104 := n3_; have HO1107 := n4_; have HO1110 := n5_; have HO1114 := n6_; have HO1118 := n7_; have HB := n8_; clear n0_ n1_ n2_ n3_ n4_ n5_ n6_ n7_ n8_; (try clear hb); (try clear hb2); (try clear hk); (try clear hi); (try clear ho0); obtain ⟨Ao40, co40, eo40⟩ := Kd.R_slice HO1118.out; subst eo40) | ((with_reducible refine gc 42 rfl ?_); refine gl (some 48) _ (#[.slice Ao32 t1105.length co32, .slice Ao40 t1116.length co40]) Try.func42 ?_; (with_reducible refine (laws_eqStringS.calls k _ _ t1105 _ _ t1116 true _ ?side1 ?side2 ?side3 ?side4 A19.out).mono ?_); (case side1 => repeat (first | exact (Kd.R_reads' HO1107.out).2.2 | (with_reducible refine Kd.C_alloc ?_ _) | (with_reducible refine Kd.C_drewN ?_ _) | (with_reducible refine Kd.C_drew ?_))); (case side2 => exact (Kd.R_reads' HO1107.out).2.1); (case side3 => repeat (first | exact (Kd.R_reads' HO1118.out).2.2 | (with_reducible refine Kd.C_alloc ?_ _) | (with_reducible refine Kd.C_drewN ?_ _) | (with_reducible refine Kd.C_drew ?_))); (case side4 => exact (Kd.R_reads' HO1118.out).2.1); rintro e w' ⟨rfl, ⟨nd, rfl⟩⟩; refine ⟨_, rfl, ?_⟩) | ((with_reducible refine gc 43 rfl ?_); refine gl (some 52) _ (#[.slice Ao31 t1102.length co31, .int .i64 1]) Try.func43 ?_; (with_reducible refine (laws_markStringS.calls k (fun k_ => some k_ = (.slice Ao31 t1102.length co31 : Value).ownBlock) (.slice Ao31 t1102.length co31) t1102 1 t1120 t1121 w _ ?side1 ?side2 A21.out).mono ?_); (case side1 => repeat (first | (with_reducible first | exact HB.out | apply below_alloc | apply pw_below_drewN | apply below_drew1) | exact HB.out)); (case side2 => exact Kd.R_tight rfl HO1104.out); rintro e w41 ⟨rfl, hy0, hb, hkp⟩; refine ⟨_, rfl, ?_⟩; have n0_ := Aside0.mk (Kd.R_mono (ok' := fun k_ => some k_ ≠ (.slice Ao27 t1096.length co27 : Value).ownBlock ∧ some k_ ≠ (.slice Ao31 t1102.length co31 : Value).ownBlock ∧ some k_ ≠ (.slice Ao32 t1105.length co32 : Value).ownBlock ∧ some k_ ≠ (.slice Ao38 t1112.length co38 : Value).ownBlock ∧ some k_ ≠ (.slice Ao40 t1116.length co40 : Value).ownBlock) (Kd.R_keptB (HO1095.out) hkp (fun k_ hk_ hs_ => (hk_.1.1.1.2) hs_)) (fun k_ hk_ => ⟨hk_.1.1.1.1.1.2, hk_.1.1.1.1.2, hk_.1.1.1.2, hk_.1.1.2, hk_.1.2⟩)); have n1_ := Aside0.mk (Kd.R_mono (ok' := fun k_ => some k_ ≠ (.slice Ao26 t1093.length co26 : Value).ownBlock ∧ some k_ ≠ (.slice Ao31 t1102.length co31 : Value).ownBlock ∧ some k_ ≠ (.slice Ao32 t1105.length co32 : Value).ownBlock ∧ some k_ ≠ (.slice Ao38 t1112.length co38 : Value).ownBlock ∧ some k_ ≠ (.slice Ao40 t1116.length co40 : Value).ownBlock) (Kd.R_keptB (HO1098.out) hkp (fun k_ hk_ hs_ => (hk_.1.1.1.2) hs_)) (fun k_ hk_ => ⟨hk_.1.1.1.1.1.2, hk_.1.1.1.1.2, hk_.1.1.1.2, hk_.1.1.2, hk_.1.2⟩)); have n2_ := Aside0.mk (Kd.R_mono (ok' := fun k_ => some k_ ≠ (.slice Ao34 t1108.length co34 : Value).ownBlock) (Kd.R_keptB ((Kd.R_apart' HO1101.out (Kd.R_typed HO1104.out) (by decide))) hkp (fun k_ hk_ hs_ => (hk_.2) hs_)) (fun k_ hk_ => hk_.1.1.2)); have n3_ := Aside0.mk (Kd.R_reok rfl hy0 (fun k_ e_ => HO1104.out.1 k_ e_)); have n4_ := Aside0.mk (Kd.R_mono (ok' := fun k_ => some k_ ≠ (.slice Ao26 t1093.length co26 : Value).ownBlock ∧ some k_ ≠ (.slice Ao27 t1096.length co27 : Value).ownBlock ∧ some k_ ≠ (.slice Ao31 t1102.length co31 : Value).ownBlock ∧ some k_ ≠ (.slice Ao38 t1112.length co38 : Value).ownBlock ∧ some k_ ≠ (.slice Ao40 t1116.length co40 : Value).ownBlock) (Kd.R_keptB (HO1107.out) hkp (fun k_ hk_ hs_ => (hk_.1.1.2) hs_)) (fun k_ hk_ => ⟨hk_.1.1.1.1.1.2, hk_.1.1.1.1.2, hk_.1.1.1.2, hk_.1.1.2, hk_.1.2⟩)); have n5_ := Aside0.mk (Kd.R_mono (ok' := fun k_ => some k_ ≠ (.slice Ao35 t1099.length co35 : Value).ownBlock) (Kd.R_keptB ((Kd.R_apart' HO1110.out (Kd.R_typed HO1104.out) (by decide))) hkp (fun k_ hk_ hs_ => (hk_.2) hs_)) (fun k_ hk_ => hk_.1.1.2)); have n6_ := Aside0.mk (Kd.R_mono (ok' := fun k_ => some k_ ≠ (.slice Ao26 t1093.length co26 : Value).ownBlock ∧ some k_ ≠ (.slice Ao27 t1096.length co27 : Value).ownBlock ∧ some k_ ≠ (.slice Ao31 t1102.length co31 : Value).ownBlock ∧ some k_ ≠ (.slice Ao32 t1105.length co32 : Value).ownBlock ∧ some k_ ≠ (.slice Ao40 t1116.length co40 : Value).ownBlock) (Kd.R_keptB (HO1114.out) hkp (fun k_ hk_ hs_ => (hk_.1.1.2) hs_)) (fun k_ hk_ => ⟨hk_.1.1.1.1.1.2, hk_.1.1.1.1.2, hk_.1.1.1.2, hk_.1.1.2, hk_.1.2⟩)); have n7_ := Aside0.mk (Kd.R_mono (ok' := fun k_ => some k_ ≠ (.slice Ao26 t1093.length co26 : Value).ownBlock ∧ some k_ ≠ (.slice Ao27 t1096.length co27 : Value).ownBlock ∧ some k_ ≠ (.slice Ao31 t1102.length co31 : Value).ownBlock ∧ some k_ ≠ (.slice Ao32 t1105.length co32 : Value).ownBlock ∧ some k_ ≠ (.slice Ao38 t1112.length co38 : Value).ownBlock) (Kd.R_keptB (HO1118.out) hkp (fun k_ hk_ hs_ => (hk_.1.1.2) hs_)) (fun k_ hk_ => ⟨hk_.1.1.1.1.1.2, hk_.1.1.1.1.2, hk_.1.1.1.2, hk_.1.1.2, hk_.1.2⟩)); have n8_ := Aside0.mk (hb); clear HO1095; clear HO1098; clear HO1101; clear HO1104; clear HO1107; clear HO1110; clear HO1114; clear HO1118; clear HB; have HO1095 := n0_; have HO1098 := n1_; have HO1101 := n2_; have HO1104 := n3_; have HO1107 := n4_; have HO1110 := n5_; have HO1114 := n6_; have HO1118 := n7_; have HB := n8_; clear n0_ n1_ n2_ n3_ n4_ n5_ n6_ n7_ n8_; (try clear hb); (try clear hkp); (try clear hy0)) | ((with_reducible refine gc 43 rfl ?_); refine gl (some 55) _ (#[.slice Ao32 t1105.length co32, .int .i64 t1120]) Try.func43 ?_; (with_reducible refine (laws_markStringS.calls k (fun k_ => some k_ = (.slice Ao32 t1105.length co32 : Value).ownBlock) (.slice Ao32 t1105.length co32) t1105 t1120 t1122 t1123 w _ ?side1 ?side2 A22.out).mono ?_); (case side1 => repeat (first | (with_reducible first | exact HB.out | apply below_alloc | apply pw_below_drewN | apply below_drew1) | exact HB.out)); (case side2 => exact Kd.R_tight rfl HO1107.out); rintro e w42 ⟨rfl, hy0, hb, hkp⟩; refine ⟨_, rfl, ?_⟩; have n0_ := Aside0.mk (Kd.R_mono (ok' := fun k_ => some k_ ≠ (.slice Ao27 t1096.length co27 : Value).ownBlock ∧ some k_ ≠ (.slice Ao31 t1102.length co31 : Value).ownBlock ∧ some k_ ≠ (.slice Ao32 t1105.length co32 : Value).ownBlock ∧ some k_ ≠ (.slice Ao38 t1112.length co38 : Value).ownBlock ∧ some k_ ≠ (.slice Ao40 t1116.length co40 : Value).ownBlock) (Kd.R_keptB (HO1095.out) hkp (fun k_ hk_ hs_ => (hk_.2.2.1) hs_)) (fun k_ hk_ => ⟨hk_.1.1, hk_.1.2.1, hk_.1.2.2.1, hk_.1.2.2.2.1, hk_.1.2.2.2.2⟩)); have n1_ := Aside0.mk (Kd.R_mono (ok' := fun k_ => some k_ ≠ (.slice Ao26 t1093.length co26 : Value).ownBlock ∧ some k_ ≠ (.slice Ao31 t1102.length co31 : Value).ownBlock ∧ some k_ ≠ (.slice Ao32 t1105.length co32 : Value).ownBlock ∧ some k_ ≠ (.slice Ao38 t1112.length co38 : Value).ownBlock ∧ some k_ ≠ (.slice Ao40 t1116.length co40 : Value).ownBlock) (Kd.R_keptB (HO1098.out) hkp (fun k_ hk_ hs_ => (hk_.2.2.1) hs_)) (fun k_ hk_ => ⟨hk_.1.1, hk_.1.2.1, hk_.1.2.2.1, hk_.1.2.2.2.1, hk_.1.2.2.2.2⟩)); have n2_ := Aside0.mk (Kd.R_mono (ok' := fun k_ => some k_ ≠ (.slice Ao34 t1108.length co34 : Value).ownBlock) (Kd.R_keptB ((Kd.R_apart' HO1101.out (Kd.R_typed HO1107.out) (by decide))) hkp (fun k_ hk_ hs_ => (hk_.2) hs_)) (fun k_ hk_ => hk_.1.1)); have n3_ := Aside0.mk (Kd.R_mono (ok' := fun k_ => some k_ ≠ (.slice Ao26 t1093.length co26 : Value).ownBlock ∧ some k_ ≠ (.slice Ao27 t1096.length co27 : Value).ownBlock ∧ some k_ ≠ (.slice Ao32 t1105.length co32 : Value).ownBlock ∧ some k_ ≠ (.slice Ao38 t1112.length co38 : Value).ownBlock ∧ some k_ ≠ (.slice Ao40 t1116.length co40 : Value).ownBlock) (Kd.R_keptB (HO1104.out) hkp (fun k_ hk_ hs_ => (hk_.1.1.2) hs_)) (fun k_ hk_ => ⟨hk_.1.1.1.1.1.2, hk_.1.1.1.1.2, hk_.1.1.1.2, hk_.1.1.2, hk_.1.2⟩)); have n4_ := Aside0.mk (Kd.R_reok rfl hy0 (fun k_ e_ => HO1107.out.1 k_ e_)); have n5_ := Aside0.mk (Kd.R_mono (ok' := fun k_ => some k_ ≠ (.slice Ao35 t1099.length co35 : Value).ownBlock) (Kd.R_keptB ((Kd.R_apart' HO1110.out (Kd.R_typed HO1107.out) (by decide))) hkp (fun k_ hk_ hs_ => (hk_.2) hs_)) (fun k_ hk_ => hk_.1.1)); have n6_ := Aside0.mk (Kd.R_mono (ok' := fun k_ => some k_ ≠ (.slice Ao26 t1093.length co26 : Value).ownBlock ∧ some k_ ≠ (.slice Ao27 t1096.length co27 : Value).ownBlock ∧ some k_ ≠ (.slice Ao31 t1102.length co31 : Value).ownBlock ∧ some k_ ≠ (.slice Ao32 t1105.length co32 : Value).ownBlock ∧ some k_ ≠ (.slice Ao40 t1116.length co40 : Value).ownBlock) (Kd.R_keptB (HO1114.out) hkp (fun k_ hk_ hs_ => (hk_.2.2.2.1) hs_)) (fun k_ hk_ => ⟨hk_.1.1, hk_.1.2.1, hk_.1.2.2.1, hk_.1.2.2.2.1, hk_.1.2.2.2.2⟩)); have n7_ := Aside0.mk (Kd.R_mono (ok' := fun k_ => some k_ ≠ (.slice Ao26 t1093.length co26 : Value).ownBlock ∧ some k_ ≠ (.slice Ao27 t1096.length co27 : Value).ownBlock ∧ some k_ ≠ (.slice Ao31 t1102.length co31 : Value).ownBlock ∧ some k_ ≠ (.slice Ao32 t1105.length co32 : Value).ownBlock ∧ some k_ ≠ (.slice Ao38 t1112.length co38 : Value).ownBlock) (Kd.R_keptB (HO1118.out) hkp (fun k_ hk_ hs_ => (hk_.2.2.2.1) hs_)) (fun k_ hk_ => ⟨hk_.1.1, hk_.1.2.1, hk_.1.2.2.1, hk_.1.2.2.2.1, hk_.1.2.2.2.2⟩)); have n8_ := Aside0.mk (hb); clear HO1095; clear HO1098; clear HO1101; clear HO1104; clear HO1107; clear HO1110; clear HO1114; clear HO1118; clear HB; have HO1095 := n0_; have HO1098 := n1_; have HO1101 := n2_; have HO1104 := n3_; have HO1107 := n4_; have HO1110 := n5_; have HO1114 := n6_; have HO1118 := n7_; have HB := n8_; clear n0_ n1_ n2_ n3_ n4_ n5_ n6_ n7_ n8_; (try clear hb); (try clear hkp); (try clear hy0)))
      (try simp only [Act.put, List.setIfInBounds_toArray, List.set_cons_zero, List.set_cons_succ])
      go_cut [63] (fun v63 wc => ∃ (kq : Nat) (x63_22 : Bool), v63 = .bool x63_22 ∧ Aside0 (laws_FnExactCommon.j0 kq l0 l1 t1099 t1108 x63_22 = some r) ∧ Aside0 (kq ≤ k) ∧ Aside0 (Kd.R k69 69 wc w.heap.size (fun k_ => some k_ ≠ ((.slice Ao34 t1108.length co34) : Value).ownBlock) (.slice Ao35 t1099.length co35) t1099) ∧ Aside0 (Kd.R k69 69 wc w.heap.size (fun k_ => some k_ ≠ ((.slice Ao35 t1099.length co35) : Value).ownBlock) (.slice Ao34 t1108.length co34) t1108) ∧ Aside0 (Below w.heap.size w wc))
      case first =>
       have H := HC23.out
       clear HC23
       by_cases c43 : t1122 < 0
       ·rw [if_pos c43] at H
        have c43b0 : decide (t1122 < 0) = true := decide_eq_true c43
        clear c43
        (first | rw [c43b0] | (simp only [i64_w, i32_w]; rw [c43b0]) | skip)
        have H' := Aside0.mk H
        clear H
        go_wp2
        go_meet
        case rel => exact ⟨_, (true), Ye1, H', ⟨by first | omega | exact Nat.le_refl _⟩, ⟨kr HO1101.out⟩, ⟨kr HO1110.out⟩, ⟨be HB.out⟩⟩
       ·rw [if_neg c43] at H
        have c43b0 : decide (t1122 < 0) = false := decide_eq_false c43
        clear c43
        (first | rw [c43b0] | (simp only [i64_w, i32_w]; rw [c43b0]) | skip)
        replace H := Option.bind_eq_some_iff.mp H
        obtain ⟨t1124, A440, H⟩ := H
        replace H : (laws_FnExactCommon.j0 k l0 l1 t1099 t1108 (!t1124)) = some r := H
        have A44 := Aside0.mk A440
        clear A440
        have H' := Aside0.mk H
        clear H
        go_wp2_with (first | (go_at_call 41; (with_reducible refine (laws_eqPairS.calls k _ _ t1108 _ _ t1099 t1124 _ ?side1 ?side2 ?side3 ?side4 A44.out).mono ?_); (case side1 => repeat (first | exact (Kd.R_reads' HO1110.out).2.2 | (with_reducible refine Kd.C_alloc ?_ _) | (with_reducible refine Kd.C_drewN ?_ _) | (with_reducible refine Kd.C_drew ?_))); (case side2 => exact (Kd.R_reads' HO1110.out).2.1); (case side3 => repeat (first | exact (Kd.R_reads' HO1101.out).2.2 | (with_reducible refine Kd.C_alloc ?_ _) | (with_reducible refine Kd.C_drewN ?_ _) | (with_reducible refine Kd.C_drew ?_))); (case side4 => exact (Kd.R_reads' HO1101.out).2.1); rintro e w45 ⟨rfl, hb⟩; have n0_ := Aside0.mk (Kd.R_below (kr HO1095.out) hb); have n1_ := Aside0.mk (Kd.R_below (kr HO1098.out) hb); have n2_ := Aside0.mk (Kd.R_below (kr HO1101.out) hb); have n3_ := Aside0.mk (Kd.R_below (kr HO1104.out) hb); have n4_ := Aside0.mk (Kd.R_below (kr HO1107.out) hb); have n5_ := Aside0.mk (Kd.R_below (kr HO1110.out) hb); have n6_ := Aside0.mk (Kd.R_below (kr HO1114.out) hb); have n7_ := Aside0.mk (Kd.R_below (kr HO1118.out) hb); have n8_ := Aside0.mk (below_step (be HB.out) hb); clear HO1095; clear HO1098; clear HO1101; clear HO1104; clear HO1107; clear HO1110; clear HO1114; clear HO1118; clear HB; have HO1095 := n0_; have HO1098 := n1_; have HO1101 := n2_; have HO1104 := n3_; have HO1107 := n4_; have HO1110 := n5_; have HO1114 := n6_; have HO1118 := n7_; have HB := n8_; clear n0_ n1_ n2_ n3_ n4_ n5_ n6_ n7_ n8_; (try clear hb); (try clear hb2); (try clear hk); (try clear hi)))
        go_meet
        case rel => exact ⟨_, (!t1124), Ye1, H', ⟨by first | omega | exact Nat.le_refl _⟩, ⟨kr HO1101.out⟩, ⟨kr HO1110.out⟩, ⟨be HB.out⟩⟩
      case rest =>
       clear HC23
       try clear c1
       try clear c2
       try clear p2
       try clear c3
       try clear c4
       try clear c4b0
       try clear c6
       try clear c6b0
       try clear c8
       try clear c14
       try clear c17
       try clear c20
       try clear c37
       try clear c38
       try clear c39
       try clear c40
       try clear c41
       try clear c42
       try clear c43
       try clear c43b0
       obtain ⟨kq, x63_22, rfl, HA, HJ22, HO_6, HO_9, HB⟩ := hcut
       cases kq with
       | zero => exact absurd HA.out (by simp [laws_FnExactCommon.j0])
       | succ kj22 =>
        have H := HA.out
        clear HA
        simp only [laws_FnExactCommon.j0] at H
        by_cases c46 : x63_22 = true
        ·subst c46
         have H1 : (some false) = some r := by rw [if_pos rfl] at H; exact H
         clear H
         have H := H1
         clear H1
         exact absurd ((Option.some.inj H).trans hrt) (by decide)
        ·replace c46 := Bool.eq_false_iff.mpr c46
         subst c46
         have H1 : ((laws_markPairS.f kj22 t1108 1).bind fun bt1125 => ((laws_heldPairS.f kj22 bt1125.2 1).bind fun t1127 => (if t1127 < 0 then (some false) else (if t1127 = bt1125.1 then ((laws_toStringS.f kj22 l0).bind fun t1128 => ((laws_toStringS.f kj22 l1).bind fun t1131 => ((impl_Common.f t1128 t1131).bind fun t1134 => ((laws_eqPairS.f kj22 t1134 t1099).bind fun t1137 => (if t1137 = true then ((laws_heldPairS.f kj22 bt1125.2 1).bind fun t1138 => (if t1138 < 0 then (some false) else (if t1138 = bt1125.1 then (some true) else (some false)))) else (some false)))))) else (some false))))) = some r := by rw [if_neg (show ¬ (false = true) by decide)] at H; exact H
         clear H
         have H := H1
         clear H1
         replace H := Option.bind_eq_some_iff.mp H
         obtain ⟨⟨t1125, t1126⟩, A470, H⟩ := H
         replace H : ((laws_heldPairS.f kj22 t1126 1).bind fun t1127 => (if t1127 < 0 then (some false) else (if t1127 = t1125 then ((laws_toStringS.f kj22 l0).bind fun t1128 => ((laws_toStringS.f kj22 l1).bind fun t1131 => ((impl_Common.f t1128 t1131).bind fun t1134 => ((laws_eqPairS.f kj22 t1134 t1099).bind fun t1137 => (if t1137 = true then ((laws_heldPairS.f kj22 t1126 1).bind fun t1138 => (if t1138 < 0 then (some false) else (if t1138 = t1125 then (some true) else (some false)))) else (some false)))))) else (some false)))) = some r := H
         have A47 := Aside0.mk A470
         clear A470
         replace H := Option.bind_eq_some_iff.mp H
         obtain ⟨t1127, A480, H⟩ := H
         replace H : (if t1127 < 0 then (some false) else (if t1127 = t1125 then ((laws_toStringS.f kj22 l0).bind fun t1128 => ((laws_toStringS.f kj22 l1).bind fun t1131 => ((impl_Common.f t1128 t1131).bind fun t1134 => ((laws_eqPairS.f kj22 t1134 t1099).bind fun t1137 => (if t1137 = true then ((laws_heldPairS.f kj22 t1126 1).bind fun t1138 => (if t1138 < 0 then (some false) else (if t1138 = t1125 then (some true) else (some false)))) else (some false)))))) else (some false))) = some r := H
         have A48 := Aside0.mk A480
         clear A480
         by_cases c49 : t1127 < 0
         ·rw [if_pos c49] at H
          have c49b0 : decide (t1127 < 0) = true := decide_eq_true c49
          clear c49
          exact absurd ((Option.some.inj H).trans hrt) (by decide)
         ·rw [if_neg c49] at H
          have c49b0 : decide (t1127 < 0) = false := decide_eq_false c49
          clear c49
          by_cases c51 : t1127 = t1125
          ·rw [if_pos c51] at H
           have c51b0 : (t1127 == t1125) = true := beq_iff_eq.mpr c51
           have c51b1 : (t1127 != t1125) = false := bne_eq_false_iff_eq.mpr c51
           clear c51
           replace H := Option.bind_eq_some_iff.mp H
           obtain ⟨t1128, A520, H⟩ := H
           replace H : ((laws_toStringS.f kj22 l1).bind fun t1131 => ((impl_Common.f t1128 t1131).bind fun t1134 => ((laws_eqPairS.f kj22 t1134 t1099).bind fun t1137 => (if t1137 = true then ((laws_heldPairS.f kj22 t1126 1).bind fun t1138 => (if t1138 < 0 then (some false) else (if t1138 = t1125 then (some true) else (some false)))) else (some false))))) = some r := H
           have A52 := Aside0.mk A520
           clear A520
           replace H := Option.bind_eq_some_iff.mp H
           obtain ⟨t1131, A530, H⟩ := H
           replace H : ((impl_Common.f t1128 t1131).bind fun t1134 => ((laws_eqPairS.f kj22 t1134 t1099).bind fun t1137 => (if t1137 = true then ((laws_heldPairS.f kj22 t1126 1).bind fun t1138 => (if t1138 < 0 then (some false) else (if t1138 = t1125 then (some true) else (some false)))) else (some false)))) = some r := H
           have A53 := Aside0.mk A530
           clear A530
           replace H := Option.bind_eq_some_iff.mp H
           obtain ⟨t1134, A540, H⟩ := H
           replace H : ((laws_eqPairS.f kj22 t1134 t1099).bind fun t1137 => (if t1137 = true then ((laws_heldPairS.f kj22 t1126 1).bind fun t1138 => (if t1138 < 0 then (some false) else (if t1138 = t1125 then (some true) else (some false)))) else (some false))) = some r := H
           have A54 := Aside0.mk A540
           clear A540
           replace H := Option.bind_eq_some_iff.mp H
           obtain ⟨t1137, A550, H⟩ := H
           replace H : (if t1137 = true then ((laws_heldPairS.f kj22 t1126 1).bind fun t1138 => (if t1138 < 0 then (some false) else (if t1138 = t1125 then (some true) else (some false)))) else (some false)) = some r := H
           have A55 := Aside0.mk A550
           clear A550
           by_cases c56 : t1137 = true
           ·subst c56
            have H1 : ((laws_heldPairS.f kj22 t1126 1).bind fun t1138 => (if t1138 < 0 then (some false) else (if t1138 = t1125 then (some true) else (some false)))) = some r := by rw [if_pos rfl] at H; exact H
            clear H
            have H := H1
            clear H1
            replace H := Option.bind_eq_some_iff.mp H
            obtain ⟨t1138, A570, H⟩ := H
            replace H : (if t1138 < 0 then (some false) else (if t1138 = t1125 then (some true) else (some false))) = some r := H
            have A57 := Aside0.mk A570
            clear A570
            by_cases c58 : t1138 < 0
            ·rw [if_pos c58] at H
             have c58b0 : decide (t1138 < 0) = true := decide_eq_true c58
             clear c58
             exact absurd ((Option.some.inj H).trans hrt) (by decide)
            ·rw [if_neg c58] at H
             have c58b0 : decide (t1138 < 0) = false := decide_eq_false c58
             clear c58
             by_cases c67 : t1138 = t1125
             ·rw [if_pos c67] at H
              have c67b0 : (t1138 == t1125) = true := beq_iff_eq.mpr c67
              have c67b1 : (t1138 != t1125) = false := bne_eq_false_iff_eq.mpr c67
              clear c67
              obtain rfl := Option.some.inj H
              go_wp2_with (first | ((with_reducible refine gc 44 rfl ?_); refine gl (some 66) _ (#[.slice Ao34 t1108.length co34, .int .i64 1]) Try.func44 ?_; (with_reducible refine (laws_markPairS.calls kj22 (fun k_ => some k_ = (.slice Ao34 t1108.length co34 : Value).ownBlock) (.slice Ao34 t1108.length co34) t1108 1 t1125 t1126 w _ ?side1 ?side2 A47.out).mono ?_); (case side1 => repeat (first | (with_reducible first | exact HB.out | apply below_alloc | apply pw_below_drewN | apply below_drew1) | exact HB.out)); (case side2 => exact Kd.R_tight rfl HO_9.out); rintro e w68 ⟨rfl, hy0, hb, hkp⟩; refine ⟨_, rfl, ?_⟩; refine Ya3 (Kd.R_mono (ok' := fun k_ => some k_ ≠ (.slice Ao34 t1108.length co34 : Value).ownBlock) (Kd.R_keptB (HO_6.out) hkp (fun k_ hk_ hs_ => (hk_) hs_)) (fun k_ hk_ => hk_.1)) (Kd.R_reok rfl hy0 (fun k_ e_ => HO_9.out.1 k_ e_)) (hb) ?_; clear HO_6 HO_9 HB; intro HO_6 HO_9 HB; (try clear hb); (try clear hkp); (try clear hy0)) | ((with_reducible refine gc 45 rfl ?_); refine goesL_ (some 69) rfl rfl Try.func45 (by kernel_rfl) rfl #[.slice Ao34 t1126.length co34, .int .i64 1] rfl (by (try simp only [List.map_toArray, List.map_cons, List.map_nil]); first | done | (rw [show t1126.length = t1108.length from (Kd.R_reads' HO_9.out).1.symm] <;> rfl) | rfl | (simp only [List.length_drop, List.length_take]; rfl)) ?_; (with_reducible refine (laws_heldPairS.calls kj22 _ _ t1126 1 t1127 _ ?side1 ?side2 A48.out).mono ?_); (case side1 => repeat (first | exact (Kd.R_reads' HO_9.out).2.2 | (with_reducible refine Kd.C_alloc ?_ _) | (with_reducible refine Kd.C_drewN ?_ _) | (with_reducible refine Kd.C_drew ?_))); (case side2 => rw [show t1126.length = t1108.length from (Kd.R_reads' HO_9.out).1.symm]; exact (Kd.R_reads' HO_9.out).2.1); rintro e w' ⟨rfl, ⟨nd, rfl⟩⟩; refine ⟨_, rfl, ?_⟩) | ((with_reducible refine gc 39 rfl ?_); refine gl (some 76) _ (#[.slice A0 l0.length c0]) Try.func39 ?_; (with_reducible refine (laws_toStringS.calls kj22 _ _ l0 t1128 _ ?side1 ?side2 A52.out).mono ?_); (case side1 => repeat (first | exact (Kd.C_below HR0.out (be HB.out)) | (with_reducible refine Kd.C_alloc ?_ _) | (with_reducible refine Kd.C_drewN ?_ _) | (with_reducible refine Kd.C_drew ?_))); (case side2 => exact HC0.out); rintro e w69 ⟨v1129, rfl, ho0, hb⟩; refine ⟨_, rfl, ?_⟩; refine Ya4 (Kd.R_below (kr HO_6.out) hb) (Kd.R_below (kr HO_9.out) hb) (Kd.R_lower ho0 (below_size (be HB.out))) (below_step (be HB.out) hb) ?_; clear HO_6 HO_9 HB; intro HO_6 HO_9 HO1130 HB; (try clear hb); (try clear hb2); (try clear hk); (try clear hi); (try clear ho0)) | ((with_reducible refine gc 39 rfl ?_); refine gl (some 78) _ (#[.slice A1 l1.length c1]) Try.func39 ?_; (with_reducible refine (laws_toStringS.calls kj22 _ _ l1 t1131 _ ?side1 ?side2 A53.out).mono ?_); (case side1 => exact cb (Kd.C_below HR1.out HB.out)); (case side2 => exact HC1.out); rintro e w70 ⟨v1132, rfl, ho0, hb⟩; refine ⟨_, rfl, ?_⟩; refine Ya5 (Kd.R_below (kr HO_6.out) hb) (Kd.R_below (kr HO_9.out) hb) (Kd.R_elder' (kr HO1130.out) (Kd.R_base ho0) hb) (Kd.R_lower (Kd.R_new' ho0 (Kd.R_lt (kr HO1130.out))) (below_size (be HB.out))) (below_step (be HB.out) hb) ?_; clear HO_6 HO_9 HO1130 HB; intro HO_6 HO_9 HO1130 HO1133 HB; (try clear hb); (try clear hb2); (try clear hk); (try clear hi); (try clear ho0); obtain ⟨Ao71, co71, eo71⟩ := Kd.R_slice HO1130.out; subst eo71; obtain ⟨Ao72, co72, eo72⟩ := Kd.R_slice HO1133.out; subst eo72) | ((with_reducible refine gc 40 rfl ?_); refine gl (some 79) _ (#[.slice Ao71 t1128.length co71, .slice Ao72 t1131.length co72]) Try.func40 ?_; (with_reducible refine (impl_Common.calls _ _ t1128 _ _ t1131 t1134 _ ?side1 ?side2 ?side3 ?side4 A54.out).mono ?_); (case side1 => repeat (first | exact (Kd.R_reads' HO1130.out).2.2 | (with_reducible refine Kd.C_alloc ?_ _) | (with_reducible refine Kd.C_drewN ?_ _) | (with_reducible refine Kd.C_drew ?_))); (case side2 => exact (Kd.R_reads' HO1130.out).2.1); (case side3 => repeat (first | exact (Kd.R_reads' HO1133.out).2.2 | (with_reducible refine Kd.C_alloc ?_ _) | (with_reducible refine Kd.C_drewN ?_ _) | (with_reducible refine Kd.C_drew ?_))); (case side4 => exact (Kd.R_reads' HO1133.out).2.1); rintro e w73 ⟨v1135, rfl, ho0, hb⟩; refine ⟨_, rfl, ?_⟩; refine Ya6 (Kd.R_elder' (kr HO_6.out) (Kd.R_base ho0) hb) (Kd.R_elder' (kr HO_9.out) (Kd.R_base ho0) hb) (Kd.R_below (kr HO1130.out) hb) (Kd.R_below (kr HO1133.out) hb) (Kd.R_lower (Kd.R_new' (Kd.R_new' ho0 (Kd.R_lt (kr HO_6.out))) (Kd.R_lt (kr HO_9.out))) (below_size (be HB.out))) (below_step (be HB.out) hb) ?_; clear HO_6 HO_9 HO1130 HO1133 HB; intro HO_6 HO_9 HO1130 HO1133 HO1136 HB; (try clear hb); (try clear hb2); (try clear hk); (try clear hi); (try clear ho0); obtain ⟨Ao74, co74, eo74⟩ := Kd.R_slice HO1136.out; subst eo74) | ((with_reducible refine gc 41 rfl ?_); refine gl (some 82) _ (#[.slice Ao74 t1134.length co74, .slice Ao35 t1099.length co35]) Try.func41 ?_; (with_reducible refine (laws_eqPairS.calls kj22 _ _ t1134 _ _ t1099 true _ ?side1 ?side2 ?side3 ?side4 A55.out).mono ?_); (case side1 => repeat (first | exact (Kd.R_reads' HO1136.out).2.2 | (with_reducible refine Kd.C_alloc ?_ _) | (with_reducible refine Kd.C_drewN ?_ _) | (with_reducible refine Kd.C_drew ?_))); (case side2 => exact (Kd.R_reads' HO1136.out).2.1); (case side3 => repeat (first | exact (Kd.R_reads' HO_6.out).2.2 | (with_reducible refine Kd.C_alloc ?_ _) | (with_reducible refine Kd.C_drewN ?_ _) | (with_reducible refine Kd.C_drew ?_))); (case side4 => exact (Kd.R_reads' HO_6.out).2.1); rintro e w75 ⟨rfl, hb⟩; refine ⟨_, rfl, ?_⟩; refine Ya6 (Kd.R_below (kr HO_6.out) hb) (Kd.R_below (kr HO_9.out) hb) (Kd.R_below (kr HO1130.out) hb) (Kd.R_below (kr HO1133.out) hb) (Kd.R_below (kr HO1136.out) hb) (below_step (be HB.out) hb) ?_; clear HO_6 HO_9 HO1130 HO1133 HO1136 HB; intro HO_6 HO_9 HO1130 HO1133 HO1136 HB; (try clear hb); (try clear hb2); (try clear hk); (try clear hi)) | ((with_reducible refine gc 45 rfl ?_); refine goesL_ (some 86) rfl rfl Try.func45 (by kernel_rfl) rfl #[.slice Ao34 t1126.length co34, .int .i64 1] rfl (by (try simp only [List.map_toArray, List.map_cons, List.map_nil]); first | done | (rw [show t1126.length = t1108.length from (Kd.R_reads' HO_9.out).1.symm] <;> rfl) | rfl | (simp only [List.length_drop, List.length_take]; rfl)) ?_; (with_reducible refine (laws_heldPairS.calls kj22 _ _ t1126 1 t1138 _ ?side1 ?side2 A57.out).mono ?_); (case side1 => repeat (first | exact (Kd.R_reads' HO_9.out).2.2 | (with_reducible refine Kd.C_alloc ?_ _) | (with_reducible refine Kd.C_drewN ?_ _) | (with_reducible refine Kd.C_drew ?_))); (case side2 => rw [show t1126.length = t1108.length from (Kd.R_reads' HO_9.out).1.symm]; exact (Kd.R_reads' HO_9.out).2.1); rintro e w' ⟨rfl, ⟨nd, rfl⟩⟩; refine ⟨_, rfl, ?_⟩))
              go_ret
              exact ⟨Ye2, be HB.out⟩
             ·rw [if_neg c67] at H
              have c67b0 : (t1138 == t1125) = false := beq_eq_false_iff_ne.mpr c67
              have c67b1 : (t1138 != t1125) = true := bne_iff_ne.mpr c67
              obtain rfl := Option.some.inj H
              go_wp2_with (first | ((with_reducible refine gc 44 rfl ?_); refine gl (some 66) _ (#[.slice Ao34 t1108.length co34, .int .i64 1]) Try.func44 ?_; (with_reducible refine (laws_markPairS.calls kj22 (fun k_ => some k_ = (.slice Ao34 t1108.length co34 : Value).ownBlock) (.slice Ao34 t1108.length co34) t1108 1 t1125 t1126 w _ ?side1 ?side2 A47.out).mono ?_); (case side1 => repeat (first | (with_reducible first | exact HB.out | apply below_alloc | apply pw_below_drewN | apply below_drew1) | exact HB.out)); (case side2 => exact Kd.R_tight rfl HO_9.out); rintro e w76 ⟨rfl, hy0, hb, hkp⟩; refine ⟨_, rfl, ?_⟩; refine Ya3 (Kd.R_mono (ok' := fun k_ => some k_ ≠ (.slice Ao34 t1108.length co34 : Value).ownBlock) (Kd.R_keptB (HO_6.out) hkp (fun k_ hk_ hs_ => (hk_) hs_)) (fun k_ hk_ => hk_.1)) (Kd.R_reok rfl hy0 (fun k_ e_ => HO_9.out.1 k_ e_)) (hb) ?_; clear HO_6 HO_9 HB; intro HO_6 HO_9 HB; (try clear hb); (try clear hkp); (try clear hy0)) | ((with_reducible refine gc 45 rfl ?_); refine goesL_ (some 69) rfl rfl Try.func45 (by kernel_rfl) rfl #[.slice Ao34 t1126.length co34, .int .i64 1] rfl (by (try simp only [List.map_toArray, List.map_cons, List.map_nil]); first | done | (rw [show t1126.length = t1108.length from (Kd.R_reads' HO_9.out).1.symm] <;> rfl) | rfl | (simp only [List.length_drop, List.length_take]; rfl)) ?_; (with_reducible refine (laws_heldPairS.calls kj22 _ _ t1126 1 t1127 _ ?side1 ?side2 A48.out).mono ?_); (case side1 => repeat (first | exact (Kd.R_reads' HO_9.out).2.2 | (with_reducible refine Kd.C_alloc ?_ _) | (with_reducible refine Kd.C_drewN ?_ _) | (with_reducible refine Kd.C_drew ?_))); (case side2 => rw [show t1126.length = t1108.length from (Kd.R_reads' HO_9.out).1.symm]; exact (Kd.R_reads' HO_9.out).2.1); rintro e w' ⟨rfl, ⟨nd, rfl⟩⟩; refine ⟨_, rfl, ?_⟩) | ((with_reducible refine gc 39 rfl ?_); refine gl (some 76) _ (#[.slice A0 l0.length c0]) Try.func39 ?_; (with_reducible refine (laws_toStringS.calls kj22 _ _ l0 t1128 _ ?side1 ?side2 A52.out).mono ?_); (case side1 => repeat (first | exact (Kd.C_below HR0.out (be HB.out)) | (with_reducible refine Kd.C_alloc ?_ _) | (with_reducible refine Kd.C_drewN ?_ _) | (with_reducible refine Kd.C_drew ?_))); (case side2 => exact HC0.out); rintro e w77 ⟨v1129, rfl, ho0, hb⟩; refine ⟨_, rfl, ?_⟩; refine Ya4 (Kd.R_below (kr HO_6.out) hb) (Kd.R_below (kr HO_9.out) hb) (Kd.R_lower ho0 (below_size (be HB.out))) (below_step (be HB.out) hb) ?_; clear HO_6 HO_9 HB; intro HO_6 HO_9 HO1130 HB; (try clear hb); (try clear hb2); (try clear hk); (try clear hi); (try clear ho0)) | ((with_reducible refine gc 39 rfl ?_); refine gl (some 78) _ (#[.slice A1 l1.length c1]) Try.func39 ?_; (with_reducible refine (laws_toStringS.calls kj22 _ _ l1 t1131 _ ?side1 ?side2 A53.out).mono ?_); (case side1 => exact cb (Kd.C_below HR1.out HB.out)); (case side2 => exact HC1.out); rintro e w78 ⟨v1132, rfl, ho0, hb⟩; refine ⟨_, rfl, ?_⟩; refine Ya5 (Kd.R_below (kr HO_6.out) hb) (Kd.R_below (kr HO_9.out) hb) (Kd.R_elder' (kr HO1130.out) (Kd.R_base ho0) hb) (Kd.R_lower (Kd.R_new' ho0 (Kd.R_lt (kr HO1130.out))) (below_size (be HB.out))) (below_step (be HB.out) hb) ?_; clear HO_6 HO_9 HO1130 HB; intro HO_6 HO_9 HO1130 HO1133 HB; (try clear hb); (try clear hb2); (try clear hk); (try clear hi); (try clear ho0); obtain ⟨Ao79, co79, eo79⟩ := Kd.R_slice HO1130.out; subst eo79; obtain ⟨Ao80, co80, eo80⟩ := Kd.R_slice HO1133.out; subst eo80) | ((with_reducible refine gc 40 rfl ?_); refine gl (some 79) _ (#[.slice Ao79 t1128.length co79, .slice Ao80 t1131.length co80]) Try.func40 ?_; (with_reducible refine (impl_Common.calls _ _ t1128 _ _ t1131 t1134 _ ?side1 ?side2 ?side3 ?side4 A54.out).mono ?_); (case side1 => repeat (first | exact (Kd.R_reads' HO1130.out).2.2 | (with_reducible refine Kd.C_alloc ?_ _) | (with_reducible refine Kd.C_drewN ?_ _) | (with_reducible refine Kd.C_drew ?_))); (case side2 => exact (Kd.R_reads' HO1130.out).2.1); (case side3 => repeat (first | exact (Kd.R_reads' HO1133.out).2.2 | (with_reducible refine Kd.C_alloc ?_ _) | (with_reducible refine Kd.C_drewN ?_ _) | (with_reducible refine Kd.C_drew ?_))); (case side4 => exact (Kd.R_reads' HO1133.out).2.1); rintro e w81 ⟨v1135, rfl, ho0, hb⟩; refine ⟨_, rfl, ?_⟩; refine Ya6 (Kd.R_elder' (kr HO_6.out) (Kd.R_base ho0) hb) (Kd.R_elder' (kr HO_9.out) (Kd.R_base ho0) hb) (Kd.R_below (kr HO1130.out) hb) (Kd.R_below (kr HO1133.out) hb) (Kd.R_lower (Kd.R_new' (Kd.R_new' ho0 (Kd.R_lt (kr HO_6.out))) (Kd.R_lt (kr HO_9.out))) (below_size (be HB.out))) (below_step (be HB.out) hb) ?_; clear HO_6 HO_9 HO1130 HO1133 HB; intro HO_6 HO_9 HO1130 HO1133 HO1136 HB; (try clear hb); (try clear hb2); (try clear hk); (try clear hi); (try clear ho0); obtain ⟨Ao82, co82, eo82⟩ := Kd.R_slice HO1136.out; subst eo82) | ((with_reducible refine gc 41 rfl ?_); refine gl (some 82) _ (#[.slice Ao82 t1134.length co82, .slice Ao35 t1099.length co35]) Try.func41 ?_; (with_reducible refine (laws_eqPairS.calls kj22 _ _ t1134 _ _ t1099 true _ ?side1 ?side2 ?side3 ?side4 A55.out).mono ?_); (case side1 => repeat (first | exact (Kd.R_reads' HO1136.out).2.2 | (with_reducible refine Kd.C_alloc ?_ _) | (with_reducible refine Kd.C_drewN ?_ _) | (with_reducible refine Kd.C_drew ?_))); (case side2 => exact (Kd.R_reads' HO1136.out).2.1); (case side3 => repeat (first | exact (Kd.R_reads' HO_6.out).2.2 | (with_reducible refine Kd.C_alloc ?_ _) | (with_reducible refine Kd.C_drewN ?_ _) | (with_reducible refine Kd.C_drew ?_))); (case side4 => exact (Kd.R_reads' HO_6.out).2.1); rintro e w83 ⟨rfl, hb⟩; refine ⟨_, rfl, ?_⟩; refine Ya6 (Kd.R_below (kr HO_6.out) hb) (Kd.R_below (kr HO_9.out) hb) (Kd.R_below (kr HO1130.out) hb) (Kd.R_below (kr HO1133.out) hb) (Kd.R_below (kr HO1136.out) hb) (below_step (be HB.out) hb) ?_; clear HO_6 HO_9 HO1130 HO1133 HO1136 HB; intro HO_6 HO_9 HO1130 HO1133 HO1136 HB; (try clear hb); (try clear hb2); (try clear hk); (try clear hi)) | ((with_reducible refine gc 45 rfl ?_); refine goesL_ (some 86) rfl rfl Try.func45 (by kernel_rfl) rfl #[.slice Ao34 t1126.length co34, .int .i64 1] rfl (by (try simp only [List.map_toArray, List.map_cons, List.map_nil]); first | done | (rw [show t1126.length = t1108.length from (Kd.R_reads' HO_9.out).1.symm] <;> rfl) | rfl | (simp only [List.length_drop, List.length_take]; rfl)) ?_; (with_reducible refine (laws_heldPairS.calls kj22 _ _ t1126 1 t1138 _ ?side1 ?side2 A57.out).mono ?_); (case side1 => repeat (first | exact (Kd.R_reads' HO_9.out).2.2 | (with_reducible refine Kd.C_alloc ?_ _) | (with_reducible refine Kd.C_drewN ?_ _) | (with_reducible refine Kd.C_drew ?_))); (case side2 => rw [show t1126.length = t1108.length from (Kd.R_reads' HO_9.out).1.symm]; exact (Kd.R_reads' HO_9.out).2.1); rintro e w' ⟨rfl, ⟨nd, rfl⟩⟩; refine ⟨_, rfl, ?_⟩))
              go_ret
              exact ⟨Ye2, be HB.out⟩
           ·replace c56 := Bool.eq_false_iff.mpr c56
            subst c56
            have H1 : (some false) = some r := by rw [if_neg (show ¬ (false = true) by decide)] at H; exact H
            clear H
            have H := H1
            clear H1
            exact absurd ((Option.some.inj H).trans hrt) (by decide)
          ·rw [if_neg c51] at H
           have c51b0 : (t1127 == t1125) = false := beq_eq_false_iff_ne.mpr c51
           have c51b1 : (t1127 != t1125) = true := bne_iff_ne.mpr c51
           exact absurd ((Option.some.inj H).trans hrt) (by decide)
     ·replace c20 := Bool.eq_false_iff.mpr c20
      subst c20
      have H1 : (some false) = some r := by rw [if_neg (show ¬ (false = true) by decide)] at H; exact H
      clear H
      have H := H1
      clear H1
      exact absurd ((Option.some.inj H).trans hrt) (by decide)
    ·replace c17 := Bool.eq_false_iff.mpr c17
     subst c17
     have H1 : (some false) = some r := by rw [if_neg (show ¬ (false = true) by decide)] at H; exact H
     clear H
     have H := H1
     clear H1
     exact absurd ((Option.some.inj H).trans hrt) (by decide)
   ·replace c14 := Bool.eq_false_iff.mpr c14
    subst c14
    have H1 : (some false) = some r := by rw [if_neg (show ¬ (false = true) by decide)] at H; exact H
    clear H
    have H := H1
    clear H1
    exact absurd ((Option.some.inj H).trans hrt) (by decide)
end Go.Proofs.Ytnndpbkcldkbgaa.P
