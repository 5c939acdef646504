/- The row of the law FnFrames: called with any arguments in whatever memory, it returns true and leaves its arguments as they were. No condition beside the row's own. -/
import Derived.Test.YtknagppkeodggaaRows
import Derived.Test.YtknagppkeodggaaM8
import Derived.Test.YtknagppkeodggaaM9
import Derived.Test.YtknagppkeodggaaM3
import Derived.WalkKit
import Derived.ProofKit
import Derived.OpenShut
import Derived.ShutString
import Derived.ChangeOld
import Derived.Below
import Derived.SizedLaws
import Derived.Carry
namespace Go.Proofs.Ytknagppkeodggaa.fnFrames
open Go.ChangeShapes Go.WideShapes Go.ChangeAt Go.RowKit Go.Proofs.Ytknagppkeodggaa Go.Proofs.YtknagppkeodggaaW.PrintWords Go.Proofs.YtknagppkeodggaaW.PrintLast Go.Proofs.Ytknagppkeodggaa.P Go.Proofs.Ytknagppkeodggaa.Pure
open Go.ChangeMaps (open_string shut_string)
set_option linter.unusedVariables false
theorem own : ownKnob Try.prog.godebug = none := by kernel_rfl
theorem laidOut : laidOutB Try.prog = true := by kernel_rfl
theorem opA0 : Ow.Opens Try.prog 22 (Kd.slice 5 (Kd.int .u8)) (fun y => y.length * 1 ≤ 140737488351232 ∧ ∀ x_ ∈ y, (Lit.int .u8 x_).wf = true) := (Ow.opens_slice (e := 5) (B := 1) Try.underlying22 (by kernel_rfl) (by kernel_rfl) (Ow.opens_int Try.underlying5))
theorem opA1 : Ow.Opens Try.prog 22 (Kd.slice 5 (Kd.int .u8)) (fun y => y.length * 1 ≤ 140737488351232 ∧ ∀ x_ ∈ y, (Lit.int .u8 x_).wf = true) := (Ow.opens_slice (e := 5) (B := 1) Try.underlying22 (by kernel_rfl) (by kernel_rfl) (Ow.opens_int Try.underlying5))
set_option maxRecDepth 100000 in
theorem lifted (os : Os) (started : os.Started) (H : Type) (enc : TypeId × Value → H) :
    ReturnsInHanded {} Try.checked os 3 .any (Rows.fnFramesSpec.pre6 enc Try.prog Try.f3 Rows.fnFramesRow.domain false) (Rows.fnFramesSpec.post enc Try.prog Try.f3 false true false false) := by
  refine returnsInHanded_of_change_sized (C := Try.checked) own started (by kernel_rfl) Try.func3
    (ChangeSpec.witness6 (enc := enc) (C := Try.checked) false ⟨#[], #[.slice none 0 0, .slice none 0 0], []⟩ 8 (by kernel_rfl) (by kernel_rfl) (by kernel_rfl) (by kernel_rfl)) ?_
  intro W base args ds gs before hval0 hW hcnd hsz0 _
  have hsz : (DataW.weightsEach Try.prog (Try.f3.params.toList ++ Rows.fnFramesSpec.plain.varTypes Try.prog) (ds ++ gs)).all (· ≤ reachBytes) = true := hsz0
  have hval : ∀ (j : Nat) t v, Try.f3.params[j]? = some t → args[j]? = some v → Value.okWide Try.prog W .any base t v := hval0
  have hW' := hW
  obtain ⟨p, q, hA0, hV, rfl, hfz, hnd⟩ := hW
  have hA : DataW.TrodAll enc Try.prog W 0 (fun _ => true) true Try.f3.params.toList args.toList ds p := hA0
  rw [Try.params3] at hA hval hsz
  obtain ⟨v0, vs0, d0, ds0, p0, q0, hargs, rfl, rfl, h0, r0⟩ := trodAll_cons hA
  obtain ⟨v1, vs1, d1, ds1, p1, q1, rfl, rfl, rfl, h1, r1⟩ := trodAll_cons r0
  obtain ⟨rfl, rfl, rfl⟩ := trodAll_nil r1
  obtain rfl : args = #[v0, v1] := by cases args; simp_all
  obtain ⟨rfl, rfl⟩ := trodVars_none hV
  have k0 := h0
  have lt0 := Ow.places_lt h0
  obtain ⟨A0, c0, l0, rfl, hl0, hC0, w0⟩ := Ow.open_row opA0 Try.underlying22 (hval 0 22 v0 rfl rfl) h0 (Ow.weights_of hsz (j := 0) (t := 22) rfl rfl)
  have k1 := h1
  have lt1 := Ow.places_lt h1
  obtain ⟨A1, c1, l1, rfl, hl1, hC1, w1⟩ := Ow.open_row opA1 Try.underlying22 (hval 1 22 v1 rfl rfl) h1 (Ow.weights_of hsz (j := 1) (t := 22) rfl rfl)
  clear hA0 hval0 hsz0 hsz
  obtain ⟨k, hk⟩ := Pure.FnFrames l0 l1 w0 w1
  refine (laws_FnFrames.calls k A0 c0 l0 A1 c1 l1 true W hC0 hl0 hC1 hl1 hk rfl).mono fun e W' ⟨he, bel0⟩ => ?_
  have bel : Below W.heap.size W W' := bel0
  subst he
  exact ⟨_, rfl, _, _, _, [], _, [], hW', trodAll_mk1 (shut_bool Try.underlying4 _), (trodAll_cons_mk (Below.trod laidOut (by kernel_rfl) (of_decide_eq_true (by kernel_rfl)) k0 bel lt0) (trodAll_cons_mk (Below.trod laidOut (by kernel_rfl) (of_decide_eq_true (by kernel_rfl)) k1 bel lt1) trodAll_mk0)), rfl, bel.frame _, fun h => by cases h⟩
/-- The row's closed facts, each a lemma of its own (all at once they want more memory than there is, over a great program). -/
theorem and_ {a b : Bool} (h : a = true) (k : b = true) : (a && b) = true := by rw [h, k]; rfl
set_option maxHeartbeats 20000000 in
theorem closedFacts : joinedFacts Try.pinned.checked.prog 3 Try.f3 Rows.fnFramesSpec Rows.fnFramesRow = true := by
  unfold joinedFacts
  repeat' (with_reducible refine and_ ?_ ?_)
  all_goals (as_aux_lemma => kernel_rfl)
theorem over : Rows.fnFramesRow.holds Try.pinned (OpenSpec.ofChange Rows.fnFramesSpec) :=
  OpenClaim.holds_of_wide 3 Try.f3 rfl rfl rfl rfl rfl rfl rfl ⟨rfl, rfl, rfl, rfl, rfl⟩ rfl rfl rfl rfl rfl (by kernel_rfl) Try.func3 closedFacts
    (of_decide_eq_true (by kernel_rfl)) (by unfold Func.isWrapper; first | (rw [if_pos (by decide +kernel)]; kernel_rfl) | (rw [if_neg (by decide +kernel)]; exact ⟨rfl, rfl⟩))
    (fun os started H enc _ => lifted os started H enc)
theorem proved : Rows.FnFramesSaid := over
end Go.Proofs.Ytknagppkeodggaa.fnFrames
namespace Go.Proofs.Ytknagppkeodggaa
/-- The row, under a short name, for the claim. -/
theorem fnFrames_holds : Rows.FnFramesSaid := fnFrames.proved
end Go.Proofs.Ytknagppkeodggaa
