/- The row of the law FnExactValidValue: called with any arguments in whatever memory, it returns true and leaves its arguments as they were. No condition beside the row's own. -/
import Derived.Test.YtgaibeckblmbbaaRows
import Derived.Test.YtgaibeckblmbbaaPLawsFnExactValidValue
import Derived.Test.YtgaibeckblmbbaaPureFnExactValidValue
import Derived.Test.YtgaibeckblmbbaaOpens
import Derived.WalkKit
import Derived.ProofKit
import Derived.OpenShut
import Derived.ShutString
import Derived.ChangeOld
import Derived.Below
import Derived.SizedLaws
import Derived.Carry
namespace Go.Proofs.Ytgaibeckblmbbaa.fnExactValidValue
open Go.ChangeShapes Go.WideShapes Go.ChangeAt Go.RowKit Go.Proofs.Ytgaibeckblmbbaa Go.Proofs.YtgaibeckblmbbaaW.PrintWords Go.Proofs.YtgaibeckblmbbaaW.PrintLast Go.Proofs.Ytgaibeckblmbbaa.P Go.Proofs.Ytgaibeckblmbbaa.Pure
open Go.ChangeMaps (open_string shut_string)
set_option linter.unusedVariables false
theorem own : ownKnob Try.prog.godebug = none := by kernel_rfl
theorem laidOut : laidOutB Try.prog = true := by kernel_rfl
theorem op99 : Ow.Opens Try.prog 99 k99 Small99 :=
  Ow.opens_struct (d := (Kd.pair (Kd.int .i64) (Kd.pair (Kd.int .i64) (Kd.pair Kd.string (Kd.int .i64))))) (f := fun x : S99 => (x.f0, x.f1, x.f2, x.f3)) (g := fun y => ⟨y.1, y.2.1, y.2.2.1, y.2.2.2⟩) Try.underlying99 (by kernel_rfl) (fun _ => rfl) (Ow.opensF_cons rfl (by kernel_rfl) (Ow.opens_int Try.underlying3) (Ow.opensF_cons rfl (by kernel_rfl) (Ow.opens_int Try.underlying2) (Ow.opensF_cons rfl (by kernel_rfl) (Ow.opens_string Try.underlying9) (Ow.opensF_last rfl (by kernel_rfl) (Ow.opens_int Try.underlying3)))))
theorem opA0 : Ow.Opens Try.prog 55 (Kd.iso (Kd.slice 99 k99) id) (fun y => y.length * 40 ≤ 140737488351232 ∧ ∀ x_ ∈ y, Small99 x_) :=
  Ow.opens_struct (f := id) (g := id) Try.underlying55 (by kernel_rfl) (fun _ => rfl) (Ow.opensF_last rfl (by kernel_rfl) (Ow.opens_slice (e := 99) (B := 40) Try.underlying53 (by kernel_rfl) (by kernel_rfl) op99))
set_option maxRecDepth 100000 in
theorem lifted (os : Os) (started : os.Started) (H : Type) (enc : TypeId × Value → H) :
    ReturnsInHanded {} Try.checked os 10 .any (Rows.fnExactValidValueSpec.pre6 enc Try.prog Try.f10 Rows.fnExactValidValueRow.domain false) (Rows.fnExactValidValueSpec.post enc Try.prog Try.f10 false true false false) := by
  refine returnsInHanded_of_change_sized (C := Try.checked) own started (by kernel_rfl) Try.func10
    (ChangeSpec.witness6 (enc := enc) (C := Try.checked) false ⟨#[], #[.agg #[.slice none 0 0]], []⟩ 8 (by kernel_rfl) (by kernel_rfl) (by kernel_rfl) (by kernel_rfl)) ?_
  intro W base args ds gs before hval0 hW hcnd hsz0 _
  have hsz : (DataW.weightsEach Try.prog (Try.f10.params.toList ++ Rows.fnExactValidValueSpec.plain.varTypes Try.prog) (ds ++ gs)).all (· ≤ reachBytes) = true := hsz0
  have hval : ∀ (j : Nat) t v, Try.f10.params[j]? = some t → args[j]? = some v → Value.okWide Try.prog W .any base t v := hval0
  have hW' := hW
  obtain ⟨p, q, hA0, hV, rfl, hfz, hnd⟩ := hW
  have hA : DataW.TrodAll enc Try.prog W 0 (fun _ => true) true Try.f10.params.toList args.toList ds p := hA0
  rw [Try.params10] at hA hval hsz
  obtain ⟨v0, vs0, d0, ds0, p0, q0, hargs, rfl, rfl, h0, r0⟩ := trodAll_cons hA
  obtain ⟨rfl, rfl, rfl⟩ := trodAll_nil r0
  obtain rfl : args = #[v0] := by cases args; simp_all
  obtain ⟨rfl, rfl⟩ := trodVars_none hV
  have k0 := h0
  have lt0 := Ow.places_lt h0
  obtain ⟨cs0, y0, rfl, hK0, w0⟩ := Ow.open_agg opA0 Try.underlying55 (hval 0 55 v0 rfl rfl) h0 (Ow.weights_of hsz (j := 0) (t := 55) rfl rfl)
  obtain ⟨l0_0, hy0⟩ : ∃ z, z = y0 := ⟨_, rfl⟩
  subst hy0
  obtain ⟨A0_0, c0_0, ec0, hl0_0, hC0_0⟩ : ∃ A0_0 c0_0, cs0 = #[.slice A0_0 l0_0.length c0_0] ∧ l0_0.length ≤ c0_0 ∧ Kd.C k99 W A0_0 l0_0.length l0_0 := by
    obtain ⟨A0_0, c0_0, he0, hl0_0, hC0_0⟩ := hK0
    exact ⟨A0_0, c0_0, Array.toList_inj.1 he0, hl0_0, hC0_0⟩
  subst ec0
  clear hA0 hval0 hsz0 hsz
  obtain ⟨k, hk⟩ := Pure.FnExactValidValue l0_0 w0
  refine (laws_FnExactValidValue.calls k A0_0 c0_0 l0_0 true W hC0_0 hl0_0 hk).mono fun e W' ⟨he, bel0⟩ => ?_
  have bel : Below W.heap.size W W' := bel0
  subst he
  exact ⟨_, rfl, _, _, _, [], _, [], hW', trodAll_mk1 (shut_bool Try.underlying4 _), (trodAll_cons_mk (Below.trod laidOut (by kernel_rfl) (of_decide_eq_true (by kernel_rfl)) k0 bel lt0) trodAll_mk0), rfl, bel.frame _, fun h => by cases h⟩
theorem over : Rows.fnExactValidValueRow.holds Try.pinned (OpenSpec.ofChange Rows.fnExactValidValueSpec) :=
  OpenClaim.holds_of_wide 10 Try.f10 rfl rfl rfl rfl rfl rfl rfl ⟨rfl, rfl, rfl, rfl, rfl⟩ rfl rfl rfl rfl rfl (by kernel_rfl) Try.func10 (by kernel_rfl)
    (of_decide_eq_true (by kernel_rfl)) (by unfold Func.isWrapper; first | (rw [if_pos (by decide +kernel)]; kernel_rfl) | (rw [if_neg (by decide +kernel)]; exact ⟨rfl, rfl⟩))
    (fun os started H enc _ => lifted os started H enc)
theorem proved : Rows.FnExactValidValueSaid := over
end Go.Proofs.Ytgaibeckblmbbaa.fnExactValidValue
namespace Go.Proofs.Ytgaibeckblmbbaa
/-- The row, under a short name, for the claim. -/
theorem fnExactValidValue_holds : Rows.FnExactValidValueSaid := fnExactValidValue.proved
end Go.Proofs.Ytgaibeckblmbbaa
