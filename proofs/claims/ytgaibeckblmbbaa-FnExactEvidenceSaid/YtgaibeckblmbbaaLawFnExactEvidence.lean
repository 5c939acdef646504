/- The row of the law FnExactEvidence: called with any arguments in whatever memory, it returns true and leaves its arguments as they were. No condition beside the row's own. -/
import Derived.Test.YtgaibeckblmbbaaRows
import Derived.Test.YtgaibeckblmbbaaPLawsFnExactEvidence
import Derived.Test.YtgaibeckblmbbaaPureFnExactEvidence
import Derived.Test.YtgaibeckblmbbaaOpens
import Derived.WalkKit
import Derived.ProofKit
import Derived.OpenShut
import Derived.ShutString
import Derived.ChangeOld
import Derived.Below
import Derived.SizedLaws
import Derived.Carry
namespace Go.Proofs.Ytgaibeckblmbbaa.fnExactEvidence
open Go.ChangeShapes Go.WideShapes Go.ChangeAt Go.RowKit Go.Proofs.Ytgaibeckblmbbaa Go.Proofs.YtgaibeckblmbbaaW.PrintWords Go.Proofs.YtgaibeckblmbbaaW.PrintLast Go.Proofs.Ytgaibeckblmbbaa.P Go.Proofs.Ytgaibeckblmbbaa.Pure
open Go.ChangeMaps (open_string shut_string)
set_option linter.unusedVariables false
theorem own : ownKnob Try.prog.godebug = none := by kernel_rfl
theorem laidOut : laidOutB Try.prog = true := by kernel_rfl
theorem opA0 : Ow.Opens Try.prog 38 (Kd.iso (Kd.pair (Kd.slice 9 Kd.string) (Kd.pair Kd.bool Kd.string)) id) (fun y => (y.1.length * 16 ≤ 140737488351232 ∧ ∀ x_ ∈ y.1, x_.size ≤ 140737488351232) ∧ ((True) ∧ (y.2.2.size ≤ 140737488351232))) :=
  Ow.opens_struct (f := id) (g := id) Try.underlying38 (by kernel_rfl) (fun _ => rfl) (Ow.opensF_cons rfl (by kernel_rfl) (Ow.opens_slice (e := 9) (B := 16) Try.underlying25 (by kernel_rfl) (by kernel_rfl) (Ow.opens_string Try.underlying9)) (Ow.opensF_cons rfl (by kernel_rfl) (Ow.opens_bool Try.underlying4) (Ow.opensF_last rfl (by kernel_rfl) (Ow.opens_string Try.underlying9))))
theorem opA1 : Ow.Opens Try.prog 38 (Kd.iso (Kd.pair (Kd.slice 9 Kd.string) (Kd.pair Kd.bool Kd.string)) id) (fun y => (y.1.length * 16 ≤ 140737488351232 ∧ ∀ x_ ∈ y.1, x_.size ≤ 140737488351232) ∧ ((True) ∧ (y.2.2.size ≤ 140737488351232))) :=
  Ow.opens_struct (f := id) (g := id) Try.underlying38 (by kernel_rfl) (fun _ => rfl) (Ow.opensF_cons rfl (by kernel_rfl) (Ow.opens_slice (e := 9) (B := 16) Try.underlying25 (by kernel_rfl) (by kernel_rfl) (Ow.opens_string Try.underlying9)) (Ow.opensF_cons rfl (by kernel_rfl) (Ow.opens_bool Try.underlying4) (Ow.opensF_last rfl (by kernel_rfl) (Ow.opens_string Try.underlying9))))
set_option maxRecDepth 100000 in
theorem lifted (os : Os) (started : os.Started) (H : Type) (enc : TypeId × Value → H) :
    ReturnsInHanded {} Try.checked os 8 .any (Rows.fnExactEvidenceSpec.pre6 enc Try.prog Try.f8 Rows.fnExactEvidenceRow.domain false) (Rows.fnExactEvidenceSpec.post enc Try.prog Try.f8 false true false false) := by
  refine returnsInHanded_of_change_sized (C := Try.checked) own started (by kernel_rfl) Try.func8
    (ChangeSpec.witness6 (enc := enc) (C := Try.checked) false ⟨#[], #[.agg #[.slice none 0 0, .bool false, .string ByteArray.empty], .agg #[.slice none 0 0, .bool false, .string ByteArray.empty], .int .i64 0], []⟩ 8 (by kernel_rfl) (by kernel_rfl) (by kernel_rfl) (by kernel_rfl)) ?_
  intro W base args ds gs before hval0 hW hcnd hsz0 _
  have hsz : (DataW.weightsEach Try.prog (Try.f8.params.toList ++ Rows.fnExactEvidenceSpec.plain.varTypes Try.prog) (ds ++ gs)).all (· ≤ reachBytes) = true := hsz0
  have hval : ∀ (j : Nat) t v, Try.f8.params[j]? = some t → args[j]? = some v → Value.okWide Try.prog W .any base t v := hval0
  have hW' := hW
  obtain ⟨p, q, hA0, hV, rfl, hfz, hnd⟩ := hW
  have hA : DataW.TrodAll enc Try.prog W 0 (fun _ => true) true Try.f8.params.toList args.toList ds p := hA0
  rw [Try.params8] at hA hval hsz
  obtain ⟨v0, vs0, d0, ds0, p0, q0, hargs, rfl, rfl, h0, r0⟩ := trodAll_cons hA
  obtain ⟨v1, vs1, d1, ds1, p1, q1, rfl, rfl, rfl, h1, r1⟩ := trodAll_cons r0
  obtain ⟨v2, vs2, d2, ds2, p2, q2, rfl, rfl, rfl, h2, r2⟩ := trodAll_cons r1
  obtain ⟨rfl, rfl, rfl⟩ := trodAll_nil r2
  obtain rfl : args = #[v0, v1, v2] := by cases args; simp_all
  obtain ⟨rfl, rfl⟩ := trodVars_none hV
  have k0 := h0
  have lt0 := Ow.places_lt h0
  obtain ⟨cs0, y0, rfl, hK0, w0⟩ := Ow.open_agg opA0 Try.underlying38 (hval 0 38 v0 rfl rfl) h0 (Ow.weights_of hsz (j := 0) (t := 38) rfl rfl)
  obtain ⟨l0_0, a0_1, a0_2⟩ := y0
  obtain ⟨A0_0, c0_0, ec0, hl0_0, hC0_0⟩ : ∃ A0_0 c0_0, cs0 = #[.slice A0_0 l0_0.length c0_0, .bool a0_1, .string a0_2] ∧ l0_0.length ≤ c0_0 ∧ Kd.C Kd.string W A0_0 l0_0.length l0_0 := by
    obtain ⟨_, _, he0, ⟨A0_0, c0_0, rfl, hl0_0, hC0_0⟩, ⟨_, _, rfl, rfl, rfl⟩⟩ := hK0
    exact ⟨A0_0, c0_0, Array.toList_inj.1 he0, hl0_0, hC0_0⟩
  subst ec0
  have k1 := h1
  have lt1 := Ow.places_lt h1
  obtain ⟨cs1, y1, rfl, hK1, w1⟩ := Ow.open_agg opA1 Try.underlying38 (hval 1 38 v1 rfl rfl) h1 (Ow.weights_of hsz (j := 1) (t := 38) rfl rfl)
  obtain ⟨l1_0, a1_1, a1_2⟩ := y1
  obtain ⟨A1_0, c1_0, ec1, hl1_0, hC1_0⟩ : ∃ A1_0 c1_0, cs1 = #[.slice A1_0 l1_0.length c1_0, .bool a1_1, .string a1_2] ∧ l1_0.length ≤ c1_0 ∧ Kd.C Kd.string W A1_0 l1_0.length l1_0 := by
    obtain ⟨_, _, he1, ⟨A1_0, c1_0, rfl, hl1_0, hC1_0⟩, ⟨_, _, rfl, rfl, rfl⟩⟩ := hK1
    exact ⟨A1_0, c1_0, Array.toList_inj.1 he1, hl1_0, hC1_0⟩
  subst ec1
  obtain ⟨a2, rfl, rfl, rfl, w2⟩ := open_int Try.underlying3 (hval 2 3 v2 rfl rfl) h2
  clear hA0 hval0 hsz0 hsz
  obtain ⟨k, hk⟩ := Pure.FnExactEvidence l0_0 a0_1 a0_2 l1_0 a1_1 a1_2 a2 w0 w1 w2
  refine (laws_FnExactEvidence.calls k A0_0 c0_0 l0_0 a0_1 a0_2 A1_0 c1_0 l1_0 a1_1 a1_2 a2 true W hC0_0 hl0_0 hC1_0 hl1_0 hk).mono fun e W' ⟨he, bel0⟩ => ?_
  have bel : Below W.heap.size W W' := bel0
  subst he
  exact ⟨_, rfl, _, _, _, [], _, [], hW', trodAll_mk1 (shut_bool Try.underlying4 _), (trodAll_cons_mk (Below.trod laidOut (by kernel_rfl) (of_decide_eq_true (by kernel_rfl)) k0 bel lt0) (trodAll_cons_mk (Below.trod laidOut (by kernel_rfl) (of_decide_eq_true (by kernel_rfl)) k1 bel lt1) (trodAll_cons_mk (shut_int Try.underlying3 w2) trodAll_mk0))), rfl, bel.frame _, fun h => by cases h⟩
theorem over : Rows.fnExactEvidenceRow.holds Try.pinned (OpenSpec.ofChange Rows.fnExactEvidenceSpec) :=
  OpenClaim.holds_of_wide 8 Try.f8 rfl rfl rfl rfl rfl rfl rfl ⟨rfl, rfl, rfl, rfl, rfl⟩ rfl rfl rfl rfl rfl (by kernel_rfl) Try.func8 (by kernel_rfl)
    (of_decide_eq_true (by kernel_rfl)) (by unfold Func.isWrapper; first | (rw [if_pos (by decide +kernel)]; kernel_rfl) | (rw [if_neg (by decide +kernel)]; exact ⟨rfl, rfl⟩))
    (fun os started H enc _ => lifted os started H enc)
theorem proved : Rows.FnExactEvidenceSaid := over
end Go.Proofs.Ytgaibeckblmbbaa.fnExactEvidence
namespace Go.Proofs.Ytgaibeckblmbbaa
/-- The row, under a short name, for the claim. -/
theorem fnExactEvidence_holds : Rows.FnExactEvidenceSaid := fnExactEvidence.proved
end Go.Proofs.Ytgaibeckblmbbaa
