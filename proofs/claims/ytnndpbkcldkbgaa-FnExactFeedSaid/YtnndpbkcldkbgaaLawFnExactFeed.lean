/- The row of the law FnExactFeed: called with any arguments in whatever memory, it returns true and leaves its arguments as they were. No condition beside the row's own. -/
import Derived.Test.YtnndpbkcldkbgaaRows
import Derived.Test.YtnndpbkcldkbgaaPLawsFnExactFeed
import Derived.Test.YtnndpbkcldkbgaaPureFnExactFeed
import Derived.Test.YtnndpbkcldkbgaaOpens
import Derived.WalkKit
import Derived.ProofKit
import Derived.OpenShut
import Derived.ShutString
import Derived.ChangeOld
import Derived.Below
import Derived.SizedLaws
import Derived.Carry
namespace Go.Proofs.Ytnndpbkcldkbgaa.fnExactFeed
open Go.ChangeShapes Go.WideShapes Go.ChangeAt Go.RowKit Go.Proofs.Ytnndpbkcldkbgaa Go.Proofs.YtnndpbkcldkbgaaW.PrintWords Go.Proofs.YtnndpbkcldkbgaaW.PrintLast Go.Proofs.Ytnndpbkcldkbgaa.P Go.Proofs.Ytnndpbkcldkbgaa.Pure
open Go.ChangeMaps (open_string shut_string)
set_option linter.unusedVariables false
theorem own : ownKnob Try.prog.godebug = none := by kernel_rfl
theorem laidOut : laidOutB Try.prog = true := by kernel_rfl
theorem opA0 : Ow.Opens Try.prog 43 (Kd.iso (Kd.pair (Kd.int .i64) (Kd.pair Kd.string (Kd.pair (Kd.slice 9 Kd.string) Kd.bool))) id) (fun y => ((Lit.int .i64 y.1).wf = true) ∧ ((y.2.1.size ≤ 140737488351232) ∧ ((y.2.2.1.length * 16 ≤ 140737488351232 ∧ ∀ x_ ∈ y.2.2.1, x_.size ≤ 140737488351232) ∧ (True)))) :=
  Ow.opens_struct (f := id) (g := id) Try.underlying43 (by kernel_rfl) (fun _ => rfl) (Ow.opensF_cons rfl (by kernel_rfl) (Ow.opens_int Try.underlying3) (Ow.opensF_cons rfl (by kernel_rfl) (Ow.opens_string Try.underlying9) (Ow.opensF_cons rfl (by kernel_rfl) (Ow.opens_slice (e := 9) (B := 16) Try.underlying41 (by kernel_rfl) (by kernel_rfl) (Ow.opens_string Try.underlying9)) (Ow.opensF_last rfl (by kernel_rfl) (Ow.opens_bool Try.underlying4)))))
set_option maxRecDepth 100000 in
theorem lifted (os : Os) (started : os.Started) (H : Type) (enc : TypeId × Value → H) :
    ReturnsInHanded {} Try.checked os 6 .any (Rows.fnExactFeedSpec.pre6 enc Try.prog Try.f6 Rows.fnExactFeedRow.domain false) (Rows.fnExactFeedSpec.post enc Try.prog Try.f6 false true false false) := by
  refine returnsInHanded_of_change_sized (C := Try.checked) own started (by kernel_rfl) Try.func6
    (ChangeSpec.witness6 (enc := enc) (C := Try.checked) false ⟨#[], #[.agg #[.int .i64 0, .string ByteArray.empty, .slice none 0 0, .bool false], .string ByteArray.empty], []⟩ 8 (by kernel_rfl) (by kernel_rfl) (by kernel_rfl) (by kernel_rfl)) ?_
  intro W base args ds gs before hval0 hW hcnd hsz0 _
  have hsz : (DataW.weightsEach Try.prog (Try.f6.params.toList ++ Rows.fnExactFeedSpec.plain.varTypes Try.prog) (ds ++ gs)).all (· ≤ reachBytes) = true := hsz0
  have hval : ∀ (j : Nat) t v, Try.f6.params[j]? = some t → args[j]? = some v → Value.okWide Try.prog W .any base t v := hval0
  have hW' := hW
  obtain ⟨p, q, hA0, hV, rfl, hfz, hnd⟩ := hW
  have hA : DataW.TrodAll enc Try.prog W 0 (fun _ => true) true Try.f6.params.toList args.toList ds p := hA0
  rw [Try.params6] at hA hval hsz
  obtain ⟨v0, vs0, d0, ds0, p0, q0, hargs, rfl, rfl, h0, r0⟩ := trodAll_cons hA
  obtain ⟨v1, vs1, d1, ds1, p1, q1, rfl, rfl, rfl, h1, r1⟩ := trodAll_cons r0
  obtain ⟨rfl, rfl, rfl⟩ := trodAll_nil r1
  obtain rfl : args = #[v0, v1] := by cases args; simp_all
  obtain ⟨rfl, rfl⟩ := trodVars_none hV
  have k0 := h0
  have lt0 := Ow.places_lt h0
  obtain ⟨cs0, y0, rfl, hK0, w0⟩ := Ow.open_agg opA0 Try.underlying43 (hval 0 43 v0 rfl rfl) h0 (Ow.weights_of hsz (j := 0) (t := 43) rfl rfl)
  obtain ⟨a0_0, a0_1, l0_2, a0_3⟩ := y0
  obtain ⟨A0_2, c0_2, ec0, hl0_2, hC0_2⟩ : ∃ A0_2 c0_2, cs0 = #[.int .i64 a0_0, .string a0_1, .slice A0_2 l0_2.length c0_2, .bool a0_3] ∧ l0_2.length ≤ c0_2 ∧ Kd.C Kd.string W A0_2 l0_2.length l0_2 := by
    obtain ⟨_, _, he0, rfl, ⟨_, _, rfl, rfl, ⟨_, _, rfl, ⟨A0_2, c0_2, rfl, hl0_2, hC0_2⟩, rfl⟩⟩⟩ := hK0
    exact ⟨A0_2, c0_2, Array.toList_inj.1 he0, hl0_2, hC0_2⟩
  subst ec0
  obtain ⟨a1, rfl, rfl, rfl, y1⟩ := open_string Try.underlying9 (hval 1 9 v1 rfl rfl) h1
  have w1 : a1.size ≤ 140737488351232 := by
    have z := sized_string hsz (j := 1) (t := 9) rfl rfl
    rw [Array.length_toList] at z
    exact z
  clear hA0 hval0 hsz0 hsz
  obtain ⟨k, hk⟩ := Pure.FnExactFeed a0_0 a0_1 l0_2 a0_3 a1 w0 w1
  refine (laws_FnExactFeed.calls k a0_0 a0_1 A0_2 c0_2 l0_2 a0_3 a1 true W hC0_2 hl0_2 hk rfl).mono fun e W' ⟨he, bel0⟩ => ?_
  have bel : Below W.heap.size W W' := bel0
  subst he
  exact ⟨_, rfl, _, _, _, [], _, [], hW', trodAll_mk1 (shut_bool Try.underlying4 _), (trodAll_cons_mk (Below.trod laidOut (by kernel_rfl) (of_decide_eq_true (by kernel_rfl)) k0 bel lt0) (trodAll_cons_mk (shut_string Try.underlying9 y1) trodAll_mk0)), rfl, bel.frame _, fun h => by cases h⟩
theorem over : Rows.fnExactFeedRow.holds Try.pinned (OpenSpec.ofChange Rows.fnExactFeedSpec) :=
  OpenClaim.holds_of_wide 6 Try.f6 rfl rfl rfl rfl rfl rfl rfl ⟨rfl, rfl, rfl, rfl, rfl⟩ rfl rfl rfl rfl rfl (by kernel_rfl) Try.func6 (by kernel_rfl)
    (of_decide_eq_true (by kernel_rfl)) (by unfold Func.isWrapper; first | (rw [if_pos (by decide +kernel)]; kernel_rfl) | (rw [if_neg (by decide +kernel)]; exact ⟨rfl, rfl⟩))
    (fun os started H enc _ => lifted os started H enc)
theorem proved : Rows.FnExactFeedSaid := over
end Go.Proofs.Ytnndpbkcldkbgaa.fnExactFeed
namespace Go.Proofs.Ytnndpbkcldkbgaa
/-- The row, under a short name, for the claim. -/
theorem fnExactFeed_holds : Rows.FnExactFeedSaid := fnExactFeed.proved
end Go.Proofs.Ytnndpbkcldkbgaa
