/- The row of the law FnExactJoin: called with any arguments in whatever memory, it returns true and leaves its arguments as they were. No condition beside the row's own. -/
import Derived.Test.YtknagppkeodggaaDoorRows
import Derived.Test.YtknagppkeodggaaDoorM8
import Derived.Test.YtknagppkeodggaaDoorM9
import Derived.Test.YtknagppkeodggaaDoorM3
import Derived.Test.YtknagppkeodggaaDoorTie
import Derived.Test.YtknagppkeodggaaDoorCards
import Derived.WalkKit
import Derived.ProofKit
import Derived.OpenShut
import Derived.ShutString
import Derived.ChangeOld
import Derived.Below
import Derived.SizedLaws
import Derived.Carry
import Derived.LaidMore
import Derived.Lay
import Derived.SevenTiedAt
import Derived.Stop.Joined
import Derived.Shelf.Vars
namespace Go.Proofs.YtknagppkeodggaaDoor.fnExactJoin
open Go.ChangeShapes Go.WideShapes Go.ChangeAt Go.RowKit Go.Proofs.YtknagppkeodggaaDoor Go.Proofs.YtknagppkeodggaaDoorW.PrintWords Go.Proofs.YtknagppkeodggaaDoorW.PrintLast Go.Proofs.YtknagppkeodggaaDoor.P Go.Proofs.YtknagppkeodggaaDoor.Pure
open Go.ChangeMaps (open_string shut_string)
set_option linter.unusedVariables false
theorem own : ownKnob Tryd.prog.godebug = none := by kernel_rfl
theorem laidOut : laidOutB Tryd.prog = true := by kernel_rfl
theorem op181 : Ow.Opens Tryd.prog 181 k181 Small181 :=
  Ow.opens_struct (d := (Kd.pair Kd.bool (Kd.pair Kd.string Kd.bool))) (f := fun x : S181 => (x.f0, x.f1, x.f2)) (g := fun y => ⟨y.1, y.2.1, y.2.2⟩) Tryd.underlying181 (by kernel_rfl) (fun _ => rfl) (Ow.opensF_cons rfl (by kernel_rfl) (Ow.opens_bool Tryd.underlying4) (Ow.opensF_cons rfl (by kernel_rfl) (Ow.opens_string Tryd.underlying9) (Ow.opensF_last rfl (by kernel_rfl) (Ow.opens_bool Tryd.underlying4))))
theorem op183 : Ow.Opens Tryd.prog 183 k183 Small183 :=
  Ow.opens_struct (d := (Kd.pair Kd.string (Kd.pair k181 k181))) (f := fun x : S183 => (x.f0, x.f1, x.f2)) (g := fun y => ⟨y.1, y.2.1, y.2.2⟩) Tryd.underlying183 (by kernel_rfl) (fun _ => rfl) (Ow.opensF_cons rfl (by kernel_rfl) (Ow.opens_string Tryd.underlying9) (Ow.opensF_cons rfl (by kernel_rfl) op181 (Ow.opensF_last rfl (by kernel_rfl) op181)))
theorem opA0 : Ow.Opens Tryd.prog 48 (Kd.iso (Kd.slice 183 k183) id) (fun y => y.length * 80 ≤ 140737488351232 ∧ ∀ x_ ∈ y, Small183 x_) :=
  Ow.opens_struct (f := id) (g := id) Tryd.underlying48 (by kernel_rfl) (fun _ => rfl) (Ow.opensF_last rfl (by kernel_rfl) (Ow.opens_slice (e := 183) (B := 80) Tryd.underlying46 (by kernel_rfl) (by kernel_rfl) op183))
theorem opA1 : Ow.Opens Tryd.prog 48 (Kd.iso (Kd.slice 183 k183) id) (fun y => y.length * 80 ≤ 140737488351232 ∧ ∀ x_ ∈ y, Small183 x_) :=
  Ow.opens_struct (f := id) (g := id) Tryd.underlying48 (by kernel_rfl) (fun _ => rfl) (Ow.opensF_last rfl (by kernel_rfl) (Ow.opens_slice (e := 183) (B := 80) Tryd.underlying46 (by kernel_rfl) (by kernel_rfl) op183))
def laid : List (String × DataW Unit) := Rows.fnExactJoinRow.laid
set_option maxRecDepth 100000 in
theorem lifted (os : Os) (started : os.Started) (H : Type) (enc : TypeId × Value → H) :
    ReturnsInHanded {} Tryd.checked os 5 .any (fun w args => (Rows.fnExactJoinSpec.pre enc Tryd.prog Tryd.f5 Rows.fnExactJoinRow.domain false w args ∧ laidMetH Tryd.prog laid w) ∧ sizedMet enc Tryd.prog Tryd.f5 (OpenSpec.ofChange Rows.fnExactJoinSpec) false w args)
      (Rows.fnExactJoinSpec.post enc Tryd.prog Tryd.f5 false true false false) := by
  refine Ow.returnsInHanded_shaped_and (C := Tryd.checked) (X := fun w _ => laidMetH Tryd.prog laid w) (fun _ _ _ hh h => h.of_heap hh) own started (by kernel_rfl) Tryd.func5
    (ChangeSpec.witness_shaped (enc := enc) (C := Tryd.checked) (os := os) (X := fun w _ => laidMetH Tryd.prog laid w) false (World.laidAll Tryd.prog os laid) #[.agg #[.slice none 0 0], .agg #[.slice none 0 0]] 8 (World.laidAll_os _ _ _)
      (World.shaped_of_ZipB (by kernel_rfl) (by kernel_rfl)) (by kernel_rfl) (by kernel_rfl) (by kernel_rfl)
      (by rw [MakeChecks.laidMetH_plain _ _ _ (by kernel_rfl)]; exact laidMet_laidAll _ (by kernel_rfl) (by kernel_rfl))) ?_
  intro W base args ds gs before hval0 hW hcnd hsz0 hsh _ _
  have hsz : (DataW.weightsEach Tryd.prog (Tryd.f5.params.toList ++ Rows.fnExactJoinSpec.plain.varTypes Tryd.prog) (ds ++ gs)).all (· ≤ reachBytes) = true := hsz0
  have hval : ∀ (j : Nat) t v, Tryd.f5.params[j]? = some t → args[j]? = some v → Value.okWide Tryd.prog W .any base t v := hval0
  have hW' := hW
  obtain ⟨p, q, hA0, hV, rfl, hfz, hnd⟩ := hW
  have hA : DataW.TrodAll enc Tryd.prog W 0 (fun _ => true) true Tryd.f5.params.toList args.toList ds p := hA0
  rw [Tryd.params5] at hA hval hsz
  obtain ⟨v0, vs0, d0, ds0, p0, q0, hargs, rfl, rfl, h0, r0⟩ := trodAll_cons hA
  obtain ⟨v1, vs1, d1, ds1, p1, q1, rfl, rfl, rfl, h1, r1⟩ := trodAll_cons r0
  obtain ⟨rfl, rfl, rfl⟩ := trodAll_nil r1
  obtain rfl : args = #[v0, v1] := by cases args; simp_all
  obtain ⟨rfl, rfl⟩ := trodVars_none hV
  have k0 := h0
  have lt0 := Ow.places_lt h0
  obtain ⟨cs0, y0, rfl, hK0, w0⟩ := Ow.open_agg opA0 Tryd.underlying48 (hval 0 48 v0 rfl rfl) h0 (Ow.weights_of hsz (j := 0) (t := 48) rfl rfl)
  obtain ⟨l0_0, hy0⟩ : ∃ z, z = y0 := ⟨_, rfl⟩
  subst hy0
  obtain ⟨A0_0, c0_0, ec0, hl0_0, hC0_0⟩ : ∃ A0_0 c0_0, cs0 = #[.slice A0_0 l0_0.length c0_0] ∧ l0_0.length ≤ c0_0 ∧ Kd.C k183 W A0_0 l0_0.length l0_0 := by
    obtain ⟨A0_0, c0_0, he0, hl0_0, hC0_0⟩ := hK0
    exact ⟨A0_0, c0_0, Array.toList_inj.1 he0, hl0_0, hC0_0⟩
  subst ec0
  have k1 := h1
  have lt1 := Ow.places_lt h1
  obtain ⟨cs1, y1, rfl, hK1, w1⟩ := Ow.open_agg opA1 Tryd.underlying48 (hval 1 48 v1 rfl rfl) h1 (Ow.weights_of hsz (j := 1) (t := 48) rfl rfl)
  obtain ⟨l1_0, hy1⟩ : ∃ z, z = y1 := ⟨_, rfl⟩
  subst hy1
  obtain ⟨A1_0, c1_0, ec1, hl1_0, hC1_0⟩ : ∃ A1_0 c1_0, cs1 = #[.slice A1_0 l1_0.length c1_0] ∧ l1_0.length ≤ c1_0 ∧ Kd.C k183 W A1_0 l1_0.length l1_0 := by
    obtain ⟨A1_0, c1_0, he1, hl1_0, hC1_0⟩ := hK1
    exact ⟨A1_0, c1_0, Array.toList_inj.1 he1, hl1_0, hC1_0⟩
  subst ec1
  have hgok : GOK W := cell_of_shapedOpen_int (zero := #[.int .i64 0]) (t := 3) hsh (of_decide_eq_true (by kernel_rfl)) (by kernel_rfl) rfl (by kernel_rfl) (by kernel_rfl) Tryd.underlying3
  clear hA0 hval0 hsz0 hsz
  obtain ⟨k, hk⟩ := Pure.FnExactJoin l0_0 l1_0 w0 w1
  refine (laws_FnExactJoin.calls k A0_0 c0_0 l0_0 A1_0 c1_0 l1_0 true W hgok hC0_0 hl0_0 hC1_0 hl1_0 hk rfl).mono fun e W' ⟨he, bel0⟩ => ?_
  have bel : Below W.heap.size W W' := bel0
  subst he
  exact ⟨_, rfl, _, _, _, [], _, [], hW', trodAll_mk1 (shut_bool Tryd.underlying4 _), (trodAll_cons_mk (Below.trod laidOut (by kernel_rfl) (of_decide_eq_true (by kernel_rfl)) k0 bel lt0) (trodAll_cons_mk (Below.trod laidOut (by kernel_rfl) (of_decide_eq_true (by kernel_rfl)) k1 bel lt1) trodAll_mk0)), rfl, bel.frame _, fun h => by cases h⟩
/-- The row's closed facts, each a lemma of its own (all at once they want more memory than there is, over a great program). -/
theorem and_ {a b : Bool} (h : a = true) (k : b = true) : (a && b) = true := by rw [h, k]; rfl
set_option maxHeartbeats 20000000 in
theorem closedFacts : joinedFacts Tryd.pinned.checked.prog 5 Tryd.f5 Rows.fnExactJoinSpec Rows.fnExactJoinRow = true := by
  unfold joinedFacts
  repeat' (with_reducible refine and_ ?_ ?_)
  all_goals (as_aux_lemma => kernel_rfl)
theorem over : Rows.fnExactJoinRow.holds Tryd.pinned (OpenSpec.ofChange Rows.fnExactJoinSpec) :=
  OpenClaim.holds_of_wide 5 Tryd.f5 rfl rfl rfl rfl rfl rfl rfl ⟨rfl, rfl, rfl, rfl, rfl⟩ rfl rfl rfl rfl rfl (by kernel_rfl) Tryd.func5 closedFacts
    (of_decide_eq_true (by kernel_rfl)) (by unfold Func.isWrapper; first | (rw [if_pos (by decide +kernel)]; kernel_rfl) | (rw [if_neg (by decide +kernel)]; exact ⟨rfl, rfl⟩))
    (fun os started H enc _ => lifted os started H enc)
theorem proved : Rows.FnExactJoinCardSaid :=
  Claim7.holds_tied_plain_at .later [] [.data, .pinned] true (true, "23e3ebdd671924b445b05f17d0834a1f50c90c497327164c547a3dec460e375b") false over (fun _ h => by cases h) (by kernel_rfl) (fun _ h => by cases h) fnExactJoin_row_tie rfl ⟨rfl, rfl⟩ (by kernel_rfl) rfl
    (fun f fn hf hfn => by
      obtain rfl : f = 5 := Option.some.inj ((show Tryd.prog.funcNamed "loop.example/kilntree/laws.FnExactJoin" = some 5 by kernel_rfl).symm.trans hf) |>.symm
      obtain rfl : fn = Tryd.f5 := (Option.some.inj (Tryd.func5.symm.trans hfn)).symm
      exact ⟨by kernel_rfl, fun j t ht => by
        rw [Tryd.params5] at ht
        have hm : t ∈ [48, 48] := by simpa using Array.mem_of_getElem? ht
        have hall : ([48, 48].all fun u => !Tryd.prog.wantsStandIn u) = true := by kernel_rfl
        exact (show Tryd.prog.wantsStandIn t = false by simpa using List.all_eq_true.1 hall t hm)⟩)
    (by kernel_rfl)
end Go.Proofs.YtknagppkeodggaaDoor.fnExactJoin
namespace Go.Proofs.YtknagppkeodggaaDoor
/-- The card, under a short name, for the claim. -/
theorem fnExactJoin_holds : Rows.FnExactJoinCardSaid := fnExactJoin.proved
end Go.Proofs.YtknagppkeodggaaDoor
