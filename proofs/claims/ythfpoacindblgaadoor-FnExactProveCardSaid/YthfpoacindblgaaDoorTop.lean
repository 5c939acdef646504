/- The row of the law FnExactProve: called with any arguments in whatever memory, it returns true and leaves its arguments as they were. No condition beside the row's own. -/
import Derived.Test.YthfpoacindblgaaDoorRows
import Derived.Test.YthfpoacindblgaaDoorM7
import Derived.Test.YthfpoacindblgaaDoorM8
import Derived.Test.YthfpoacindblgaaDoorM3
import Derived.Test.YthfpoacindblgaaDoorTie
import Derived.Test.YthfpoacindblgaaDoorCards
import Derived.WalkKit
import Derived.ProofKit
import Derived.OpenShut
import Derived.ShutString
import Derived.ChangeOld
import Derived.Below
import Derived.SizedLaws
import Derived.Carry
import Derived.LaidMore
import Derived.Lay
import Derived.SevenTiedAt
import Derived.Stop.Joined
import Derived.Shelf.Vars
namespace Go.Proofs.YthfpoacindblgaaDoor.fnExactProve
open Go.ChangeShapes Go.WideShapes Go.ChangeAt Go.RowKit Go.Proofs.YthfpoacindblgaaDoor Go.Proofs.YthfpoacindblgaaDoorW.PrintWords Go.Proofs.YthfpoacindblgaaDoorW.PrintLast Go.Proofs.YthfpoacindblgaaDoor.P Go.Proofs.YthfpoacindblgaaDoor.Pure
open Go.ChangeMaps (open_string shut_string)
set_option linter.unusedVariables false
theorem own:ownKnob Tryd.prog.godebug=none:=by kernel_rfl
theorem laidOut:laidOutB Tryd.prog=true:=by kernel_rfl
theorem op61:Ow.Opens Tryd.prog 61 k61 Small61 :=
  Ow.opens_struct (d:=(Kd.pair Kd.string (Kd.pair Kd.string Kd.bool))) (f:=fun x:S61=>(x.f0,x.f1,x.f2)) (g:=fun y=>⟨y.1,y.2.1,y.2.2⟩) Tryd.underlying61 (by kernel_rfl) (fun _=>rfl) (Ow.opensF_cons rfl (by kernel_rfl) (Ow.opens_string Tryd.underlying9) (Ow.opensF_cons rfl (by kernel_rfl) (Ow.opens_string Tryd.underlying9) (Ow.opensF_last rfl (by kernel_rfl) (Ow.opens_bool Tryd.underlying4))))
theorem opA0:Ow.Opens Tryd.prog 24 (Kd.iso (Kd.slice 61 k61) id) (fun y=>y.length*40≤140737488351232 ∧ ∀ x_ ∈ y,Small61 x_) :=
  Ow.opens_struct (f:=id) (g:=id) Tryd.underlying24 (by kernel_rfl) (fun _=>rfl) (Ow.opensF_last rfl (by kernel_rfl) (Ow.opens_slice (e:=61) (B:=40) Tryd.underlying22 (by kernel_rfl) (by kernel_rfl) op61))
def laid:List (String×DataW Unit):=Rows.fnExactProveRow.laid
set_option maxRecDepth 100000 in
theorem lifted (os:Os) (started:os.Started) (H:Type) (enc:TypeId×Value→H) :
    ReturnsInHanded {} Tryd.checked os 3 .any (fun w args=>(Rows.fnExactProveSpec.pre enc Tryd.prog Tryd.f3 Rows.fnExactProveRow.domain false w args∧laidMetH Tryd.prog laid w)∧sizedMet enc Tryd.prog Tryd.f3 (OpenSpec.ofChange Rows.fnExactProveSpec) false w args)
      (Rows.fnExactProveSpec.post enc Tryd.prog Tryd.f3 false true false false):=by
  refine Ow.returnsInHanded_shaped_and (C:=Tryd.checked) (X:=fun w _=>laidMetH Tryd.prog laid w) (fun _ _ _ hh h=>h.of_heap hh) own started (by kernel_rfl) Tryd.func3
    (ChangeSpec.witness_shaped (enc:=enc) (C:=Tryd.checked) (os:=os) (X:=fun w _=>laidMetH Tryd.prog laid w) false (World.laidAll Tryd.prog os laid) #[.agg #[.slice none 0 0],.string ByteArray.empty,.int .i64 0] 8 (World.laidAll_os _ _ _)
      (World.shaped_of_ZipB (by kernel_rfl) (by kernel_rfl)) (by kernel_rfl) (by kernel_rfl) (by kernel_rfl)
      (by rw [MakeChecks.laidMetH_plain _ _ _ (by kernel_rfl)];exact laidMet_laidAll _ (by kernel_rfl) (by kernel_rfl))) ?_
  intro W base args ds gs before hval0 hW hcnd hsz0 hsh _ _
  have hsz:(DataW.weightsEach Tryd.prog (Tryd.f3.params.toList++Rows.fnExactProveSpec.plain.varTypes Tryd.prog) (ds++gs)).all (· ≤ reachBytes)=true:=hsz0
  have hval:∀ (j:Nat) t v,Tryd.f3.params[j]? = some t→args[j]? = some v→Value.okWide Tryd.prog W .any base t v:=hval0
  have hW':=hW
  obtain ⟨p,q,hA0,hV,rfl,hfz,hnd⟩:=hW
  have hA:DataW.TrodAll enc Tryd.prog W 0 (fun _=>true) true Tryd.f3.params.toList args.toList ds p:=hA0
  rw [Tryd.params3] at hA hval hsz
  obtain ⟨v0,vs0,d0,ds0,p0,q0,hargs,rfl,rfl,h0,r0⟩:=trodAll_cons hA
  obtain ⟨v1,vs1,d1,ds1,p1,q1,rfl,rfl,rfl,h1,r1⟩:=trodAll_cons r0
  obtain ⟨v2,vs2,d2,ds2,p2,q2,rfl,rfl,rfl,h2,r2⟩:=trodAll_cons r1
  obtain ⟨rfl,rfl,rfl⟩:=trodAll_nil r2
  obtain rfl:args = #[v0,v1,v2]:=by cases args;simp_all
  obtain ⟨rfl,rfl⟩:=trodVars_none hV
  have k0:=h0
  have lt0:=Ow.places_lt h0
  obtain ⟨cs0,y0,rfl,hK0,w0⟩:=Ow.open_agg opA0 Tryd.underlying24 (hval 0 24 v0 rfl rfl) h0 (Ow.weights_of hsz (j:=0) (t:=24) rfl rfl)
  obtain ⟨l0_0,hy0⟩:∃ z,z=y0:=⟨_,rfl⟩
  subst hy0
  obtain ⟨A0_0,c0_0,ec0,hl0_0,hC0_0⟩:∃ A0_0 c0_0,cs0 = #[.slice A0_0 l0_0.length c0_0]∧l0_0.length≤c0_0∧Kd.C k61 W A0_0 l0_0.length l0_0:=by
    obtain ⟨A0_0,c0_0,he0,hl0_0,hC0_0⟩:=hK0
    exact ⟨A0_0,c0_0,Array.toList_inj.1 he0,hl0_0,hC0_0⟩
  subst ec0
  obtain ⟨a1,rfl,rfl,rfl,y1⟩:=open_string Tryd.underlying9 (hval 1 9 v1 rfl rfl) h1
  have w1:a1.size≤140737488351232:=by
    have z:=sized_string hsz (j:=1) (t:=9) rfl rfl
    rw [Array.length_toList] at z
    exact z
  obtain ⟨a2,rfl,rfl,rfl,w2⟩:=open_int Tryd.underlying3 (hval 2 3 v2 rfl rfl) h2
  have hgok:GOK W:=cell_of_shapedOpen_int (zero:=#[.int .i64 0]) (t:=3) hsh (of_decide_eq_true (by kernel_rfl)) (by kernel_rfl) rfl (by kernel_rfl) (by kernel_rfl) Tryd.underlying3
  clear hA0 hval0 hsz0 hsz
  obtain ⟨k,hk⟩:=Pure.FnExactProve l0_0 a1 a2 w0 w1 w2
  refine (laws_FnExactProve.calls k A0_0 c0_0 l0_0 a1 a2 true W hgok hC0_0 hl0_0 hk rfl).mono fun e W' ⟨he,bel0⟩ => ?_
  have bel:Below W.heap.size W W':=bel0
  subst he
  exact ⟨_,rfl,_,_,_,[],_,[],hW',trodAll_mk1 (shut_bool Tryd.underlying4 _),(trodAll_cons_mk (Below.trod laidOut (by kernel_rfl) (of_decide_eq_true (by kernel_rfl)) k0 bel lt0) (trodAll_cons_mk (shut_string Tryd.underlying9 y1) (trodAll_cons_mk (shut_int Tryd.underlying3 w2) trodAll_mk0))),rfl,bel.frame _,fun h=>by cases h⟩
/-- The row's closed facts, each a lemma of its own (all at once they want more memory than there is, over a great program). -/
theorem and_ {a b:Bool} (h:a=true) (k:b=true):(a&&b)=true:=by rw [h,k];rfl
set_option maxHeartbeats 20000000 in
theorem closedFacts:joinedFacts Tryd.pinned.checked.prog 3 Tryd.f3 Rows.fnExactProveSpec Rows.fnExactProveRow=true:=by
  unfold joinedFacts
  repeat' (with_reducible refine and_ ?_ ?_)
  all_goals (as_aux_lemma=>kernel_rfl)
theorem over:Rows.fnExactProveRow.holds Tryd.pinned (OpenSpec.ofChange Rows.fnExactProveSpec) :=
  OpenClaim.holds_of_wide 3 Tryd.f3 rfl rfl rfl rfl rfl rfl rfl ⟨rfl,rfl,rfl,rfl,rfl⟩ rfl rfl rfl rfl rfl (by kernel_rfl) Tryd.func3 closedFacts
    (of_decide_eq_true (by kernel_rfl)) (by unfold Func.isWrapper;first|(rw [if_pos (by decide +kernel)];kernel_rfl)|(rw [if_neg (by decide +kernel)];exact ⟨rfl,rfl⟩))
    (fun os started H enc _=>lifted os started H enc)
theorem proved : Rows.FnExactProveCardSaid :=
  Claim7.holds_tied_plain_at .later [] [.data,.pinned] true (true,"edd64f5709891d97689fe81bd5bf71c26e3b6baf204843611c7dc6d10816b1c5") false over (fun _ h=>by cases h) (by kernel_rfl) (fun _ h=>by cases h) fnExactProve_row_tie rfl ⟨rfl,rfl⟩ (by kernel_rfl) rfl
    (fun f fn hf hfn=>by
      obtain rfl:f=3:=Option.some.inj ((show Tryd.prog.funcNamed "loop.example/kilntree/laws.FnExactProve" = some 3 by kernel_rfl).symm.trans hf) |>.symm
      obtain rfl:fn=Tryd.f3:=(Option.some.inj (Tryd.func3.symm.trans hfn)).symm
      exact ⟨by kernel_rfl,fun j t ht=>by
        rw [Tryd.params3] at ht
        have hm:t ∈ [24,9,3]:=by simpa using Array.mem_of_getElem? ht
        have hall:([24,9,3].all fun u => !Tryd.prog.wantsStandIn u)=true:=by kernel_rfl
        exact (show Tryd.prog.wantsStandIn t=false by simpa using List.all_eq_true.1 hall t hm)⟩)
    (by kernel_rfl)
end Go.Proofs.YthfpoacindblgaaDoor.fnExactProve
namespace Go.Proofs.YthfpoacindblgaaDoor
/-- The card, under a short name, for the claim. -/
theorem fnExactProve_holds:Rows.FnExactProveCardSaid:=fnExactProve.proved
end Go.Proofs.YthfpoacindblgaaDoor
