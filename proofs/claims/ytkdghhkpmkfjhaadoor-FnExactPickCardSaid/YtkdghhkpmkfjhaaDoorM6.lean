/- Several texts of this claim in one file: YtkdghhkpmkfjhaaDoorPStringsSplit, YtkdghhkpmkfjhaaDoorPImplParts, YtkdghhkpmkfjhaaDoorPImplValidPath, YtkdghhkpmkfjhaaDoorPImplGoodEntry, YtkdghhkpmkfjhaaDoorPImplValidTree, YtkdghhkpmkfjhaaDoorPImplValidGlob, YtkdghhkpmkfjhaaDoorPImplMatch, YtkdghhkpmkfjhaaDoorPSlicesContainsFuncStringString, YtkdghhkpmkfjhaaDoorPImplPick. -/
import Derived.Test.YtkdghhkpmkfjhaaDoorM2
import Derived.Test.YtkdghhkpmkfjhaaDoorM5
import Derived.Lib.SplitLaws
namespace Go.Proofs.YtkdghhkpmkfjhaaDoor.P
open Go.RowKit Go.Proofs.YtkdghhkpmkfjhaaDoorW.PrintWords Go.Proofs.YtkdghhkpmkfjhaaDoorW.PrintLast Go.Proofs.YtkdghhkpmkfjhaaDoorW.PrintMore
attribute [local go_sem] max2_int min2_int max_two min_two max_three min_three max_four min_four
set_option linter.unusedVariables false
set_option linter.unusedSimpArgs false

/-! ### strings_Split: function 89 -/
def strings_Split.f (a0 a1 : ByteArray) : Option (List ByteArray) := if a0.size < 4294967281 then (if 1 ≤ a1.size then some (Go.Lib.splitB a1 0 (Go.Lib.countB a0 a1) a0) else none) else none
theorem strings_Split.calls (a0 a1 : ByteArray) (r : List ByteArray) (w : World) (hg : GOK w) (h : strings_Split.f a0 a1 = some r) :
  Calls Tryd.prog 89 #[.string a0, .string a1] w fun e w' => ∃ v0_ : Value, e = .returned (v0_) ∧ Kd.R Kd.string 9 w' w.heap.size (fun _ => True) v0_ r ∧ Below w.heap.size w w' := by
 unfold strings_Split.f at h
 split at h
 ·rename_i hs
  split at h
  ·rename_i h1
   obtain rfl := Option.some.inj h; obtain ⟨m, hm⟩ := hg; have hle := Go.Lib.countB_le a1 h1 a0.size a0 (Nat.le_refl _); have hlen := Go.Lib.splitB_all a1 h1 0 (Go.Lib.countB a0 a1) a0 rfl
   refine (Tryd.strings_Split a0 a1 m w hs hm h1).mono fun e w' ⟨he, hw⟩ => ?_
   subst hw; refine ⟨_, he, ?_, below_alloc (Below.refl _ _) _⟩
   rw [← hlen]
   exact Ow.R_new_block Value.string (fun _ => rfl) _ w _ (by rw [hlen]; unfold maxLen; omega)
  ·cases h
 ·cases h


end Go.Proofs.YtkdghhkpmkfjhaaDoor.P


namespace Go.Proofs.YtkdghhkpmkfjhaaDoor.P
open Go.RowKit Go.Proofs.YtkdghhkpmkfjhaaDoorW.PrintWords Go.Proofs.YtkdghhkpmkfjhaaDoorW.PrintLast Go.Proofs.YtkdghhkpmkfjhaaDoorW.PrintMore
attribute [local go_sem] max2_int min2_int max_two min_two max_three min_three max_four min_four
set_option linter.unusedVariables false
set_option linter.unusedSimpArgs false

/-! ### impl_parts: function 78 -/
def impl_parts.l0 : Nat → Bool → List ByteArray → Int → Int → Option (Bool)
 | 0, _, _, _, _ => none
 | k + 1, x1, x13, x14, x15 => if x15 < x14 then (if 0 ≤ x15 then (if x15 < (x13.length : Int) then ((impl_goodPart.f k (rdOf ByteArray.empty x13 x15) x1).bind fun t153 => (if t153 = true then (impl_parts.l0 k x1 x13 x14 (wrap64 (x15 + 1))) else (some false))) else (none)) else (none)) else (some true)
def impl_parts.f (k : Nat) (a0 : ByteArray) (a1 : Bool) : Option (Bool) := (strings_Split.f a0 (⟨#[47]⟩ : ByteArray)).bind fun t149 => (if (t149.length : Int) > 6 then (some false) else (impl_parts.l0 k a1 t149 (t149.length : Int) 0))
theorem impl_parts.mono_l : ∀ k, (∀ y0 y1 y2 y3, LeO (impl_parts.l0 k y0 y1 y2 y3) (impl_parts.l0 (k + 1) y0 y1 y2 y3))
 | 0 => fun _ _ _ _ r h => by simp [impl_parts.l0] at h
 | k + 1 => by
  have ih0 := impl_parts.mono_l k
  ·intro y0 y1 y2 y3
   unfold impl_parts.l0
   repeat' first
   | (with_reducible exact ih0 _ _ _ _)
   | (with_reducible exact impl_goodPart.mono _ _ _)
   | (with_reducible exact LeO.refl _)
   | (with_reducible exact LeO.none _)
   | (with_reducible refine LeO.ite ?_ ?_)
   | (with_reducible refine LeO.bind ?_ (fun _ => ?_))
   | exact ih0 _ _ _ _
   | exact impl_goodPart.mono _ _ _
   | exact LeO.none _
   | refine LeO.ite ?_ ?_
   | refine LeO.bind ?_ (fun _ => ?_)
theorem impl_parts.mono : ∀ a0 a1 k, LeO (impl_parts.f k a0 a1) (impl_parts.f (k + 1) a0 a1) := by
 intro a0 a1 k; have ih0 := impl_parts.mono_l k
 unfold impl_parts.f
 repeat' first
   | (with_reducible exact ih0 _ _ _ _)
   | (with_reducible exact impl_goodPart.mono _ _ _)
   | (with_reducible exact LeO.refl _)
   | (with_reducible exact LeO.none _)
   | (with_reducible refine LeO.ite ?_ ?_)
   | (with_reducible refine LeO.bind ?_ (fun _ => ?_))
   | exact ih0 _ _ _ _
   | exact impl_goodPart.mono _ _ _
   | exact LeO.none _
   | refine LeO.ite ?_ ?_
   | refine LeO.bind ?_ (fun _ => ?_)
set_option maxHeartbeats 8000000 in
set_option maxRecDepth 100000 in
theorem impl_parts.calls (k : Nat) (a0 : ByteArray) (a1 : Bool) (r : Bool) (w : World) (hg : GOK w) (h : impl_parts.f k a0 a1 = some r) :
  Calls Tryd.prog 78 #[.string a0, .bool a1] w fun e w' => e = .returned (.bool r) ∧ Below w.heap.size w w' := by
 have HG := Aside0.mk hg; clear hg; have HB := Aside0.mk (Below.refl w.heap.size w); have H : ((strings_Split.f a0 (⟨#[47]⟩ : ByteArray)).bind fun t149 => (if (t149.length : Int) > 6 then (some false) else (impl_parts.l0 k a1 t149 (t149.length : Int) 0))) = some r := h; clear h; replace H := Option.bind_eq_some_iff.mp H; obtain ⟨t149, A30, H⟩ := H; replace H : (if (t149.length : Int) > 6 then (some false) else (impl_parts.l0 k a1 t149 (t149.length : Int) 0)) = some r := H; have A3 := Aside0.mk A30; clear A30
 by_cases c4 : (t149.length : Int) > 6
 ·rw [if_pos c4] at H
  have c4b0 : decide (6 < (t149.length : Int)) = true := decide_eq_true c4; have c4b1 : decide (6 < t149.length) = true := decide_eq_true (by omega); clear c4; obtain rfl := Option.some.inj H
  go_enter Tryd.func78, Tryd.ntmps78
  go_wp2_with (first | ((with_reducible refine gate_callee (f := 89) rfl ?_); refine goesL_ (some 9) rfl rfl Tryd.func89 (by kernel_rfl) rfl #[.string a0, .string (⟨#[47]⟩ : ByteArray)] rfl (by (try simp only [List.map_toArray, List.map_cons, List.map_nil]); first | done | rfl | (simp only [List.length_drop, List.length_take]; rfl)) ?_; (with_reducible refine (strings_Split.calls a0 (⟨#[47]⟩ : ByteArray) t149 _ ?sideG A3.out).mono ?_); (case sideG => (first | exact HG.out | exact GOK.below HG.out (by repeat (first | (with_reducible first | exact HB.out | apply below_alloc | apply pw_below_drewN | apply below_drew1) | exact HB.out | exact Below.refl _ _)))); rintro e w5 ⟨v150, rfl, ho0, hb⟩; refine ⟨_, rfl, ?_⟩; have n0_ := Aside0.mk (Kd.R_lower ho0 (below_size (by repeat (first | (with_reducible first | exact HB.out | apply below_alloc | apply pw_below_drewN | apply below_drew1) | exact HB.out)))); have n1_ := Aside0.mk (below_step (by repeat (first | (with_reducible first | exact HB.out | apply below_alloc | apply pw_below_drewN | apply below_drew1) | exact HB.out)) hb); clear HB; have HO151 := n0_; have HB := n1_; clear n0_ n1_; (try clear hb); (try clear hb2); (try clear hk); (try clear hi); (try clear ho0); obtain ⟨Ao6, co6, eo6⟩ := Kd.R_slice HO151.out; subst eo6))
  go_ret
  exact ⟨by first | rfl | (simp [errW_none, errW_some] <;> rfl) | (simp [*, errW_none, errW_some] <;> rfl), by repeat (first | (with_reducible first | exact HB.out | apply below_alloc | apply pw_below_drewN | apply below_drew1) | exact HB.out)⟩
 ·rw [if_neg c4] at H
  have c4b0 : decide (6 < (t149.length : Int)) = false := decide_eq_false c4; have c4b1 : decide (6 < t149.length) = false := decide_eq_false (by omega); clear c4; have H' := Aside0.mk H; clear H
  go_enter Tryd.func78, Tryd.ntmps78
  go_wp2_with (first | ((with_reducible refine gate_callee (f := 89) rfl ?_); refine goesL_ (some 9) rfl rfl Tryd.func89 (by kernel_rfl) rfl #[.string a0, .string (⟨#[47]⟩ : ByteArray)] rfl (by (try simp only [List.map_toArray, List.map_cons, List.map_nil]); first | done | rfl | (simp only [List.length_drop, List.length_take]; rfl)) ?_; (with_reducible refine (strings_Split.calls a0 (⟨#[47]⟩ : ByteArray) t149 _ ?sideG A3.out).mono ?_); (case sideG => (first | exact HG.out | exact GOK.below HG.out (by repeat (first | (with_reducible first | exact HB.out | apply below_alloc | apply pw_below_drewN | apply below_drew1) | exact HB.out | exact Below.refl _ _)))); rintro e w7 ⟨v150, rfl, ho0, hb⟩; refine ⟨_, rfl, ?_⟩; have n0_ := Aside0.mk (Kd.R_lower ho0 (below_size (by repeat (first | (with_reducible first | exact HB.out | apply below_alloc | apply pw_below_drewN | apply below_drew1) | exact HB.out)))); have n1_ := Aside0.mk (below_step (by repeat (first | (with_reducible first | exact HB.out | apply below_alloc | apply pw_below_drewN | apply below_drew1) | exact HB.out)) hb); clear HB; have HO151 := n0_; have HB := n1_; clear n0_ n1_; (try clear hb); (try clear hb2); (try clear hk); (try clear hi); (try clear ho0); obtain ⟨Ao8, co8, eo8⟩ := Kd.R_slice HO151.out; subst eo8))
  go_loopg [15] k (fun kq v15 w' => ∃ (qa : Int), v15 = .int .i64 qa ∧ Aside0 (impl_parts.l0 kq a1 t149 (t149.length : Int) qa = some r) ∧ Aside0 (kq ≤ k) ∧ Aside0 (Kd.R Kd.string 9 w' w.heap.size (fun _ => True) (.slice Ao8 t149.length co8) t149) ∧ Aside0 (Below w.heap.size w w'))
  case atStart => exact ⟨(0), (by first | rfl | (simp; done) | (simp [*]; done)), H', ⟨Nat.le_refl _⟩, ⟨by (with_reducible repeat (first | apply Kd.R_alloc | apply Kd.R_drewN | apply Kd.R_drew)); exact HO151.out⟩, ⟨by repeat (first | (with_reducible first | exact HB.out | apply below_alloc | apply pw_below_drewN | apply below_drew1) | exact HB.out)⟩⟩
  case round =>
   clear H'; (try clear p2); (try clear c4); (try clear c4b0); (try clear c4b1); (try clear c7); (try clear c8); obtain ⟨qa, rfl, HA, HK1, HO_13, HB⟩ := hrel
   cases gk with
   | zero => exact absurd HA.out (by simp [impl_parts.l0])
   | succ k1 =>
    have H := HA.out; clear HA; simp only [impl_parts.l0] at H
    by_cases c9 : qa < (t149.length : Int)
    ·rw [if_pos c9] at H
     have c9b0 : decide (qa < (t149.length : Int)) = true := decide_eq_true c9; clear c9
     by_cases c10 : 0 ≤ qa
     ·rw [if_pos c10] at H
      have c10b0 : decide (0 ≤ qa) = true := decide_eq_true c10; clear c10
      by_cases c11 : qa < (t149.length : Int)
      ·rw [if_pos c11] at H
       have c11b0 : decide (qa < (t149.length : Int)) = true := decide_eq_true c11; clear c11; replace H := Option.bind_eq_some_iff.mp H; obtain ⟨t153, A120, H⟩ := H; replace H : (if t153 = true then (impl_parts.l0 k1 a1 t149 (t149.length : Int) (wrap64 (qa + 1))) else (some false)) = some r := H; have A12 := Aside0.mk A120; clear A120
       by_cases c13 : t153 = true
       ·subst c13
        have H1 : (impl_parts.l0 k1 a1 t149 (t149.length : Int) (wrap64 (qa + 1))) = some r := by rw [if_pos rfl] at H; exact H
        clear H; have H := H1; clear H1; have H' := Aside0.mk H; clear H; have p152 : 0 ≤ (qa : Int) := of_decide_eq_true (by first | (with_reducible assumption) | assumption); have q152 : qa < (t149.length : Int) := of_decide_eq_true (by first | (with_reducible assumption) | assumption); obtain ⟨ad152, e152, hx152_0⟩ := Kd.at_string (Kd.R_reads' HO_13.out).2.2 qa p152 q152
        cases e152
        replace p152 := eq_true p152; replace q152 := eq_true q152
        go_wp2_with (first | ((with_reducible refine gate_callee (f := 96) rfl ?_); refine goesL_ (some 21) rfl rfl Tryd.func96 (by kernel_rfl) rfl #[.string (rdOf ByteArray.empty t149 qa), .bool a1] rfl (by (try simp only [List.map_toArray, List.map_cons, List.map_nil]); first | done | rfl | (simp only [List.length_drop, List.length_take]; rfl)) ?_; (with_reducible refine (impl_goodPart.calls k1 (rdOf ByteArray.empty t149 qa) a1 true _ A12.out).mono ?_); rintro e w' ⟨rfl, ⟨nd, rfl⟩⟩; refine ⟨_, rfl, ?_⟩))
        go_roundg k1
        case measure => have := HK1.out; omega
        case rel => exact ⟨(wrap64 (qa + 1)), (by first | rfl | (simp; done) | (simp [*]; done)), H', ⟨by have := HK1.out; omega⟩, ⟨by (with_reducible repeat (first | apply Kd.R_alloc | apply Kd.R_drewN | apply Kd.R_drew)); exact HO_13.out⟩, ⟨by repeat (first | (with_reducible first | exact HB.out | apply below_alloc | apply pw_below_drewN | apply below_drew1) | exact HB.out)⟩⟩
       ·replace c13 := Bool.eq_false_iff.mpr c13; subst c13
        have H1 : (some false) = some r := by rw [if_neg (show ¬ (false = true) by decide)] at H; exact H
        clear H; have H := H1; clear H1; obtain rfl := Option.some.inj H; have p152 : 0 ≤ (qa : Int) := of_decide_eq_true (by first | (with_reducible assumption) | assumption); have q152 : qa < (t149.length : Int) := of_decide_eq_true (by first | (with_reducible assumption) | assumption); obtain ⟨ad152, e152, hx152_0⟩ := Kd.at_string (Kd.R_reads' HO_13.out).2.2 qa p152 q152
        cases e152
        replace p152 := eq_true p152; replace q152 := eq_true q152
        go_wp2_with (first | ((with_reducible refine gate_callee (f := 96) rfl ?_); refine goesL_ (some 21) rfl rfl Tryd.func96 (by kernel_rfl) rfl #[.string (rdOf ByteArray.empty t149 qa), .bool a1] rfl (by (try simp only [List.map_toArray, List.map_cons, List.map_nil]); first | done | rfl | (simp only [List.length_drop, List.length_take]; rfl)) ?_; (with_reducible refine (impl_goodPart.calls k1 (rdOf ByteArray.empty t149 qa) a1 false _ A12.out).mono ?_); rintro e w' ⟨rfl, ⟨nd, rfl⟩⟩; refine ⟨_, rfl, ?_⟩))
        go_ret
        exact ⟨by first | rfl | (simp [errW_none, errW_some] <;> rfl) | (simp [*, errW_none, errW_some] <;> rfl), by repeat (first | (with_reducible first | exact HB.out | apply below_alloc | apply pw_below_drewN | apply below_drew1) | exact HB.out)⟩
      ·rw [if_neg c11] at H
       exact absurd H (by simp)
     ·rw [if_neg c10] at H
      exact absurd H (by simp)
    ·rw [if_neg c9] at H
     have c9b0 : decide (qa < (t149.length : Int)) = false := decide_eq_false c9; clear c9; obtain rfl := Option.some.inj H
     go_wp2
     go_ret
     exact ⟨by first | rfl | (simp [errW_none, errW_some] <;> rfl) | (simp [*, errW_none, errW_some] <;> rfl), by repeat (first | (with_reducible first | exact HB.out | apply below_alloc | apply pw_below_drewN | apply below_drew1) | exact HB.out)⟩

end Go.Proofs.YtkdghhkpmkfjhaaDoor.P


namespace Go.Proofs.YtkdghhkpmkfjhaaDoor.P
open Go.RowKit Go.Proofs.YtkdghhkpmkfjhaaDoorW.PrintWords Go.Proofs.YtkdghhkpmkfjhaaDoorW.PrintLast Go.Proofs.YtkdghhkpmkfjhaaDoorW.PrintMore
attribute [local go_sem] max2_int min2_int max_two min_two max_three min_three max_four min_four
set_option linter.unusedVariables false
set_option linter.unusedSimpArgs false

/-! ### impl_ValidPath: function 57 -/
def impl_ValidPath.f (k : Nat) (a0 : ByteArray) : Option (Bool) := (impl_parts.f k a0 false).bind fun t154 => (some t154)
theorem impl_ValidPath.mono : ∀ a0 k, LeO (impl_ValidPath.f k a0) (impl_ValidPath.f (k + 1) a0) := by
 intro a0 k
 unfold impl_ValidPath.f
 repeat' first
   | (with_reducible exact impl_parts.mono _ _ _)
   | (with_reducible exact LeO.refl _)
   | (with_reducible exact LeO.none _)
   | (with_reducible refine LeO.ite ?_ ?_)
   | (with_reducible refine LeO.bind ?_ (fun _ => ?_))
   | exact impl_parts.mono _ _ _
   | exact LeO.none _
   | refine LeO.ite ?_ ?_
   | refine LeO.bind ?_ (fun _ => ?_)
set_option maxHeartbeats 8000000 in
set_option maxRecDepth 100000 in
theorem impl_ValidPath.calls (k : Nat) (a0 : ByteArray) (r : Bool) (w : World) (hg : GOK w) (h : impl_ValidPath.f k a0 = some r) :
  Calls Tryd.prog 57 #[.string a0] w fun e w' => e = .returned (.bool r) ∧ Below w.heap.size w w' := by
 have HG := Aside0.mk hg; clear hg; have HB := Aside0.mk (Below.refl w.heap.size w); have H : ((impl_parts.f k a0 false).bind fun t154 => (some t154)) = some r := h; clear h; replace H := Option.bind_eq_some_iff.mp H; obtain ⟨t154, A20, H⟩ := H; replace H : (some t154) = some r := H; have A2 := Aside0.mk A20; clear A20; obtain rfl := Option.some.inj H
 go_enter Tryd.func57, Tryd.ntmps57
 go_wp2_with (first | ((with_reducible refine gate_callee (f := 78) rfl ?_); refine goesL_ (some 4) rfl rfl Tryd.func78 (by kernel_rfl) rfl #[.string a0, .bool false] rfl (by (try simp only [List.map_toArray, List.map_cons, List.map_nil]); first | done | rfl | (simp only [List.length_drop, List.length_take]; rfl)) ?_; (with_reducible refine (impl_parts.calls k a0 false t154 _ ?sideG A2.out).mono ?_); (case sideG => (first | exact HG.out | exact GOK.below HG.out (by repeat (first | (with_reducible first | exact HB.out | apply below_alloc | apply pw_below_drewN | apply below_drew1) | exact HB.out | exact Below.refl _ _)))); rintro e w3 ⟨rfl, hb⟩; refine ⟨_, rfl, ?_⟩; have n0_ := Aside0.mk (below_step (by repeat (first | (with_reducible first | exact HB.out | apply below_alloc | apply pw_below_drewN | apply below_drew1) | exact HB.out)) hb); clear HB; have HB := n0_; clear n0_; (try clear hb); (try clear hb2); (try clear hk); (try clear hi)))
 go_ret
 exact ⟨by first | rfl | (simp [errW_none, errW_some] <;> rfl) | (simp [*, errW_none, errW_some] <;> rfl), by repeat (first | (with_reducible first | exact HB.out | apply below_alloc | apply pw_below_drewN | apply below_drew1) | exact HB.out)⟩

end Go.Proofs.YtkdghhkpmkfjhaaDoor.P


namespace Go.Proofs.YtkdghhkpmkfjhaaDoor.P
open Go.RowKit Go.Proofs.YtkdghhkpmkfjhaaDoorW.PrintWords Go.Proofs.YtkdghhkpmkfjhaaDoorW.PrintLast Go.Proofs.YtkdghhkpmkfjhaaDoorW.PrintMore
attribute [local go_sem] max2_int min2_int max_two min_two max_three min_three max_four min_four
set_option linter.unusedVariables false
set_option linter.unusedSimpArgs false

/-! ### impl_goodEntry: function 51 -/
def impl_goodEntry.f (k : Nat) (a0_0 : ByteArray) (a0_1 : ByteArray) (a0_2 : Bool) : Option (Bool) := (impl_ValidPath.f k a0_0).bind fun t156 => (if t156 = true then (some (decide ((a0_1.size : Int) ≤ 1500))) else (some false))
theorem impl_goodEntry.mono : ∀ a0 a1 a2 k, LeO (impl_goodEntry.f k a0 a1 a2) (impl_goodEntry.f (k + 1) a0 a1 a2) := by
 intro a0 a1 a2 k
 unfold impl_goodEntry.f
 repeat' first
   | (with_reducible exact impl_ValidPath.mono _ _)
   | (with_reducible exact LeO.refl _)
   | (with_reducible exact LeO.none _)
   | (with_reducible refine LeO.ite ?_ ?_)
   | (with_reducible refine LeO.bind ?_ (fun _ => ?_))
   | exact impl_ValidPath.mono _ _
   | exact LeO.none _
   | refine LeO.ite ?_ ?_
   | refine LeO.bind ?_ (fun _ => ?_)
set_option maxHeartbeats 8000000 in
set_option maxRecDepth 100000 in
theorem impl_goodEntry.calls (k : Nat) (a0_0 : ByteArray) (a0_1 : ByteArray) (a0_2 : Bool) (r : Bool) (w : World) (hg : GOK w) (h : impl_goodEntry.f k a0_0 a0_1 a0_2 = some r) :
  Calls Tryd.prog 51 #[.agg #[.string a0_0, .string a0_1, .bool a0_2]] w fun e w' => e = .returned (.bool r) ∧ Below w.heap.size w w' := by
 have HG := Aside0.mk hg; clear hg; have hu45 := Tryd.underlying45; have HB := Aside0.mk (Below.refl w.heap.size w); have H : ((impl_ValidPath.f k a0_0).bind fun t156 => (if t156 = true then (some (decide ((a0_1.size : Int) ≤ 1500))) else (some false))) = some r := h; clear h; replace H := Option.bind_eq_some_iff.mp H; obtain ⟨t156, A20, H⟩ := H; replace H : (if t156 = true then (some (decide ((a0_1.size : Int) ≤ 1500))) else (some false)) = some r := H; have A2 := Aside0.mk A20; clear A20
 by_cases c3 : t156 = true
 ·subst c3
  have H1 : (some (decide ((a0_1.size : Int) ≤ 1500))) = some r := by rw [if_pos rfl] at H; exact H
  clear H; have H := H1; clear H1; obtain rfl := Option.some.inj H
  go_enter Tryd.func51, Tryd.ntmps51
  go_wp2_with (first | ((with_reducible refine gate_dst (N := 1) rfl ?_); (try (refine gate_guard (by rfl) ?_; dsimp only)); refine box_event ?hg (N := 1) ?hd (cs := #[.string a0_0, .string a0_1, .bool a0_2]) (t := 45) ?hr ?_; (case hd => rfl); (case hg => rfl); (case hr => first | (go_simp; done) | (go_simp; rfl)); intro qb hg w4 hbox hb; have n0_ := Aside0.mk (below_step (by repeat (first | (with_reducible first | exact HB.out | apply below_alloc | apply pw_below_drewN | apply below_drew1) | exact HB.out)) hb); have n1_ := Aside0.mk (hbox); have n2_ := Aside0.mk ((by rw [hg]; exact (below_size (by repeat (first | (with_reducible first | exact HB.out | apply below_alloc | apply pw_below_drewN | apply below_drew1) | exact HB.out))) : w.heap.size ≤ qb)); have n3_ := Aside0.mk ((by rw [hg]; exact (below_size (by repeat (first | (with_reducible first | exact HB.out | apply below_alloc | apply pw_below_drewN | apply below_drew1) | exact HB.out))) : w.heap.size ≤ qb)); clear HB; have HB := n0_; have qa := n1_; have GW155 := n2_; have GE155 := n3_; clear n0_ n1_ n2_ n3_; clear hb hbox hg; have hcz5_0 : w4.cell? ⟨qb, 0, none⟩ = some (.string a0_0) := (blk_cell qa.out 0).trans rfl; have hcz5_1 : w4.cell? ⟨qb, 1, none⟩ = some (.string a0_1) := (blk_cell qa.out 1).trans rfl; have hcz5_2 : w4.cell? ⟨qb, 2, none⟩ = some (.bool a0_2) := (blk_cell qa.out 2).trans rfl; have hfz5_0 := blk_frozen qa.out 0; have hfz5_1 := blk_frozen qa.out 1; have hfz5_2 := blk_frozen qa.out 2) | ((with_reducible refine gate_callee (f := 57) rfl ?_); refine goesL_ (some 5) rfl rfl Tryd.func57 (by kernel_rfl) rfl #[.string a0_0] rfl (by (try simp only [List.map_toArray, List.map_cons, List.map_nil]); first | done | rfl | (simp only [List.length_drop, List.length_take]; rfl)) ?_; (with_reducible refine (impl_ValidPath.calls k a0_0 true _ ?sideG A2.out).mono ?_); (case sideG => (first | exact HG.out | exact GOK.below HG.out (by repeat (first | (with_reducible first | exact HB.out | apply below_alloc | apply pw_below_drewN | apply below_drew1 | refine below_set ?_ GE155.out) | exact HB.out | exact Below.refl _ _)))); rintro e w6 ⟨rfl, hb⟩; refine ⟨_, rfl, ?_⟩; have n0_ := Aside0.mk (blk_below (g := qb) (o := .cells #[.string a0_0, .string a0_1, .bool a0_2] 45 (0, 0)) (by (with_reducible repeat (first | apply blk_drewN | apply blk_drew | apply blk_alloc)); exact qa.out) hb); have n1_ := Aside0.mk (below_step (by repeat (first | (with_reducible first | exact HB.out | apply below_alloc | apply pw_below_drewN | apply below_drew1 | refine below_set ?_ GE155.out) | exact HB.out)) hb); clear qa; clear HB; have qa := n0_; have HB := n1_; clear n0_ n1_; (try clear hb); (try clear hb2); (try clear hk); (try clear hi); have hcz7_0 : w6.cell? ⟨qb, 0, none⟩ = some (.string a0_0) := (blk_cell qa.out 0).trans rfl; have hcz7_1 : w6.cell? ⟨qb, 1, none⟩ = some (.string a0_1) := (blk_cell qa.out 1).trans rfl; have hcz7_2 : w6.cell? ⟨qb, 2, none⟩ = some (.bool a0_2) := (blk_cell qa.out 2).trans rfl; have hfz7_0 := blk_frozen qa.out 0; have hfz7_1 := blk_frozen qa.out 1; have hfz7_2 := blk_frozen qa.out 2))
  go_ret
  exact ⟨by first | rfl | (simp [errW_none, errW_some] <;> rfl) | (simp [*, errW_none, errW_some] <;> rfl), by repeat (first | (with_reducible first | exact HB.out | apply below_alloc | apply pw_below_drewN | apply below_drew1 | refine below_set ?_ GE155.out) | exact HB.out)⟩
 ·replace c3 := Bool.eq_false_iff.mpr c3; subst c3
  have H1 : (some false) = some r := by rw [if_neg (show ¬ (false = true) by decide)] at H; exact H
  clear H; have H := H1; clear H1; obtain rfl := Option.some.inj H
  go_enter Tryd.func51, Tryd.ntmps51
  go_wp2_with (first | ((with_reducible refine gate_dst (N := 1) rfl ?_); (try (refine gate_guard (by rfl) ?_; dsimp only)); refine box_event ?hg (N := 1) ?hd (cs := #[.string a0_0, .string a0_1, .bool a0_2]) (t := 45) ?hr ?_; (case hd => rfl); (case hg => rfl); (case hr => first | (go_simp; done) | (go_simp; rfl)); intro qb hg w8 hbox hb; have n0_ := Aside0.mk (below_step (by repeat (first | (with_reducible first | exact HB.out | apply below_alloc | apply pw_below_drewN | apply below_drew1) | exact HB.out)) hb); have n1_ := Aside0.mk (hbox); have n2_ := Aside0.mk ((by rw [hg]; exact (below_size (by repeat (first | (with_reducible first | exact HB.out | apply below_alloc | apply pw_below_drewN | apply below_drew1) | exact HB.out))) : w.heap.size ≤ qb)); have n3_ := Aside0.mk ((by rw [hg]; exact (below_size (by repeat (first | (with_reducible first | exact HB.out | apply below_alloc | apply pw_below_drewN | apply below_drew1) | exact HB.out))) : w.heap.size ≤ qb)); clear HB; have HB := n0_; have qa := n1_; have GW155 := n2_; have GE155 := n3_; clear n0_ n1_ n2_ n3_; clear hb hbox hg; have hcz9_0 : w8.cell? ⟨qb, 0, none⟩ = some (.string a0_0) := (blk_cell qa.out 0).trans rfl; have hcz9_1 : w8.cell? ⟨qb, 1, none⟩ = some (.string a0_1) := (blk_cell qa.out 1).trans rfl; have hcz9_2 : w8.cell? ⟨qb, 2, none⟩ = some (.bool a0_2) := (blk_cell qa.out 2).trans rfl; have hfz9_0 := blk_frozen qa.out 0; have hfz9_1 := blk_frozen qa.out 1; have hfz9_2 := blk_frozen qa.out 2) | ((with_reducible refine gate_callee (f := 57) rfl ?_); refine goesL_ (some 5) rfl rfl Tryd.func57 (by kernel_rfl) rfl #[.string a0_0] rfl (by (try simp only [List.map_toArray, List.map_cons, List.map_nil]); first | done | rfl | (simp only [List.length_drop, List.length_take]; rfl)) ?_; (with_reducible refine (impl_ValidPath.calls k a0_0 false _ ?sideG A2.out).mono ?_); (case sideG => (first | exact HG.out | exact GOK.below HG.out (by repeat (first | (with_reducible first | exact HB.out | apply below_alloc | apply pw_below_drewN | apply below_drew1 | refine below_set ?_ GE155.out) | exact HB.out | exact Below.refl _ _)))); rintro e w10 ⟨rfl, hb⟩; refine ⟨_, rfl, ?_⟩; have n0_ := Aside0.mk (blk_below (g := qb) (o := .cells #[.string a0_0, .string a0_1, .bool a0_2] 45 (0, 0)) (by (with_reducible repeat (first | apply blk_drewN | apply blk_drew | apply blk_alloc)); exact qa.out) hb); have n1_ := Aside0.mk (below_step (by repeat (first | (with_reducible first | exact HB.out | apply below_alloc | apply pw_below_drewN | apply below_drew1 | refine below_set ?_ GE155.out) | exact HB.out)) hb); clear qa; clear HB; have qa := n0_; have HB := n1_; clear n0_ n1_; (try clear hb); (try clear hb2); (try clear hk); (try clear hi)))
  go_ret
  exact ⟨by first | rfl | (simp [errW_none, errW_some] <;> rfl) | (simp [*, errW_none, errW_some] <;> rfl), by repeat (first | (with_reducible first | exact HB.out | apply below_alloc | apply pw_below_drewN | apply below_drew1 | refine below_set ?_ GE155.out) | exact HB.out)⟩

end Go.Proofs.YtkdghhkpmkfjhaaDoor.P


namespace Go.Proofs.YtkdghhkpmkfjhaaDoor.P
open Go.RowKit Go.Proofs.YtkdghhkpmkfjhaaDoorW.PrintWords Go.Proofs.YtkdghhkpmkfjhaaDoorW.PrintLast Go.Proofs.YtkdghhkpmkfjhaaDoorW.PrintMore
attribute [local go_sem] max2_int min2_int max_two min_two max_three min_three max_four min_four
set_option linter.unusedVariables false
set_option linter.unusedSimpArgs false

abbrev tm34 := true
abbrev fm34 := false
abbrev bm34_0 : Array Bool := #[fm34, fm34, fm34, fm34, fm34, fm34, fm34, fm34, fm34, fm34, fm34, fm34, fm34, fm34, fm34, fm34, fm34, fm34, fm34]
abbrev bm34_1 : Array Bool := #[tm34, fm34, fm34, fm34, fm34, fm34, fm34, fm34, fm34, fm34, fm34, fm34, fm34, fm34, fm34, fm34, fm34, fm34, fm34]
abbrev bm34_2 : Array Bool := #[tm34, tm34, fm34, fm34, fm34, fm34, fm34, fm34, fm34, fm34, fm34, fm34, fm34, fm34, fm34, fm34, fm34, fm34, fm34]
abbrev bm34_3 : Array Bool := #[tm34, tm34, tm34, fm34, fm34, fm34, fm34, fm34, fm34, fm34, fm34, fm34, fm34, fm34, fm34, fm34, fm34, fm34, fm34]
abbrev bm34_4 : Array Bool := #[tm34, tm34, tm34, tm34, fm34, fm34, fm34, fm34, fm34, fm34, fm34, fm34, fm34, fm34, fm34, fm34, fm34, fm34, fm34]
abbrev bm34_5 : Array Bool := #[tm34, tm34, tm34, tm34, tm34, fm34, fm34, fm34, fm34, fm34, fm34, fm34, fm34, fm34, fm34, fm34, fm34, fm34, fm34]
abbrev bm34_6 : Array Bool := #[tm34, tm34, tm34, tm34, tm34, tm34, fm34, fm34, fm34, fm34, fm34, fm34, fm34, fm34, fm34, fm34, fm34, fm34, fm34]
abbrev bm34_7 : Array Bool := #[tm34, tm34, tm34, tm34, tm34, tm34, tm34, fm34, fm34, fm34, fm34, fm34, fm34, fm34, fm34, fm34, fm34, fm34, fm34]
abbrev bm34_8 : Array Bool := #[tm34, tm34, tm34, tm34, tm34, tm34, tm34, tm34, fm34, fm34, fm34, fm34, fm34, fm34, fm34, fm34, fm34, fm34, fm34]
abbrev bm34_9 : Array Bool := #[tm34, tm34, tm34, tm34, tm34, tm34, tm34, tm34, fm34, tm34, fm34, fm34, fm34, fm34, fm34, fm34, fm34, fm34, fm34]
abbrev bm34_10 : Array Bool := #[tm34, tm34, tm34, tm34, tm34, tm34, tm34, tm34, fm34, tm34, tm34, fm34, fm34, fm34, fm34, fm34, fm34, fm34, fm34]
abbrev bm34_11 : Array Bool := #[tm34, tm34, tm34, tm34, tm34, tm34, tm34, tm34, fm34, tm34, tm34, fm34, fm34, fm34, tm34, fm34, fm34, fm34, fm34]
abbrev bm34_12 : Array Bool := #[tm34, tm34, tm34, tm34, tm34, tm34, tm34, tm34, tm34, tm34, tm34, fm34, fm34, fm34, tm34, fm34, fm34, fm34, fm34]
abbrev bm34_13 : Array Bool := #[tm34, tm34, tm34, tm34, tm34, tm34, tm34, tm34, tm34, tm34, tm34, tm34, fm34, fm34, tm34, fm34, fm34, fm34, fm34]
abbrev bm34_14 : Array Bool := #[tm34, tm34, tm34, tm34, tm34, tm34, tm34, tm34, tm34, tm34, tm34, tm34, tm34, fm34, tm34, fm34, fm34, fm34, fm34]
abbrev bm34_15 : Array Bool := #[tm34, tm34, tm34, tm34, tm34, tm34, tm34, tm34, tm34, tm34, tm34, tm34, tm34, tm34, tm34, fm34, fm34, fm34, fm34]
abbrev bm34_16 : Array Bool := #[tm34, tm34, tm34, tm34, tm34, tm34, tm34, tm34, tm34, tm34, tm34, tm34, tm34, tm34, tm34, tm34, fm34, fm34, fm34]
abbrev bm34_17 : Array Bool := #[tm34, tm34, tm34, tm34, tm34, tm34, tm34, tm34, tm34, tm34, tm34, tm34, tm34, tm34, tm34, tm34, tm34, fm34, fm34]
abbrev bm34_18 : Array Bool := #[tm34, tm34, tm34, tm34, tm34, tm34, tm34, tm34, tm34, tm34, tm34, tm34, tm34, tm34, tm34, tm34, tm34, tm34, fm34]
abbrev bm34_19 : Array Bool := #[tm34, tm34, tm34, tm34, tm34, tm34, tm34, tm34, tm34, tm34, tm34, tm34, tm34, tm34, tm34, tm34, tm34, tm34, tm34]
abbrev bm34_20 : Array Bool := #[tm34, tm34, tm34, tm34, tm34, tm34, tm34, tm34, tm34, fm34, fm34, fm34, fm34, fm34, fm34, fm34, fm34, fm34, fm34]
abbrev bm34_21 : Array Bool := #[tm34, tm34, tm34, tm34, tm34, tm34, tm34, tm34, tm34, tm34, fm34, fm34, fm34, fm34, fm34, fm34, fm34, fm34, fm34]
abbrev bm34_22 : Array Bool := #[tm34, tm34, tm34, tm34, tm34, tm34, tm34, tm34, tm34, tm34, tm34, fm34, fm34, fm34, fm34, fm34, fm34, fm34, fm34]
abbrev bm34_23 : Array Bool := #[tm34, tm34, tm34, tm34, tm34, tm34, tm34, tm34, tm34, tm34, tm34, tm34, fm34, fm34, fm34, fm34, fm34, fm34, fm34]
abbrev bm34_24 : Array Bool := #[tm34, tm34, tm34, tm34, tm34, tm34, tm34, tm34, tm34, tm34, tm34, tm34, tm34, fm34, fm34, fm34, fm34, fm34, fm34]
abbrev bm34_25 : Array Bool := #[tm34, tm34, tm34, tm34, tm34, tm34, tm34, tm34, tm34, tm34, tm34, tm34, tm34, tm34, fm34, fm34, fm34, fm34, fm34]
abbrev bm34_26 : Array Bool := #[fm34, fm34, fm34, fm34, fm34, fm34, fm34, fm34, fm34]
abbrev bm34_27 : Array Bool := #[tm34, fm34, fm34, fm34, fm34, fm34, fm34, fm34, fm34]
abbrev bm34_28 : Array Bool := #[tm34, fm34, tm34, fm34, fm34, fm34, fm34, fm34, fm34]
abbrev bm34_29 : Array Bool := #[tm34, fm34, tm34, fm34, fm34, fm34, tm34, fm34, fm34]
abbrev bm34_30 : Array Bool := #[tm34, tm34, tm34, fm34, fm34, fm34, tm34, fm34, fm34]
abbrev bm34_31 : Array Bool := #[tm34, tm34, tm34, tm34, fm34, fm34, tm34, fm34, fm34]
abbrev bm34_32 : Array Bool := #[tm34, tm34, tm34, tm34, tm34, fm34, tm34, fm34, fm34]
abbrev bm34_33 : Array Bool := #[tm34, tm34, tm34, tm34, tm34, tm34, tm34, fm34, fm34]
abbrev bm34_34 : Array Bool := #[tm34, tm34, tm34, tm34, tm34, tm34, tm34, tm34, fm34]
abbrev bm34_35 : Array Bool := #[tm34, tm34, tm34, tm34, tm34, tm34, tm34, tm34, tm34]
theorem um34 : (∀ (a : Act) (d : Tmp) (v : Value), Act.put a (some d) v = { a with tmps := a.tmps.setIfInBounds d v }) ∧ (∀ (l : List Value) (i : Nat) (a : Value), l.toArray.setIfInBounds i a = (l.set i a).toArray) ∧ (∀ (x : Value) (l : List Value) (a : Value), (x :: l).set 0 a = a :: l) ∧ (∀ (x : Value) (l : List Value) (i : Nat) (a : Value), (x :: l).set (i + 1) a = x :: l.set i a) ∧ (∀ n : Int, IntKind.i64.wrap n = wrap64 n) := ⟨fun _ _ _ => rfl, fun l i a => List.setIfInBounds_toArray l i a, fun _ _ _ => rfl, fun _ _ _ _ => rfl, i64_w⟩
/-! ### impl_ValidTree: function 15 -/
mutual
def impl_ValidTree.l0 : Nat → List (S45) → Int → Int → List (S45) → Option (Bool)
 | 0, _, _, _, _ => none
 | k + 1, x11, x12, x13, x160000 => if x13 < x12 then (if 0 ≤ x13 then (if x13 < (x11.length : Int) then ((impl_goodEntry.f k ((rd_T45 x11 x13).f0) ((rd_T45 x11 x13).f1) ((rd_T45 x11 x13).f2)).bind fun t162 => (if t162 = true then (if x13 > 0 then (if 0 ≤ (wrap64 (x13 - 1)) then (if (wrap64 (x13 - 1)) < (x160000.length : Int) then (impl_ValidTree.j1 k x13 x11 x12 x13 (!(Op.bytesLess (((rd_T45 x160000 (wrap64 (x13 - 1))).f0).toList) (((rd_T45 x11 x13).f0).toList))) x160000 ((rd_T45 x11 x13).f0) ((rd_T45 x11 x13).f1) ((rd_T45 x11 x13).f2)) else (none)) else (none)) else (impl_ValidTree.j1 k x13 x11 x12 x13 false x160000 ((rd_T45 x11 x13).f0) ((rd_T45 x11 x13).f1) ((rd_T45 x11 x13).f2))) else (impl_ValidTree.j1 k x13 x11 x12 x13 true x160000 ((rd_T45 x11 x13).f0) ((rd_T45 x11 x13).f1) ((rd_T45 x11 x13).f2)))) else (none)) else (none)) else (some true)
def impl_ValidTree.j1 : Nat → Int → List (S45) → Int → Int → Bool → List (S45) → ByteArray → ByteArray → Bool → Option (Bool)
 | 0, _, _, _, _, _, _, _, _, _ => none
 | k + 1, x3, x11, x12, x13, x36, x160000, x162000, x162001, x162002 => if x36 = true then (some false) else (impl_ValidTree.l1 k x3 0 x11 x12 x13 x160000 x162000 x162001 x162002)
def impl_ValidTree.l1 : Nat → Int → Int → List (S45) → Int → Int → List (S45) → ByteArray → ByteArray → Bool → Option (Bool)
 | 0, _, _, _, _, _, _, _, _, _ => none
 | k + 1, x3, x5, x11, x12, x13, x160000, x162000, x162001, x162002 => if x5 < x3 then (if 0 ≤ x5 then (if x5 < (x160000.length : Int) then ((impl_over.f ((rd_T45 x160000 x5).f0) x162000).bind fun t165 => (if t165 = true then (some false) else (impl_ValidTree.l1 k x3 (wrap64 (x5 + 1)) x11 x12 x13 x160000 x162000 x162001 x162002))) else (none)) else (none)) else (impl_ValidTree.l0 k x11 x12 (wrap64 (x13 + 1)) x160000)
end
def impl_ValidTree.f (k : Nat) (qa : List (S45)) : Option (Bool) := if (qa.length : Int) > 100 then (some false) else (impl_ValidTree.l0 k qa (qa.length : Int) 0 qa)
theorem impl_ValidTree.mono_l : ∀ k, (∀ y0 y1 y2 y3, LeO (impl_ValidTree.l0 k y0 y1 y2 y3) (impl_ValidTree.l0 (k + 1) y0 y1 y2 y3)) ∧ (∀ y0 y1 y2 y3 y4 y5 y6 y7 y8, LeO (impl_ValidTree.j1 k y0 y1 y2 y3 y4 y5 y6 y7 y8) (impl_ValidTree.j1 (k + 1) y0 y1 y2 y3 y4 y5 y6 y7 y8)) ∧ (∀ y0 y1 y2 y3 y4 y5 y6 y7 y8, LeO (impl_ValidTree.l1 k y0 y1 y2 y3 y4 y5 y6 y7 y8) (impl_ValidTree.l1 (k + 1) y0 y1 y2 y3 y4 y5 y6 y7 y8))
 | 0 => ⟨fun _ _ _ _ r h => by simp [impl_ValidTree.l0] at h, fun _ _ _ _ _ _ _ _ _ r h => by simp [impl_ValidTree.j1] at h, fun _ _ _ _ _ _ _ _ _ r h => by simp [impl_ValidTree.l1] at h⟩
 | k + 1 => by
  obtain ⟨ih0, ih1, ih2⟩ := impl_ValidTree.mono_l k; refine ⟨?_, ?_, ?_⟩
  ·intro y0 y1 y2 y3
   unfold impl_ValidTree.l0
   repeat' first
   | (with_reducible exact ih0 _ _ _ _)
   | (with_reducible exact ih1 _ _ _ _ _ _ _ _ _)
   | (with_reducible exact ih2 _ _ _ _ _ _ _ _ _)
   | (with_reducible exact impl_goodEntry.mono _ _ _ _)
   | (with_reducible exact LeO.refl _)
   | (with_reducible exact LeO.none _)
   | (with_reducible refine LeO.ite ?_ ?_)
   | (with_reducible refine LeO.bind ?_ (fun _ => ?_))
   | exact ih0 _ _ _ _
   | exact ih1 _ _ _ _ _ _ _ _ _
   | exact ih2 _ _ _ _ _ _ _ _ _
   | exact impl_goodEntry.mono _ _ _ _
   | exact LeO.none _
   | refine LeO.ite ?_ ?_
   | refine LeO.bind ?_ (fun _ => ?_)
  ·intro y0 y1 y2 y3 y4 y5 y6 y7 y8
   unfold impl_ValidTree.j1
   repeat' first
   | (with_reducible exact ih0 _ _ _ _)
   | (with_reducible exact ih1 _ _ _ _ _ _ _ _ _)
   | (with_reducible exact ih2 _ _ _ _ _ _ _ _ _)
   | (with_reducible exact impl_goodEntry.mono _ _ _ _)
   | (with_reducible exact LeO.refl _)
   | (with_reducible exact LeO.none _)
   | (with_reducible refine LeO.ite ?_ ?_)
   | (with_reducible refine LeO.bind ?_ (fun _ => ?_))
   | exact ih0 _ _ _ _
   | exact ih1 _ _ _ _ _ _ _ _ _
   | exact ih2 _ _ _ _ _ _ _ _ _
   | exact impl_goodEntry.mono _ _ _ _
   | exact LeO.none _
   | refine LeO.ite ?_ ?_
   | refine LeO.bind ?_ (fun _ => ?_)
  ·intro y0 y1 y2 y3 y4 y5 y6 y7 y8
   unfold impl_ValidTree.l1
   repeat' first
   | (with_reducible exact ih0 _ _ _ _)
   | (with_reducible exact ih1 _ _ _ _ _ _ _ _ _)
   | (with_reducible exact ih2 _ _ _ _ _ _ _ _ _)
   | (with_reducible exact impl_goodEntry.mono _ _ _ _)
   | (with_reducible exact LeO.refl _)
   | (with_reducible exact LeO.none _)
   | (with_reducible refine LeO.ite ?_ ?_)
   | (with_reducible refine LeO.bind ?_ (fun _ => ?_))
   | exact ih0 _ _ _ _
   | exact ih1 _ _ _ _ _ _ _ _ _
   | exact ih2 _ _ _ _ _ _ _ _ _
   | exact impl_goodEntry.mono _ _ _ _
   | exact LeO.none _
   | refine LeO.ite ?_ ?_
   | refine LeO.bind ?_ (fun _ => ?_)
theorem impl_ValidTree.mono : ∀ a0 k, LeO (impl_ValidTree.f k a0) (impl_ValidTree.f (k + 1) a0) := by
 intro a0 k; obtain ⟨ih0, ih1, ih2⟩ := impl_ValidTree.mono_l k
 unfold impl_ValidTree.f
 repeat' first
   | (with_reducible exact ih0 _ _ _ _)
   | (with_reducible exact ih1 _ _ _ _ _ _ _ _ _)
   | (with_reducible exact ih2 _ _ _ _ _ _ _ _ _)
   | (with_reducible exact impl_goodEntry.mono _ _ _ _)
   | (with_reducible exact LeO.refl _)
   | (with_reducible exact LeO.none _)
   | (with_reducible refine LeO.ite ?_ ?_)
   | (with_reducible refine LeO.bind ?_ (fun _ => ?_))
   | exact ih0 _ _ _ _
   | exact ih1 _ _ _ _ _ _ _ _ _
   | exact ih2 _ _ _ _ _ _ _ _ _
   | exact impl_goodEntry.mono _ _ _ _
   | exact LeO.none _
   | refine LeO.ite ?_ ?_
   | refine LeO.bind ?_ (fun _ => ?_)
def impl_ValidTree.T6 : Bool × List (List Nat × List Nat) := (true, [([], []), ([0], [0]), ([1], [1]), ([2, 1], [2]), ([3], [3]), ([4, 3], [3, 4]), ([5, 3, 3], [3, 5]), ([6], [6]), ([7, 6], [6, 7]), ([6], [6]), ([9, 6], [6, 9]), ([8, 10, 6], [6, 8, 10]), ([11, 6], [6, 11]), ([12, 6], [6, 12]), ([6], [6]), ([14, 6], [6, 14]), ([13, 15, 6], [6, 13, 15]), ([6, 16, 3], [3, 6, 16]), ([3, 17], [3, 17])])
def impl_ValidTree.B6 : List Nat := [0, 1, 3, 7, 15, 31, 63, 127, 255, 127, 639, 2047, 4095, 8191, 127, 16511, 65535, 131071, 262143]
theorem impl_ValidTree.tab6 : rtab .any (opsOf Tryd.f15 6) = impl_ValidTree.T6 := by kernel_rfl
theorem impl_ValidTree.bits6 : waitsOk impl_ValidTree.T6.2 impl_ValidTree.B6 = true := by kernel_rfl
def impl_ValidTree.T11 : Bool × List (List Nat × List Nat) := (true, [([], []), ([0], [0]), ([], []), ([1, 2], [1, 2]), ([3], [3]), ([4], [4]), ([], []), ([6], [6]), ([5, 7], [5, 7])])
def impl_ValidTree.B11 : List Nat := [0, 1, 0, 7, 15, 31, 0, 64, 255]
theorem impl_ValidTree.tab11 : rtab .any (opsOf Tryd.f15 11) = impl_ValidTree.T11 := by kernel_rfl
theorem impl_ValidTree.bits11 : waitsOk impl_ValidTree.T11.2 impl_ValidTree.B11 = true := by kernel_rfl
set_option maxHeartbeats 8000000 in
set_option maxRecDepth 100000 in
theorem impl_ValidTree.calls (k : Nat) (A0_0 : Option Addr) (ql : Nat) (qa : List (S45)) (r : Bool) (w : World) (hg : GOK w) (hr0_0 : Kd.C k45 w A0_0 qa.length qa) (hc0_0 : qa.length ≤ ql) (h : impl_ValidTree.f k qa = some r) :
  Calls Tryd.prog 15 #[.agg #[.slice A0_0 qa.length ql]] w fun e w' => e = .returned (.bool r) ∧ Below w.heap.size w w' := by
 have HG := Aside0.mk hg; clear hg; have hu29 := Tryd.underlying29; have hu45 := Tryd.underlying45; have HR0_0 := Aside0.mk hr0_0; have HC0_0 := Aside0.mk hc0_0; clear hr0_0 hc0_0; have HB := Aside0.mk (Below.refl w.heap.size w); have H : (if (qa.length : Int) > 100 then (some false) else (impl_ValidTree.l0 k qa (qa.length : Int) 0 qa)) = some r := h; clear h
 by_cases c2 : (qa.length : Int) > 100
 ·rw [if_pos c2] at H
  have c2b0 : decide (100 < (qa.length : Int)) = true := decide_eq_true c2; have c2b1 : decide (100 < qa.length) = true := decide_eq_true (by omega); clear c2; obtain rfl := Option.some.inj H
  go_enter Tryd.func15, Tryd.ntmps15
  go_wp2_with (first | ((with_reducible refine gate_dst (N := 1) rfl ?_); refine box_event ?hg (N := 1) ?hd (cs := #[.slice A0_0 qa.length ql]) (t := 29) ?hr ?_; (case hd => rfl); (case hg => rfl); (case hr => first | (go_simp; done) | (go_simp; rfl)); intro qj hg w3 hbox hb; have qf := Aside0.mk (below_step (by repeat (first | (with_reducible first | exact HB.out | apply below_alloc | apply pw_below_drewN | apply below_drew1) | exact HB.out)) hb); have qg := Aside0.mk (hbox); have qh := Aside0.mk ((by rw [hg]; exact (below_size (by repeat (first | (with_reducible first | exact HB.out | apply below_alloc | apply pw_below_drewN | apply below_drew1) | exact HB.out))) : w.heap.size ≤ qj)); have n3_ := Aside0.mk ((by rw [hg]; exact (below_size (by repeat (first | (with_reducible first | exact HB.out | apply below_alloc | apply pw_below_drewN | apply below_drew1) | exact HB.out))) : w.heap.size ≤ qj)); clear HB; have HB := qf; have qe := qg; have GW159 := qh; have qk := n3_; clear qf qg qh n3_; clear hb hbox hg; have hcz4_0 : w3.cell? ⟨qj, 0, none⟩ = some (.slice A0_0 qa.length ql) := (blk_cell qe.out 0).trans rfl; have hfz4_0 := blk_frozen qe.out 0))
  go_ret
  exact ⟨by first | rfl | (simp [errW_none, errW_some] <;> rfl) | (simp [*, errW_none, errW_some] <;> rfl), by repeat (first | (with_reducible first | exact HB.out | apply below_alloc | apply pw_below_drewN | apply below_drew1 | refine below_set ?_ qk.out) | exact HB.out)⟩
 ·rw [if_neg c2] at H
  have c2b0 : decide (100 < (qa.length : Int)) = false := decide_eq_false c2; have c2b1 : decide (100 < qa.length) = false := decide_eq_false (by omega); clear c2; have H' := Aside0.mk H; clear H
  go_enter Tryd.func15, Tryd.ntmps15
  go_wp2_with (first | ((with_reducible refine gate_dst (N := 1) rfl ?_); refine box_event ?hg (N := 1) ?hd (cs := #[.slice A0_0 qa.length ql]) (t := 29) ?hr ?_; (case hd => rfl); (case hg => rfl); (case hr => first | (go_simp; done) | (go_simp; rfl)); intro qj hg w5 hbox hb; have qf := Aside0.mk (below_step (by repeat (first | (with_reducible first | exact HB.out | apply below_alloc | apply pw_below_drewN | apply below_drew1) | exact HB.out)) hb); have qg := Aside0.mk (hbox); have qh := Aside0.mk ((by rw [hg]; exact (below_size (by repeat (first | (with_reducible first | exact HB.out | apply below_alloc | apply pw_below_drewN | apply below_drew1) | exact HB.out))) : w.heap.size ≤ qj)); have n3_ := Aside0.mk ((by rw [hg]; exact (below_size (by repeat (first | (with_reducible first | exact HB.out | apply below_alloc | apply pw_below_drewN | apply below_drew1) | exact HB.out))) : w.heap.size ≤ qj)); clear HB; have HB := qf; have qe := qg; have GW159 := qh; have qk := n3_; clear qf qg qh n3_; clear hb hbox hg; have hcz6_0 : w5.cell? ⟨qj, 0, none⟩ = some (.slice A0_0 qa.length ql) := (blk_cell qe.out 0).trans rfl; have hfz6_0 := blk_frozen qe.out 0))
  go_loopg [13] k (fun kq v13 w' => ∃ (qb : Int), v13 = .int .i64 qb ∧ Aside0 (impl_ValidTree.l0 kq qa (qa.length : Int) qb qa = some r) ∧ Aside0 (kq ≤ k) ∧ Aside0 (w'.heap[qj]? = some (.cells #[(.slice A0_0 qa.length ql)] 29 (0, 0))) ∧ Aside0 (Below w.heap.size w w'))
  case atStart => exact ⟨(0), (by first | rfl | (simp; done) | (simp [*]; done)), H', ⟨Nat.le_refl _⟩, ⟨by (with_reducible repeat (first | apply blk_drewN | apply blk_drew | apply blk_alloc)); exact qe.out⟩, ⟨by repeat (first | (with_reducible first | exact HB.out | apply below_alloc | apply pw_below_drewN | apply below_drew1 | refine below_set ?_ qk.out) | exact HB.out)⟩⟩
  case round =>
   clear H'; (try clear c1); (try clear c2); (try clear c2b0); (try clear c2b1); (try clear p2); (try clear hcz4_0); (try clear hcz6_0); (try clear hfz4_0); (try clear hfz6_0); obtain ⟨qb, rfl, HA, HK1, qe, HB⟩ := hrel
   cases gk with
   | zero => exact absurd HA.out (by simp [impl_ValidTree.l0])
   | succ k1 =>
    have H := HA.out; clear HA; simp only [impl_ValidTree.l0] at H
    by_cases c7 : qb < (qa.length : Int)
    ·rw [if_pos c7] at H
     have c7b0 : decide (qb < (qa.length : Int)) = true := decide_eq_true c7; clear c7
     by_cases c8 : 0 ≤ qb
     ·rw [if_pos c8] at H
      have c8b0 : decide (0 ≤ qb) = true := decide_eq_true c8; clear c8
      by_cases c9 : qb < (qa.length : Int)
      ·rw [if_pos c9] at H
       have c9b0 : decide (qb < (qa.length : Int)) = true := decide_eq_true c9; clear c9; have HC10 := Aside0.mk H; clear H; have p160 : 0 ≤ (qb : Int) := of_decide_eq_true (by first | (with_reducible assumption) | assumption); have q160 : qb < (qa.length : Int) := of_decide_eq_true (by first | (with_reducible assumption) | assumption); obtain ⟨ad160, e160, hx160_0, hx160_1, hx160_2⟩ := at_T45 HR0_0.out qb p160 q160
       cases e160
       replace hx160_0 := (HB.out.cell (World.block_lt_of_cell? w _ hx160_0)).trans hx160_0; replace hx160_1 := (HB.out.cell (World.block_lt_of_cell? w _ hx160_1)).trans hx160_1; replace hx160_2 := (HB.out.cell (World.block_lt_of_cell? w _ hx160_2)).trans hx160_2; replace p160 := eq_true p160; replace q160 := eq_true q160
       go_upto_region 6 with (first | ((with_reducible refine gate_dst (N := 4) rfl ?_); refine box_event ?hg (N := 4) ?hd (cs := #[.string (⟨#[]⟩ : ByteArray), .string (⟨#[]⟩ : ByteArray), .bool false]) (t := 45) ?hr ?_; (case hd => rfl); (case hg => rfl); (case hr => first | (go_simp; done) | (go_simp; rfl)); intro qd hg w11 hbox hb; have qf := Aside0.mk (blk_below (g := qj) (o := .cells #[.slice (some ad160) qa.length ql] 29 (0, 0)) (by (with_reducible repeat (first | apply blk_drewN | apply blk_drew | apply blk_alloc)); exact qe.out) hb); have qg := Aside0.mk (below_step (by repeat (first | (with_reducible first | exact HB.out | apply below_alloc | apply pw_below_drewN | apply below_drew1 | refine below_set ?_ qk.out) | exact HB.out)) hb); have qh := Aside0.mk (hbox); have n3_ := Aside0.mk ((by rw [hg]; exact (below_size (by repeat (first | (with_reducible first | exact HB.out | apply below_alloc | apply pw_below_drewN | apply below_drew1 | refine below_set ?_ qk.out) | exact HB.out))) : w.heap.size ≤ qd)); have n4_ := Aside0.mk ((by rw [hg]; exact (below_size (by repeat (first | (with_reducible first | exact HB.out | apply below_alloc | apply pw_below_drewN | apply below_drew1 | refine below_set ?_ qk.out) | exact HB.out))) : w.heap.size ≤ qd)); have n5_ := Aside0.mk ((by rw [hg]; exact Nat.ne_of_lt (blk_lt (g := qj) (o := .cells #[.slice (some ad160) qa.length ql] 29 (0, 0)) (by (with_reducible repeat (first | apply blk_drewN | apply blk_drew | apply blk_alloc)); exact qe.out)) : qj ≠ qd)); have n6_ := Aside0.mk ((by rw [hg]; exact Nat.ne_of_gt (blk_lt (g := qj) (o := .cells #[.slice (some ad160) qa.length ql] 29 (0, 0)) (by (with_reducible repeat (first | apply blk_drewN | apply blk_drew | apply blk_alloc)); exact qe.out)) : qd ≠ qj)); clear qe; clear HB; have qe := qf; have HB := qg; have qc := qh; have GW161 := n3_; have qn := n4_; have qo := n5_; have NB161_159 := n6_; clear qf qg qh n3_ n4_ n5_ n6_; clear hb hbox hg; have hnb12 := NB161_159.out; have hnc12 := qo.out; have hcz13_0 : w11.cell? ⟨qd, 0, none⟩ = some (.string (⟨#[]⟩ : ByteArray)) := (blk_cell qc.out 0).trans rfl; have hcz13_1 : w11.cell? ⟨qd, 1, none⟩ = some (.string (⟨#[]⟩ : ByteArray)) := (blk_cell qc.out 1).trans rfl; have hcz13_2 : w11.cell? ⟨qd, 2, none⟩ = some (.bool false) := (blk_cell qc.out 2).trans rfl; have hfz13_0 := blk_frozen qc.out 0; have hfz13_1 := blk_frozen qc.out 1; have hfz13_2 := blk_frozen qc.out 2))
       (try simp only [Act.put, List.setIfInBounds_toArray, List.set_cons_zero, List.set_cons_succ])
       go_cut [36] (fun v36 wc => ∃ (kq : Nat) (x36_9 : Bool), v36 = .bool x36_9 ∧ Aside0 (impl_ValidTree.j1 kq qb qa (qa.length : Int) qb x36_9 qa ((rd_T45 qa qb).f0) ((rd_T45 qa qb).f1) ((rd_T45 qa qb).f2) = some r) ∧ Aside0 (kq ≤ k1) ∧ Aside0 (wc.heap[qj]? = some (.cells #[(.slice (some ad160) qa.length ql)] 29 (0, 0))) ∧ Aside0 (wc.heap[qd]? = some (.cells #[.string ((rd_T45 qa qb).f0), .string ((rd_T45 qa qb).f1), .bool ((rd_T45 qa qb).f2)] 45 (0, 0))) ∧ Aside0 (Below w.heap.size w wc))
       case first =>
        have H := HC10.out; clear HC10; replace H := Option.bind_eq_some_iff.mp H; obtain ⟨t162, A140, H⟩ := H; replace H : (if t162 = true then (if qb > 0 then (if 0 ≤ (wrap64 (qb - 1)) then (if (wrap64 (qb - 1)) < (qa.length : Int) then (impl_ValidTree.j1 k1 qb qa (qa.length : Int) qb (!(Op.bytesLess (((rd_T45 qa (wrap64 (qb - 1))).f0).toList) (((rd_T45 qa qb).f0).toList))) qa ((rd_T45 qa qb).f0) ((rd_T45 qa qb).f1) ((rd_T45 qa qb).f2)) else (none)) else (none)) else (impl_ValidTree.j1 k1 qb qa (qa.length : Int) qb false qa ((rd_T45 qa qb).f0) ((rd_T45 qa qb).f1) ((rd_T45 qa qb).f2))) else (impl_ValidTree.j1 k1 qb qa (qa.length : Int) qb true qa ((rd_T45 qa qb).f0) ((rd_T45 qa qb).f1) ((rd_T45 qa qb).f2))) = some r := H; have A14 := Aside0.mk A140; clear A140
        by_cases c15 : t162 = true
        ·subst c15
         have H1 : (if qb > 0 then (if 0 ≤ (wrap64 (qb - 1)) then (if (wrap64 (qb - 1)) < (qa.length : Int) then (impl_ValidTree.j1 k1 qb qa (qa.length : Int) qb (!(Op.bytesLess (((rd_T45 qa (wrap64 (qb - 1))).f0).toList) (((rd_T45 qa qb).f0).toList))) qa ((rd_T45 qa qb).f0) ((rd_T45 qa qb).f1) ((rd_T45 qa qb).f2)) else (none)) else (none)) else (impl_ValidTree.j1 k1 qb qa (qa.length : Int) qb false qa ((rd_T45 qa qb).f0) ((rd_T45 qa qb).f1) ((rd_T45 qa qb).f2))) = some r := by rw [if_pos rfl] at H; exact H
         clear H; have H := H1; clear H1
         by_cases c16 : qb > 0
         ·rw [if_pos c16] at H
          have c16b0 : decide (0 < qb) = true := decide_eq_true c16; clear c16; (first | rw [c16b0] | (simp only [i64_w, i32_w]; rw [c16b0]) | skip)
          obtain ⟨qm, hji17⟩ : ∃ j_ : Int, (wrap64 (qb - 1)) = j_ := ⟨_, rfl⟩
          replace H : (if 0 ≤ (qm) then (if (qm) < (qa.length : Int) then (impl_ValidTree.j1 k1 qb qa (qa.length : Int) qb (!(Op.bytesLess (((rd_T45 qa (qm)).f0).toList) (((rd_T45 qa qb).f0).toList))) qa ((rd_T45 qa qb).f0) ((rd_T45 qa qb).f1) ((rd_T45 qa qb).f2)) else (none)) else (none)) = some r := by first | (rw [hji17] at H; exact H) | (simp only [hji17] at H ⊢; exact H)
          (try rw [hji17] at A14); have hji17w : (IntKind.i64.wrap (qb - 1)) = qm := (i64_w _).trans hji17
          by_cases c18 : 0 ≤ (qm)
          ·rw [if_pos c18] at H
           have c18b0 : decide (0 ≤ (qm)) = true := decide_eq_true c18; clear c18
           by_cases c19 : (qm) < (qa.length : Int)
           ·rw [if_pos c19] at H
            have c19b0 : decide ((qm) < (qa.length : Int)) = true := decide_eq_true c19; clear c19; have H' := Aside0.mk H; clear H
            try go_wp2
            have qf : Aside0 ((((w11.setCell ⟨qd, 0, none⟩ (.string ((rd_T45 qa qb).f0))).setCell ⟨qd, 1, none⟩ (.string ((rd_T45 qa qb).f1))).setCell ⟨qd, 2, none⟩ (.bool ((rd_T45 qa qb).f2))).heap[qj]? = some (.cells #[.slice (some ad160) qa.length ql] 29 (0, 0))) := ⟨by (with_reducible repeat (first | apply blk_drewN | apply blk_drew | apply blk_alloc)); refine blk_far ?_ qo.out _; (with_reducible repeat (first | apply blk_drewN | apply blk_drew | apply blk_alloc)); refine blk_far ?_ qo.out _; (with_reducible repeat (first | apply blk_drewN | apply blk_drew | apply blk_alloc)); refine blk_far ?_ qo.out _; (with_reducible repeat (first | apply blk_drewN | apply blk_drew | apply blk_alloc)); exact qe.out⟩
            have qg : Aside0 ((((w11.setCell ⟨qd, 0, none⟩ (.string ((rd_T45 qa qb).f0))).setCell ⟨qd, 1, none⟩ (.string ((rd_T45 qa qb).f1))).setCell ⟨qd, 2, none⟩ (.bool ((rd_T45 qa qb).f2))).heap[qd]? = some (.cells #[.string ((rd_T45 qa qb).f0), .string ((rd_T45 qa qb).f1), .bool ((rd_T45 qa qb).f2)] 45 (0, 0))) := ⟨by (with_reducible repeat (first | apply blk_drewN | apply blk_drew | apply blk_alloc)); refine blk_put (cs := #[.string ((rd_T45 qa qb).f0), .string ((rd_T45 qa qb).f1), .bool false]) ?_ 2 _ rfl; (with_reducible repeat (first | apply blk_drewN | apply blk_drew | apply blk_alloc)); refine blk_put (cs := #[.string ((rd_T45 qa qb).f0), .string (⟨#[]⟩ : ByteArray), .bool false]) ?_ 1 _ rfl; (with_reducible repeat (first | apply blk_drewN | apply blk_drew | apply blk_alloc)); refine blk_put (cs := #[.string (⟨#[]⟩ : ByteArray), .string (⟨#[]⟩ : ByteArray), .bool false]) ?_ 0 _ rfl; (with_reducible repeat (first | apply blk_drewN | apply blk_drew | apply blk_alloc)); exact qc.out⟩
            have qh : Aside0 (Below w.heap.size w (((w11.setCell ⟨qd, 0, none⟩ (.string ((rd_T45 qa qb).f0))).setCell ⟨qd, 1, none⟩ (.string ((rd_T45 qa qb).f1))).setCell ⟨qd, 2, none⟩ (.bool ((rd_T45 qa qb).f2)))) := ⟨by repeat (first | (with_reducible first | exact HB.out | apply below_alloc | apply pw_below_drewN | apply below_drew1 | refine below_set ?_ qk.out | refine below_set ?_ qn.out) | exact HB.out)⟩
            (try clear qe); (try clear qc); (try clear HB); generalize (((w11.setCell ⟨qd, 0, none⟩ (.string ((rd_T45 qa qb).f0))).setCell ⟨qd, 1, none⟩ (.string ((rd_T45 qa qb).f1))).setCell ⟨qd, 2, none⟩ (.bool ((rd_T45 qa qb).f2))) = w20 at qf qg qh ⊢; have qe := qf; have qc := qg; have HB := qh; clear qf qg qh; have qf := Aside0.mk (blk_drew qe.out); have qg := Aside0.mk (blk_drew qc.out); have qh := Aside0.mk (below_drew1 HB.out); clear qe; clear qc; clear HB; have qe := qf; have qc := qg; have HB := qh; clear qf qg qh; have p163 : 0 ≤ ((qm) : Int) := of_decide_eq_true (by first | (with_reducible assumption) | assumption); have q163 : (qm) < (qa.length : Int) := of_decide_eq_true (by first | (with_reducible assumption) | assumption); obtain ⟨ad163, e163, hx163_0, hx163_1, hx163_2⟩ := at_T45 HR0_0.out (qm) p163 q163; have hw163_2 := hx163_2; have hw163_1 := hx163_1; have hw163_0 := hx163_0
            obtain rfl : ad160 = ad163 := (by injection e163)
            replace hx163_0 := (HB.out.cell (World.block_lt_of_cell? w _ hx163_0)).trans hx163_0; replace hx163_1 := (HB.out.cell (World.block_lt_of_cell? w _ hx163_1)).trans hx163_1; replace hx163_2 := (HB.out.cell (World.block_lt_of_cell? w _ hx163_2)).trans hx163_2; replace p163 := eq_true p163; replace q163 := eq_true q163; refine start_ (n := 19) (S := fun w' => w'.cell? ⟨qd, 0, none⟩ = some (.string ((rd_T45 qa qb).f0)) ∧ w'.cell? ⟨qd, 1, none⟩ = some (.string ((rd_T45 qa qb).f1)) ∧ w'.cell? ⟨qd, 2, none⟩ = some (.bool ((rd_T45 qa qb).f2)) ∧ w'.cell? ⟨qj, 0, none⟩ = some (.slice (some ad160) qa.length ql) ∧ w'.cell? (ad160.add (((qm)).toNat * 3)) = some (.string ((rd_T45 qa (qm)).f0)) ∧ w'.cell? ⟨(ad160.add (((qm)).toNat * 3)).block, (ad160.add (((qm)).toNat * 3)).off + 1, none⟩ = some (.string ((rd_T45 qa (qm)).f1)) ∧ w'.cell? ⟨(ad160.add (((qm)).toNat * 3)).block, (ad160.add (((qm)).toNat * 3)).off + 2, none⟩ = some (.bool ((rd_T45 qa (qm)).f2))) (ds := []) bm34_0 (by kernel_rfl) rfl rfl ⟨(blk_cell qc.out 0).trans rfl, (blk_cell qc.out 1).trans rfl, (blk_cell qc.out 2).trans rfl, (blk_cell qe.out 0).trans rfl, ((HB.out.cell (World.block_lt_of_cell? w _ hw163_0)).trans hw163_0), ((HB.out.cell (World.block_lt_of_cell? w _ hw163_1)).trans hw163_1), ((HB.out.cell (World.block_lt_of_cell? w _ hw163_2)).trans hw163_2)⟩ (fun hHeld => ?_); refine with_tabW impl_ValidTree.tab6 impl_ValidTree.bits6 (fun HT_ HW_ => ?_); generalize w20.drew = w21 at qe qc HB hx163_0 hx163_1 hx163_2 hHeld ⊢; refine take_ (i := 0) (N := some 18) (v := ?_) (a' := ?_) bm34_1 rfl rfl (take_ofW HT_.out HW_.out (by kernel_rfl)) (fun _ _ _ h => h) (Or.inl ⟨by rfl, ?_⟩) hHeld ?_ ?_; rotate_left
            ·rintro w' ⟨s0, s1, s2, s3, s4, s5, s6⟩; go_simp; (with_reducible rfl)
            rotate_left; (·simp only [um34]; rfl)
            refine one_ (i := 1) (N := some 19) bm34_2 rfl rfl (one_of HT_.out (by kernel_rfl)) (by decide) (fun K hK => ?_); refine goes_ Tryd.func51 (by kernel_rfl) rfl #[.agg #[.string ((rd_T45 qa qb).f0), .string ((rd_T45 qa qb).f1), .bool ((rd_T45 qa qb).f2)]] (by rfl) rfl rfl (by (try simp only [List.map_toArray, List.map_cons, List.map_nil]); first | done | rfl | (simp only [List.length_drop, List.length_take]; rfl)) ?_; (with_reducible refine (impl_goodEntry.calls k1 ((rd_T45 qa qb).f0) ((rd_T45 qa qb).f1) ((rd_T45 qa qb).f2) true _ ?sideG A14.out).mono ?_; (case sideG => (first | exact HG.out | exact GOK.below HG.out (by repeat (first | (with_reducible first | exact HB.out | apply below_alloc | apply pw_below_drewN | apply below_drew1 | refine below_set ?_ qk.out | refine below_set ?_ qn.out) | exact HB.out | exact Below.refl _ _))))); rintro e w22 ⟨rfl, hb⟩; refine ⟨_, rfl, ?_⟩; have qf := Aside0.mk (blk_below (g := qj) (o := .cells #[.slice (some ad160) qa.length ql] 29 (0, 0)) (by (with_reducible repeat (first | apply blk_drewN | apply blk_drew | apply blk_alloc)); exact qe.out) hb); have qg := Aside0.mk (blk_below (g := qd) (o := .cells #[.string ((rd_T45 qa qb).f0), .string ((rd_T45 qa qb).f1), .bool ((rd_T45 qa qb).f2)] 45 (0, 0)) (by (with_reducible repeat (first | apply blk_drewN | apply blk_drew | apply blk_alloc)); exact qc.out) hb); have qh := Aside0.mk (below_step (by repeat (first | (with_reducible first | exact HB.out | apply below_alloc | apply pw_below_drewN | apply below_drew1 | refine below_set ?_ qk.out | refine below_set ?_ qn.out) | exact HB.out)) hb); clear qe; clear qc; clear HB; have qe := qf; have qc := qg; have HB := qh; clear qf qg qh; (try clear hb); (try clear hb2); (try clear hk); (try clear hi); refine hK.out _ _ ⟨(blk_cell qc.out 0).trans rfl, (blk_cell qc.out 1).trans rfl, (blk_cell qc.out 2).trans rfl, (blk_cell qe.out 0).trans rfl, ((HB.out.cell (World.block_lt_of_cell? w _ hw163_0)).trans hw163_0), ((HB.out.cell (World.block_lt_of_cell? w _ hw163_1)).trans hw163_1), ((HB.out.cell (World.block_lt_of_cell? w _ hw163_2)).trans hw163_2)⟩ (fun hHeld => ?_); clear hK K; refine norm_ (a' := ?_) ?_ ?_; rotate_left
            ·show Act.put _ (some 19) _ = _
             simp only [um34]; rfl
            refine pure_ (i := 2) (N := some 20) (v := ?_) (a' := ?_) bm34_3 rfl rfl (any_of HT_.out (by kernel_rfl)) (fun _ _ _ h => h) (Or.inl ⟨by rfl, ?_⟩) ?_ ?_; rotate_left
            ·intro w'; go_simp; (with_reducible rfl)
            rotate_left; (·simp only [um34]; rfl); refine pure_ (i := 3) (N := some 21) (v := ?_) (a' := ?_) bm34_4 rfl rfl (any_of HT_.out (by kernel_rfl)) (fun _ _ _ h => h) (Or.inl ⟨by rfl, ?_⟩) ?_ ?_; rotate_left
            ·intro w'; go_simp; (with_reducible rfl)
            rotate_left; (·simp only [um34]; rfl); refine pure_ (i := 4) (N := some 22) (v := ?_) (a' := ?_) bm34_5 rfl rfl (any_of HT_.out (by kernel_rfl)) (fun _ _ _ h => h) (Or.inl ⟨by rfl, ?_⟩) ?_ ?_; rotate_left
            ·intro w'; go_simp; (with_reducible rfl)
            rotate_left; (·simp only [um34]; rfl); refine pure_ (i := 5) (N := some 23) (v := ?_) (a' := ?_) bm34_6 rfl rfl (any_of HT_.out (by kernel_rfl)) (fun _ _ _ h => h) (Or.inl ⟨by rfl, ?_⟩) ?_ ?_; rotate_left
            ·intro w'; go_simp; (with_reducible rfl)
            rotate_left; (·simp only [um34]; rfl); refine pure_ (i := 6) (N := some 24) (v := ?_) (a' := ?_) bm34_7 rfl rfl (any_of HT_.out (by kernel_rfl)) (fun _ _ _ h => h) (Or.inl ⟨by rfl, ?_⟩) ?_ ?_; rotate_left
            ·intro w'; go_simp; (with_reducible rfl)
            rotate_left; (·simp only [um34]; rfl); refine pure_ (i := 7) (N := some 25) (v := ?_) (a' := ?_) bm34_8 rfl rfl (any_of HT_.out (by kernel_rfl)) (fun _ _ _ h => h) (Or.inl ⟨by rfl, ?_⟩) ?_ ?_; rotate_left
            ·intro w'; go_simp; (with_reducible rfl)
            rotate_left; (·simp only [um34]; rfl); refine pure_ (i := 9) (N := some 27) (v := ?_) (a' := ?_) bm34_9 rfl rfl (any_of HT_.out (by kernel_rfl)) (fun _ _ _ h => h) (Or.inl ⟨by rfl, ?_⟩) ?_ ?_; rotate_left
            ·intro w'; go_simp; (with_reducible rfl)
            rotate_left; (·simp only [um34]; rfl); refine pure_ (i := 10) (N := some 28) (v := ?_) (a' := ?_) bm34_10 rfl rfl (any_of HT_.out (by kernel_rfl)) (fun _ _ _ h => h) (Or.inl ⟨by rfl, ?_⟩) ?_ ?_; rotate_left
            ·intro w'; go_simp; (with_reducible rfl)
            rotate_left; (·simp only [um34]; rfl); refine pure_ (i := 14) (N := some 32) (v := ?_) (a' := ?_) bm34_11 rfl rfl (any_of HT_.out (by kernel_rfl)) (fun _ _ _ h => h) (Or.inl ⟨by rfl, ?_⟩) ?_ ?_; rotate_left
            ·intro w'; go_simp; (with_reducible rfl)
            rotate_left; (·simp only [um34]; rfl); refine take_ (i := 8) (N := some 26) (v := ?_) (a' := ?_) bm34_12 rfl rfl (take_ofW HT_.out HW_.out (by kernel_rfl)) (fun _ _ _ h => h) (Or.inl ⟨by rfl, ?_⟩) hHeld ?_ ?_; rotate_left
            ·rintro w' ⟨s0, s1, s2, s3, s4, s5, s6⟩; go_simp; (with_reducible rfl)
            rotate_left; (·simp only [um34]; rfl); refine pure_ (i := 11) (N := some 29) (v := ?_) (a' := ?_) bm34_13 rfl rfl (any_of HT_.out (by kernel_rfl)) (fun _ _ _ h => h) (Or.inl ⟨by rfl, ?_⟩) ?_ ?_; rotate_left
            ·intro w'; go_simp; (with_reducible rfl)
            rotate_left; (·simp only [um34]; rfl); refine pure_ (i := 12) (N := some 30) (v := ?_) (a' := ?_) bm34_14 rfl rfl (any_of HT_.out (by kernel_rfl)) (fun _ _ _ h => h) (Or.inl ⟨by rfl, ?_⟩) ?_ ?_; rotate_left
            ·intro w'; go_simp; (with_reducible rfl)
            rotate_left; (·simp only [um34]; rfl); refine take_ (i := 13) (N := some 31) (v := ?_) (a' := ?_) bm34_15 rfl rfl (take_ofW HT_.out HW_.out (by kernel_rfl)) (fun _ _ _ h => h) (Or.inl ⟨by rfl, ?_⟩) hHeld ?_ ?_; rotate_left
            ·rintro w' ⟨s0, s1, s2, s3, s4, s5, s6⟩; go_simp; (with_reducible rfl)
            rotate_left; (·simp only [um34]; rfl); refine take_ (i := 15) (N := some 33) (v := ?_) (a' := ?_) bm34_16 rfl rfl (take_ofW HT_.out HW_.out (by kernel_rfl)) (fun _ _ _ h => h) (Or.inl ⟨by rfl, ?_⟩) hHeld ?_ ?_; rotate_left
            ·rintro w' ⟨s0, s1, s2, s3, s4, s5, s6⟩; go_simp; (with_reducible rfl)
            rotate_left; (·simp only [um34]; rfl); refine pure_ (i := 16) (N := some 34) (v := ?_) (a' := ?_) bm34_17 rfl rfl (any_of HT_.out (by kernel_rfl)) (fun _ _ _ h => h) (Or.inl ⟨by rfl, ?_⟩) ?_ ?_; rotate_left
            ·intro w'; go_simp; (with_reducible rfl)
            rotate_left; (·simp only [um34]; rfl); refine pure_ (i := 17) (N := some 35) (v := ?_) (a' := ?_) bm34_18 rfl rfl (any_of HT_.out (by kernel_rfl)) (fun _ _ _ h => h) (Or.inl ⟨by rfl, ?_⟩) ?_ ?_; rotate_left
            ·intro w'; go_simp; (with_reducible rfl)
            rotate_left; (·simp only [um34]; rfl); refine pure_ (i := 18) (N := some 36) (v := ?_) (a' := ?_) bm34_19 rfl rfl (any_of HT_.out (by kernel_rfl)) (fun _ _ _ h => h) (Or.inl ⟨by rfl, ?_⟩) ?_ ?_; rotate_left
            ·intro w'; go_simp; (with_reducible rfl)
            rotate_left; (·simp only [um34]; rfl)
            refine done_ (done_of HT_.out (by kernel_rfl)) ?_
            try go_wp2
            go_meet
            case rel => exact ⟨_, (!(Op.bytesLess (((rd_T45 qa (qm)).f0).toList) (((rd_T45 qa qb).f0).toList))), (by first | rfl | (simp; done) | (simp only [← hji17] <;> (first | rfl | simp)) | (simp [*]; done)), (by first | exact H' | (subst hji17; exact H') | (simp only [← hji17] at H' ⊢; exact H')), ⟨by have := HK1.out; first | omega | exact Nat.le_refl _⟩, ⟨by (with_reducible repeat (first | apply blk_drewN | apply blk_drew | apply blk_alloc)); exact qe.out⟩, ⟨by (with_reducible repeat (first | apply blk_drewN | apply blk_drew | apply blk_alloc)); exact qc.out⟩, ⟨by repeat (first | (with_reducible first | exact HB.out | apply below_alloc | apply pw_below_drewN | apply below_drew1 | refine below_set ?_ qk.out | refine below_set ?_ qn.out) | exact HB.out)⟩⟩
           ·rw [if_neg c19] at H
            exact absurd H (by simp)
          ·rw [if_neg c18] at H
           exact absurd H (by simp)
         ·rw [if_neg c16] at H
          have c16b0 : decide (0 < qb) = false := decide_eq_false c16; clear c16; (first | rw [c16b0] | (simp only [i64_w, i32_w]; rw [c16b0]) | skip); have H' := Aside0.mk H; clear H
          try go_wp2
          have qf : Aside0 ((((w11.setCell ⟨qd, 0, none⟩ (.string ((rd_T45 qa qb).f0))).setCell ⟨qd, 1, none⟩ (.string ((rd_T45 qa qb).f1))).setCell ⟨qd, 2, none⟩ (.bool ((rd_T45 qa qb).f2))).heap[qj]? = some (.cells #[.slice (some ad160) qa.length ql] 29 (0, 0))) := ⟨by (with_reducible repeat (first | apply blk_drewN | apply blk_drew | apply blk_alloc)); refine blk_far ?_ qo.out _; (with_reducible repeat (first | apply blk_drewN | apply blk_drew | apply blk_alloc)); refine blk_far ?_ qo.out _; (with_reducible repeat (first | apply blk_drewN | apply blk_drew | apply blk_alloc)); refine blk_far ?_ qo.out _; (with_reducible repeat (first | apply blk_drewN | apply blk_drew | apply blk_alloc)); exact qe.out⟩
          have qg : Aside0 ((((w11.setCell ⟨qd, 0, none⟩ (.string ((rd_T45 qa qb).f0))).setCell ⟨qd, 1, none⟩ (.string ((rd_T45 qa qb).f1))).setCell ⟨qd, 2, none⟩ (.bool ((rd_T45 qa qb).f2))).heap[qd]? = some (.cells #[.string ((rd_T45 qa qb).f0), .string ((rd_T45 qa qb).f1), .bool ((rd_T45 qa qb).f2)] 45 (0, 0))) := ⟨by (with_reducible repeat (first | apply blk_drewN | apply blk_drew | apply blk_alloc)); refine blk_put (cs := #[.string ((rd_T45 qa qb).f0), .string ((rd_T45 qa qb).f1), .bool false]) ?_ 2 _ rfl; (with_reducible repeat (first | apply blk_drewN | apply blk_drew | apply blk_alloc)); refine blk_put (cs := #[.string ((rd_T45 qa qb).f0), .string (⟨#[]⟩ : ByteArray), .bool false]) ?_ 1 _ rfl; (with_reducible repeat (first | apply blk_drewN | apply blk_drew | apply blk_alloc)); refine blk_put (cs := #[.string (⟨#[]⟩ : ByteArray), .string (⟨#[]⟩ : ByteArray), .bool false]) ?_ 0 _ rfl; (with_reducible repeat (first | apply blk_drewN | apply blk_drew | apply blk_alloc)); exact qc.out⟩
          have qh : Aside0 (Below w.heap.size w (((w11.setCell ⟨qd, 0, none⟩ (.string ((rd_T45 qa qb).f0))).setCell ⟨qd, 1, none⟩ (.string ((rd_T45 qa qb).f1))).setCell ⟨qd, 2, none⟩ (.bool ((rd_T45 qa qb).f2)))) := ⟨by repeat (first | (with_reducible first | exact HB.out | apply below_alloc | apply pw_below_drewN | apply below_drew1 | refine below_set ?_ qk.out | refine below_set ?_ qn.out) | exact HB.out)⟩
          (try clear qe); (try clear qc); (try clear HB); generalize (((w11.setCell ⟨qd, 0, none⟩ (.string ((rd_T45 qa qb).f0))).setCell ⟨qd, 1, none⟩ (.string ((rd_T45 qa qb).f1))).setCell ⟨qd, 2, none⟩ (.bool ((rd_T45 qa qb).f2))) = w23 at qf qg qh ⊢; have qe := qf; have qc := qg; have HB := qh; clear qf qg qh; have qf := Aside0.mk (blk_drew qe.out); have qg := Aside0.mk (blk_drew qc.out); have qh := Aside0.mk (below_drew1 HB.out); clear qe; clear qc; clear HB; have qe := qf; have qc := qg; have HB := qh; clear qf qg qh; refine start_ (n := 19) (S := fun w' => w'.cell? ⟨qd, 0, none⟩ = some (.string ((rd_T45 qa qb).f0)) ∧ w'.cell? ⟨qd, 1, none⟩ = some (.string ((rd_T45 qa qb).f1)) ∧ w'.cell? ⟨qd, 2, none⟩ = some (.bool ((rd_T45 qa qb).f2))) (ds := []) bm34_0 (by kernel_rfl) rfl rfl ⟨(blk_cell qc.out 0).trans rfl, (blk_cell qc.out 1).trans rfl, (blk_cell qc.out 2).trans rfl⟩ (fun hHeld => ?_); refine with_tabW impl_ValidTree.tab6 impl_ValidTree.bits6 (fun HT_ HW_ => ?_); generalize w23.drew = w24 at qe qc HB hHeld ⊢; refine take_ (i := 0) (N := some 18) (v := ?_) (a' := ?_) bm34_1 rfl rfl (take_ofW HT_.out HW_.out (by kernel_rfl)) (fun _ _ _ h => h) (Or.inl ⟨by rfl, ?_⟩) hHeld ?_ ?_; rotate_left
          ·rintro w' ⟨s0, s1, s2⟩; go_simp; (with_reducible rfl)
          rotate_left; (·simp only [um34]; rfl)
          refine one_ (i := 1) (N := some 19) bm34_2 rfl rfl (one_of HT_.out (by kernel_rfl)) (by decide) (fun K hK => ?_); refine goes_ Tryd.func51 (by kernel_rfl) rfl #[.agg #[.string ((rd_T45 qa qb).f0), .string ((rd_T45 qa qb).f1), .bool ((rd_T45 qa qb).f2)]] (by rfl) rfl rfl (by (try simp only [List.map_toArray, List.map_cons, List.map_nil]); first | done | rfl | (simp only [List.length_drop, List.length_take]; rfl)) ?_; (with_reducible refine (impl_goodEntry.calls k1 ((rd_T45 qa qb).f0) ((rd_T45 qa qb).f1) ((rd_T45 qa qb).f2) true _ ?sideG A14.out).mono ?_; (case sideG => (first | exact HG.out | exact GOK.below HG.out (by repeat (first | (with_reducible first | exact HB.out | apply below_alloc | apply pw_below_drewN | apply below_drew1 | refine below_set ?_ qk.out | refine below_set ?_ qn.out) | exact HB.out | exact Below.refl _ _))))); rintro e w25 ⟨rfl, hb⟩; refine ⟨_, rfl, ?_⟩; have qf := Aside0.mk (blk_below (g := qj) (o := .cells #[.slice (some ad160) qa.length ql] 29 (0, 0)) (by (with_reducible repeat (first | apply blk_drewN | apply blk_drew | apply blk_alloc)); exact qe.out) hb); have qg := Aside0.mk (blk_below (g := qd) (o := .cells #[.string ((rd_T45 qa qb).f0), .string ((rd_T45 qa qb).f1), .bool ((rd_T45 qa qb).f2)] 45 (0, 0)) (by (with_reducible repeat (first | apply blk_drewN | apply blk_drew | apply blk_alloc)); exact qc.out) hb); have qh := Aside0.mk (below_step (by repeat (first | (with_reducible first | exact HB.out | apply below_alloc | apply pw_below_drewN | apply below_drew1 | refine below_set ?_ qk.out | refine below_set ?_ qn.out) | exact HB.out)) hb); clear qe; clear qc; clear HB; have qe := qf; have qc := qg; have HB := qh; clear qf qg qh; (try clear hb); (try clear hb2); (try clear hk); (try clear hi); refine hK.out _ _ ⟨(blk_cell qc.out 0).trans rfl, (blk_cell qc.out 1).trans rfl, (blk_cell qc.out 2).trans rfl⟩ (fun hHeld => ?_); clear hK K; refine norm_ (a' := ?_) ?_ ?_; rotate_left
          ·show Act.put _ (some 19) _ = _
           simp only [um34]; rfl
          refine pure_ (i := 2) (N := some 20) (v := ?_) (a' := ?_) bm34_3 rfl rfl (any_of HT_.out (by kernel_rfl)) (fun _ _ _ h => h) (Or.inl ⟨by rfl, ?_⟩) ?_ ?_; rotate_left
          ·intro w'; go_simp; (with_reducible rfl)
          rotate_left; (·simp only [um34]; rfl); refine pure_ (i := 3) (N := some 21) (v := ?_) (a' := ?_) bm34_4 rfl rfl (any_of HT_.out (by kernel_rfl)) (fun _ _ _ h => h) (Or.inl ⟨by rfl, ?_⟩) ?_ ?_; rotate_left
          ·intro w'; go_simp; (with_reducible rfl)
          rotate_left; (·simp only [um34]; rfl); refine pure_ (i := 4) (N := some 22) (v := ?_) (a' := ?_) bm34_5 rfl rfl (any_of HT_.out (by kernel_rfl)) (fun _ _ _ h => h) (Or.inl ⟨by rfl, ?_⟩) ?_ ?_; rotate_left
          ·intro w'; go_simp; (with_reducible rfl)
          rotate_left; (·simp only [um34]; rfl); refine pure_ (i := 5) (N := some 23) (v := ?_) (a' := ?_) bm34_6 rfl rfl (any_of HT_.out (by kernel_rfl)) (fun _ _ _ h => h) (Or.inl ⟨by rfl, ?_⟩) ?_ ?_; rotate_left
          ·intro w'; go_simp; (with_reducible rfl)
          rotate_left; (·simp only [um34]; rfl); refine pure_ (i := 6) (N := some 24) (v := ?_) (a' := ?_) bm34_7 rfl rfl (any_of HT_.out (by kernel_rfl)) (fun _ _ _ h => h) (Or.inl ⟨by rfl, ?_⟩) ?_ ?_; rotate_left
          ·intro w'; go_simp; (with_reducible rfl)
          rotate_left; (·simp only [um34]; rfl); refine pure_ (i := 7) (N := some 25) (v := undef) (a' := ?_) bm34_8 rfl rfl (any_of HT_.out (by kernel_rfl)) (fun _ _ _ h => h) (Or.inr ⟨by rfl, rfl⟩) ?_ ?_; rotate_left; (·simp only [um34]; rfl); refine pure_ (i := 8) (N := some 26) (v := undef) (a' := ?_) bm34_20 rfl rfl (any_of HT_.out (by kernel_rfl)) (fun _ _ _ h => h) (Or.inr ⟨by rfl, rfl⟩) ?_ ?_; rotate_left; (·simp only [um34]; rfl); refine pure_ (i := 9) (N := some 27) (v := undef) (a' := ?_) bm34_21 rfl rfl (any_of HT_.out (by kernel_rfl)) (fun _ _ _ h => h) (Or.inr ⟨by rfl, rfl⟩) ?_ ?_; rotate_left; (·simp only [um34]; rfl); refine pure_ (i := 10) (N := some 28) (v := undef) (a' := ?_) bm34_22 rfl rfl (any_of HT_.out (by kernel_rfl)) (fun _ _ _ h => h) (Or.inr ⟨by rfl, rfl⟩) ?_ ?_; rotate_left; (·simp only [um34]; rfl); refine pure_ (i := 11) (N := some 29) (v := undef) (a' := ?_) bm34_23 rfl rfl (any_of HT_.out (by kernel_rfl)) (fun _ _ _ h => h) (Or.inr ⟨by rfl, rfl⟩) ?_ ?_; rotate_left; (·simp only [um34]; rfl); refine pure_ (i := 12) (N := some 30) (v := undef) (a' := ?_) bm34_24 rfl rfl (any_of HT_.out (by kernel_rfl)) (fun _ _ _ h => h) (Or.inr ⟨by rfl, rfl⟩) ?_ ?_; rotate_left; (·simp only [um34]; rfl); refine pure_ (i := 13) (N := some 31) (v := undef) (a' := ?_) bm34_25 rfl rfl (any_of HT_.out (by kernel_rfl)) (fun _ _ _ h => h) (Or.inr ⟨by rfl, rfl⟩) ?_ ?_; rotate_left; (·simp only [um34]; rfl); refine pure_ (i := 14) (N := some 32) (v := undef) (a' := ?_) bm34_15 rfl rfl (any_of HT_.out (by kernel_rfl)) (fun _ _ _ h => h) (Or.inr ⟨by rfl, rfl⟩) ?_ ?_; rotate_left; (·simp only [um34]; rfl); refine pure_ (i := 15) (N := some 33) (v := undef) (a' := ?_) bm34_16 rfl rfl (any_of HT_.out (by kernel_rfl)) (fun _ _ _ h => h) (Or.inr ⟨by rfl, rfl⟩) ?_ ?_; rotate_left; (·simp only [um34]; rfl); refine pure_ (i := 16) (N := some 34) (v := undef) (a' := ?_) bm34_17 rfl rfl (any_of HT_.out (by kernel_rfl)) (fun _ _ _ h => h) (Or.inr ⟨by rfl, rfl⟩) ?_ ?_; rotate_left; (·simp only [um34]; rfl); refine pure_ (i := 17) (N := some 35) (v := ?_) (a' := ?_) bm34_18 rfl rfl (any_of HT_.out (by kernel_rfl)) (fun _ _ _ h => h) (Or.inl ⟨by rfl, ?_⟩) ?_ ?_; rotate_left
          ·intro w'; go_simp; (with_reducible rfl)
          rotate_left; (·simp only [um34]; rfl); refine pure_ (i := 18) (N := some 36) (v := ?_) (a' := ?_) bm34_19 rfl rfl (any_of HT_.out (by kernel_rfl)) (fun _ _ _ h => h) (Or.inl ⟨by rfl, ?_⟩) ?_ ?_; rotate_left
          ·intro w'; go_simp; (with_reducible rfl)
          rotate_left; (·simp only [um34]; rfl)
          refine done_ (done_of HT_.out (by kernel_rfl)) ?_
          try go_wp2
          go_meet
          case rel => exact ⟨_, (false), (by first | rfl | (simp; done) | (simp [*]; done)), H', ⟨by have := HK1.out; first | omega | exact Nat.le_refl _⟩, ⟨by (with_reducible repeat (first | apply blk_drewN | apply blk_drew | apply blk_alloc)); exact qe.out⟩, ⟨by (with_reducible repeat (first | apply blk_drewN | apply blk_drew | apply blk_alloc)); exact qc.out⟩, ⟨by repeat (first | (with_reducible first | exact HB.out | apply below_alloc | apply pw_below_drewN | apply below_drew1 | refine below_set ?_ qk.out | refine below_set ?_ qn.out) | exact HB.out)⟩⟩
        ·replace c15 := Bool.eq_false_iff.mpr c15; subst c15
         have H1 : (impl_ValidTree.j1 k1 qb qa (qa.length : Int) qb true qa ((rd_T45 qa qb).f0) ((rd_T45 qa qb).f1) ((rd_T45 qa qb).f2)) = some r := by rw [if_neg (show ¬ (false = true) by decide)] at H; exact H
         clear H; have H := H1; clear H1; have H' := Aside0.mk H; clear H
         try go_wp2
         have qf : Aside0 ((((w11.setCell ⟨qd, 0, none⟩ (.string ((rd_T45 qa qb).f0))).setCell ⟨qd, 1, none⟩ (.string ((rd_T45 qa qb).f1))).setCell ⟨qd, 2, none⟩ (.bool ((rd_T45 qa qb).f2))).heap[qj]? = some (.cells #[.slice (some ad160) qa.length ql] 29 (0, 0))) := ⟨by (with_reducible repeat (first | apply blk_drewN | apply blk_drew | apply blk_alloc)); refine blk_far ?_ qo.out _; (with_reducible repeat (first | apply blk_drewN | apply blk_drew | apply blk_alloc)); refine blk_far ?_ qo.out _; (with_reducible repeat (first | apply blk_drewN | apply blk_drew | apply blk_alloc)); refine blk_far ?_ qo.out _; (with_reducible repeat (first | apply blk_drewN | apply blk_drew | apply blk_alloc)); exact qe.out⟩
         have qg : Aside0 ((((w11.setCell ⟨qd, 0, none⟩ (.string ((rd_T45 qa qb).f0))).setCell ⟨qd, 1, none⟩ (.string ((rd_T45 qa qb).f1))).setCell ⟨qd, 2, none⟩ (.bool ((rd_T45 qa qb).f2))).heap[qd]? = some (.cells #[.string ((rd_T45 qa qb).f0), .string ((rd_T45 qa qb).f1), .bool ((rd_T45 qa qb).f2)] 45 (0, 0))) := ⟨by (with_reducible repeat (first | apply blk_drewN | apply blk_drew | apply blk_alloc)); refine blk_put (cs := #[.string ((rd_T45 qa qb).f0), .string ((rd_T45 qa qb).f1), .bool false]) ?_ 2 _ rfl; (with_reducible repeat (first | apply blk_drewN | apply blk_drew | apply blk_alloc)); refine blk_put (cs := #[.string ((rd_T45 qa qb).f0), .string (⟨#[]⟩ : ByteArray), .bool false]) ?_ 1 _ rfl; (with_reducible repeat (first | apply blk_drewN | apply blk_drew | apply blk_alloc)); refine blk_put (cs := #[.string (⟨#[]⟩ : ByteArray), .string (⟨#[]⟩ : ByteArray), .bool false]) ?_ 0 _ rfl; (with_reducible repeat (first | apply blk_drewN | apply blk_drew | apply blk_alloc)); exact qc.out⟩
         have qh : Aside0 (Below w.heap.size w (((w11.setCell ⟨qd, 0, none⟩ (.string ((rd_T45 qa qb).f0))).setCell ⟨qd, 1, none⟩ (.string ((rd_T45 qa qb).f1))).setCell ⟨qd, 2, none⟩ (.bool ((rd_T45 qa qb).f2)))) := ⟨by repeat (first | (with_reducible first | exact HB.out | apply below_alloc | apply pw_below_drewN | apply below_drew1 | refine below_set ?_ qk.out | refine below_set ?_ qn.out) | exact HB.out)⟩
         (try clear qe); (try clear qc); (try clear HB); generalize (((w11.setCell ⟨qd, 0, none⟩ (.string ((rd_T45 qa qb).f0))).setCell ⟨qd, 1, none⟩ (.string ((rd_T45 qa qb).f1))).setCell ⟨qd, 2, none⟩ (.bool ((rd_T45 qa qb).f2))) = w26 at qf qg qh ⊢; have qe := qf; have qc := qg; have HB := qh; clear qf qg qh; have qf := Aside0.mk (blk_drew qe.out); have qg := Aside0.mk (blk_drew qc.out); have qh := Aside0.mk (below_drew1 HB.out); clear qe; clear qc; clear HB; have qe := qf; have qc := qg; have HB := qh; clear qf qg qh; refine start_ (n := 19) (S := fun w' => w'.cell? ⟨qd, 0, none⟩ = some (.string ((rd_T45 qa qb).f0)) ∧ w'.cell? ⟨qd, 1, none⟩ = some (.string ((rd_T45 qa qb).f1)) ∧ w'.cell? ⟨qd, 2, none⟩ = some (.bool ((rd_T45 qa qb).f2))) (ds := []) bm34_0 (by kernel_rfl) rfl rfl ⟨(blk_cell qc.out 0).trans rfl, (blk_cell qc.out 1).trans rfl, (blk_cell qc.out 2).trans rfl⟩ (fun hHeld => ?_); refine with_tabW impl_ValidTree.tab6 impl_ValidTree.bits6 (fun HT_ HW_ => ?_); generalize w26.drew = w27 at qe qc HB hHeld ⊢; refine take_ (i := 0) (N := some 18) (v := ?_) (a' := ?_) bm34_1 rfl rfl (take_ofW HT_.out HW_.out (by kernel_rfl)) (fun _ _ _ h => h) (Or.inl ⟨by rfl, ?_⟩) hHeld ?_ ?_; rotate_left
         ·rintro w' ⟨s0, s1, s2⟩; go_simp; (with_reducible rfl)
         rotate_left; (·simp only [um34]; rfl)
         refine one_ (i := 1) (N := some 19) bm34_2 rfl rfl (one_of HT_.out (by kernel_rfl)) (by decide) (fun K hK => ?_); refine goes_ Tryd.func51 (by kernel_rfl) rfl #[.agg #[.string ((rd_T45 qa qb).f0), .string ((rd_T45 qa qb).f1), .bool ((rd_T45 qa qb).f2)]] (by rfl) rfl rfl (by (try simp only [List.map_toArray, List.map_cons, List.map_nil]); first | done | rfl | (simp only [List.length_drop, List.length_take]; rfl)) ?_; (with_reducible refine (impl_goodEntry.calls k1 ((rd_T45 qa qb).f0) ((rd_T45 qa qb).f1) ((rd_T45 qa qb).f2) false _ ?sideG A14.out).mono ?_; (case sideG => (first | exact HG.out | exact GOK.below HG.out (by repeat (first | (with_reducible first | exact HB.out | apply below_alloc | apply pw_below_drewN | apply below_drew1 | refine below_set ?_ qk.out | refine below_set ?_ qn.out) | exact HB.out | exact Below.refl _ _))))); rintro e w28 ⟨rfl, hb⟩; refine ⟨_, rfl, ?_⟩; have qf := Aside0.mk (blk_below (g := qj) (o := .cells #[.slice (some ad160) qa.length ql] 29 (0, 0)) (by (with_reducible repeat (first | apply blk_drewN | apply blk_drew | apply blk_alloc)); exact qe.out) hb); have qg := Aside0.mk (blk_below (g := qd) (o := .cells #[.string ((rd_T45 qa qb).f0), .string ((rd_T45 qa qb).f1), .bool ((rd_T45 qa qb).f2)] 45 (0, 0)) (by (with_reducible repeat (first | apply blk_drewN | apply blk_drew | apply blk_alloc)); exact qc.out) hb); have qh := Aside0.mk (below_step (by repeat (first | (with_reducible first | exact HB.out | apply below_alloc | apply pw_below_drewN | apply below_drew1 | refine below_set ?_ qk.out | refine below_set ?_ qn.out) | exact HB.out)) hb); clear qe; clear qc; clear HB; have qe := qf; have qc := qg; have HB := qh; clear qf qg qh; (try clear hb); (try clear hb2); (try clear hk); (try clear hi); refine hK.out _ _ ⟨(blk_cell qc.out 0).trans rfl, (blk_cell qc.out 1).trans rfl, (blk_cell qc.out 2).trans rfl⟩ (fun hHeld => ?_); clear hK K; refine norm_ (a' := ?_) ?_ ?_; rotate_left
         ·show Act.put _ (some 19) _ = _
          simp only [um34]; rfl
         refine pure_ (i := 2) (N := some 20) (v := ?_) (a' := ?_) bm34_3 rfl rfl (any_of HT_.out (by kernel_rfl)) (fun _ _ _ h => h) (Or.inl ⟨by rfl, ?_⟩) ?_ ?_; rotate_left
         ·intro w'; go_simp; (with_reducible rfl)
         rotate_left; (·simp only [um34]; rfl); refine pure_ (i := 3) (N := some 21) (v := ?_) (a' := ?_) bm34_4 rfl rfl (any_of HT_.out (by kernel_rfl)) (fun _ _ _ h => h) (Or.inl ⟨by rfl, ?_⟩) ?_ ?_; rotate_left
         ·intro w'; go_simp; (with_reducible rfl)
         rotate_left; (·simp only [um34]; rfl); refine pure_ (i := 4) (N := some 22) (v := undef) (a' := ?_) bm34_5 rfl rfl (any_of HT_.out (by kernel_rfl)) (fun _ _ _ h => h) (Or.inr ⟨by rfl, rfl⟩) ?_ ?_; rotate_left; (·simp only [um34]; rfl); refine pure_ (i := 5) (N := some 23) (v := undef) (a' := ?_) bm34_6 rfl rfl (any_of HT_.out (by kernel_rfl)) (fun _ _ _ h => h) (Or.inr ⟨by rfl, rfl⟩) ?_ ?_; rotate_left; (·simp only [um34]; rfl); refine pure_ (i := 6) (N := some 24) (v := undef) (a' := ?_) bm34_7 rfl rfl (any_of HT_.out (by kernel_rfl)) (fun _ _ _ h => h) (Or.inr ⟨by rfl, rfl⟩) ?_ ?_; rotate_left; (·simp only [um34]; rfl); refine pure_ (i := 7) (N := some 25) (v := undef) (a' := ?_) bm34_8 rfl rfl (any_of HT_.out (by kernel_rfl)) (fun _ _ _ h => h) (Or.inr ⟨by rfl, rfl⟩) ?_ ?_; rotate_left; (·simp only [um34]; rfl); refine pure_ (i := 8) (N := some 26) (v := undef) (a' := ?_) bm34_20 rfl rfl (any_of HT_.out (by kernel_rfl)) (fun _ _ _ h => h) (Or.inr ⟨by rfl, rfl⟩) ?_ ?_; rotate_left; (·simp only [um34]; rfl); refine pure_ (i := 9) (N := some 27) (v := undef) (a' := ?_) bm34_21 rfl rfl (any_of HT_.out (by kernel_rfl)) (fun _ _ _ h => h) (Or.inr ⟨by rfl, rfl⟩) ?_ ?_; rotate_left; (·simp only [um34]; rfl); refine pure_ (i := 10) (N := some 28) (v := undef) (a' := ?_) bm34_22 rfl rfl (any_of HT_.out (by kernel_rfl)) (fun _ _ _ h => h) (Or.inr ⟨by rfl, rfl⟩) ?_ ?_; rotate_left; (·simp only [um34]; rfl); refine pure_ (i := 11) (N := some 29) (v := undef) (a' := ?_) bm34_23 rfl rfl (any_of HT_.out (by kernel_rfl)) (fun _ _ _ h => h) (Or.inr ⟨by rfl, rfl⟩) ?_ ?_; rotate_left; (·simp only [um34]; rfl); refine pure_ (i := 12) (N := some 30) (v := undef) (a' := ?_) bm34_24 rfl rfl (any_of HT_.out (by kernel_rfl)) (fun _ _ _ h => h) (Or.inr ⟨by rfl, rfl⟩) ?_ ?_; rotate_left; (·simp only [um34]; rfl); refine pure_ (i := 13) (N := some 31) (v := undef) (a' := ?_) bm34_25 rfl rfl (any_of HT_.out (by kernel_rfl)) (fun _ _ _ h => h) (Or.inr ⟨by rfl, rfl⟩) ?_ ?_; rotate_left; (·simp only [um34]; rfl); refine pure_ (i := 14) (N := some 32) (v := undef) (a' := ?_) bm34_15 rfl rfl (any_of HT_.out (by kernel_rfl)) (fun _ _ _ h => h) (Or.inr ⟨by rfl, rfl⟩) ?_ ?_; rotate_left; (·simp only [um34]; rfl); refine pure_ (i := 15) (N := some 33) (v := undef) (a' := ?_) bm34_16 rfl rfl (any_of HT_.out (by kernel_rfl)) (fun _ _ _ h => h) (Or.inr ⟨by rfl, rfl⟩) ?_ ?_; rotate_left; (·simp only [um34]; rfl); refine pure_ (i := 16) (N := some 34) (v := undef) (a' := ?_) bm34_17 rfl rfl (any_of HT_.out (by kernel_rfl)) (fun _ _ _ h => h) (Or.inr ⟨by rfl, rfl⟩) ?_ ?_; rotate_left; (·simp only [um34]; rfl); refine pure_ (i := 17) (N := some 35) (v := undef) (a' := ?_) bm34_18 rfl rfl (any_of HT_.out (by kernel_rfl)) (fun _ _ _ h => h) (Or.inr ⟨by rfl, rfl⟩) ?_ ?_; rotate_left; (·simp only [um34]; rfl); refine pure_ (i := 18) (N := some 36) (v := ?_) (a' := ?_) bm34_19 rfl rfl (any_of HT_.out (by kernel_rfl)) (fun _ _ _ h => h) (Or.inl ⟨by rfl, ?_⟩) ?_ ?_; rotate_left
         ·intro w'; go_simp; (with_reducible rfl)
         rotate_left; (·simp only [um34]; rfl)
         refine done_ (done_of HT_.out (by kernel_rfl)) ?_
         try go_wp2
         go_meet
         case rel => exact ⟨_, (true), (by first | rfl | (simp; done) | (simp [*]; done)), H', ⟨by have := HK1.out; first | omega | exact Nat.le_refl _⟩, ⟨by (with_reducible repeat (first | apply blk_drewN | apply blk_drew | apply blk_alloc)); exact qe.out⟩, ⟨by (with_reducible repeat (first | apply blk_drewN | apply blk_drew | apply blk_alloc)); exact qc.out⟩, ⟨by repeat (first | (with_reducible first | exact HB.out | apply below_alloc | apply pw_below_drewN | apply below_drew1 | refine below_set ?_ qk.out | refine below_set ?_ qn.out) | exact HB.out)⟩⟩
       case rest =>
        clear HC10; (try clear c1); (try clear p1); (try clear q1); (try clear hx1); (try clear p2); (try clear c5); (try clear p6); (try clear c7); (try clear c7b0); (try clear c8); (try clear c8b0); (try clear c9); (try clear c9b0); (try clear c12); (try clear c15); (try clear c16); (try clear c16b0); (try clear p16); (try clear q16); (try clear hx16); (try clear c18); (try clear c18b0); (try clear c19); (try clear c19b0); (try clear hcz13_0); (try clear hcz13_1); (try clear hcz13_2); (try clear hcz4_0); (try clear hcz6_0); (try clear hfz13_0); (try clear hfz13_1); (try clear hfz13_2); (try clear hfz4_0); (try clear hfz6_0); (try clear hx160_0); (try clear hx160_1); (try clear hx160_2); (try clear hx163_0); (try clear hx163_1); (try clear hx163_2); (try clear p160); (try clear p163); (try clear q160); (try clear q163); obtain ⟨kq, x36_9, rfl, HA, HJ9, qe, qc, HB⟩ := hcut
        cases kq with
        | zero => exact absurd HA.out (by simp [impl_ValidTree.j1])
        | succ kj9 =>
         have H := HA.out; clear HA; simp only [impl_ValidTree.j1] at H
         by_cases c29 : x36_9 = true
         ·subst c29
          have H1 : (some false) = some r := by rw [if_pos rfl] at H; exact H
          clear H; have H := H1; clear H1; obtain rfl := Option.some.inj H
          go_wp2
          go_ret
          exact ⟨by first | rfl | (simp [errW_none, errW_some] <;> rfl) | (simp [*, errW_none, errW_some] <;> rfl), by repeat (first | (with_reducible first | exact HB.out | apply below_alloc | apply pw_below_drewN | apply below_drew1 | refine below_set ?_ qk.out | refine below_set ?_ qn.out) | exact HB.out)⟩
         ·replace c29 := Bool.eq_false_iff.mpr c29; subst c29
          have H1 : (impl_ValidTree.l1 kj9 qb 0 qa (qa.length : Int) qb qa ((rd_T45 qa qb).f0) ((rd_T45 qa qb).f1) ((rd_T45 qa qb).f2)) = some r := by rw [if_neg (show ¬ (false = true) by decide)] at H; exact H
          clear H; have H := H1; clear H1; have H' := Aside0.mk H; clear H
          go_wp2
          go_loopg [5] kj9 (fun kq v5 w' => ∃ (qi : Int), v5 = .int .i64 qi ∧ Aside0 (impl_ValidTree.l1 kq qb qi qa (qa.length : Int) qb qa ((rd_T45 qa qb).f0) ((rd_T45 qa qb).f1) ((rd_T45 qa qb).f2) = some r) ∧ Aside0 (kq ≤ kj9) ∧ Aside0 (w'.heap[qj]? = some (.cells #[(.slice (some ad160) qa.length ql)] 29 (0, 0))) ∧ Aside0 (w'.heap[qd]? = some (.cells #[.string ((rd_T45 qa qb).f0), .string ((rd_T45 qa qb).f1), .bool ((rd_T45 qa qb).f2)] 45 (0, 0))) ∧ Aside0 (Below w.heap.size w w'))
          case atStart => exact ⟨(0), (by first | rfl | (simp; done) | (simp [*]; done)), H', ⟨Nat.le_refl _⟩, ⟨by (with_reducible repeat (first | apply blk_drewN | apply blk_drew | apply blk_alloc)); exact qe.out⟩, ⟨by (with_reducible repeat (first | apply blk_drewN | apply blk_drew | apply blk_alloc)); exact qc.out⟩, ⟨by repeat (first | (with_reducible first | exact HB.out | apply below_alloc | apply pw_below_drewN | apply below_drew1 | refine below_set ?_ qk.out | refine below_set ?_ qn.out) | exact HB.out)⟩⟩
          case round =>
           clear H'; (try clear c1); (try clear p1); (try clear q1); (try clear hx1); (try clear c2); (try clear p2); (try clear c5); (try clear p6); (try clear c7); (try clear c7b0); (try clear c8); (try clear c8b0); (try clear c9); (try clear c9b0); (try clear c12); (try clear c15); (try clear c16); (try clear c16b0); (try clear p16); (try clear q16); (try clear hx16); (try clear c18); (try clear c18b0); (try clear c19); (try clear c19b0); (try clear c29); (try clear hcz13_0); (try clear hcz13_1); (try clear hcz13_2); (try clear hcz4_0); (try clear hcz6_0); (try clear hfz13_0); (try clear hfz13_1); (try clear hfz13_2); (try clear hfz4_0); (try clear hfz6_0); (try clear hx160_0); (try clear hx160_1); (try clear hx160_2); (try clear hx163_0); (try clear hx163_1); (try clear hx163_2); (try clear p1); (try clear p16); (try clear p160); (try clear p163); (try clear p2); (try clear p6); (try clear q1); (try clear q16); (try clear q160); (try clear q163); obtain ⟨qi, rfl, HA, HK3, qe, qc, HB⟩ := hrel
           cases gk with
           | zero => exact absurd HA.out (by simp [impl_ValidTree.l1])
           | succ k3 =>
            have H := HA.out; clear HA; simp only [impl_ValidTree.l1] at H
            by_cases c30 : qi < qb
            ·rw [if_pos c30] at H
             have c30b0 : decide (qi < qb) = true := decide_eq_true c30; clear c30
             by_cases c31 : 0 ≤ qi
             ·rw [if_pos c31] at H
              have c31b0 : decide (0 ≤ qi) = true := decide_eq_true c31; clear c31
              by_cases c32 : qi < (qa.length : Int)
              ·rw [if_pos c32] at H
               have c32b0 : decide (qi < (qa.length : Int)) = true := decide_eq_true c32; clear c32; replace H := Option.bind_eq_some_iff.mp H; obtain ⟨t165, A330, H⟩ := H; replace H : (if t165 = true then (some false) else (impl_ValidTree.l1 k3 qb (wrap64 (qi + 1)) qa (qa.length : Int) qb qa ((rd_T45 qa qb).f0) ((rd_T45 qa qb).f1) ((rd_T45 qa qb).f2))) = some r := H; have A33 := Aside0.mk A330; clear A330
               by_cases c34 : t165 = true
               ·subst c34
                have H1 : (some false) = some r := by rw [if_pos rfl] at H; exact H
                clear H; have H := H1; clear H1; obtain rfl := Option.some.inj H
                try go_wp2
                have qf := Aside0.mk (blk_drew qe.out); have qg := Aside0.mk (blk_drew qc.out); have qh := Aside0.mk (below_drew1 HB.out); clear qe; clear qc; clear HB; have qe := qf; have qc := qg; have HB := qh; clear qf qg qh; have p164 : 0 ≤ (qi : Int) := of_decide_eq_true (by first | (with_reducible assumption) | assumption); have q164 : qi < (qa.length : Int) := of_decide_eq_true (by first | (with_reducible assumption) | assumption); obtain ⟨ad164, e164, hx164_0, hx164_1, hx164_2⟩ := at_T45 HR0_0.out qi p164 q164; have hw164_2 := hx164_2; have hw164_1 := hx164_1; have hw164_0 := hx164_0
                obtain rfl : ad160 = ad164 := (by injection e164)
                replace hx164_0 := (HB.out.cell (World.block_lt_of_cell? w _ hx164_0)).trans hx164_0; replace hx164_1 := (HB.out.cell (World.block_lt_of_cell? w _ hx164_1)).trans hx164_1; replace hx164_2 := (HB.out.cell (World.block_lt_of_cell? w _ hx164_2)).trans hx164_2; replace p164 := eq_true p164; replace q164 := eq_true q164; refine start_ (n := 9) (S := fun w' => w'.cell? ⟨qj, 0, none⟩ = some (.slice (some ad160) qa.length ql) ∧ w'.cell? ⟨qd, 0, none⟩ = some (.string ((rd_T45 qa qb).f0)) ∧ w'.cell? ⟨qd, 1, none⟩ = some (.string ((rd_T45 qa qb).f1)) ∧ w'.cell? ⟨qd, 2, none⟩ = some (.bool ((rd_T45 qa qb).f2)) ∧ w'.cell? (ad160.add ((qi).toNat * 3)) = some (.string ((rd_T45 qa qi).f0)) ∧ w'.cell? ⟨(ad160.add ((qi).toNat * 3)).block, (ad160.add ((qi).toNat * 3)).off + 1, none⟩ = some (.string ((rd_T45 qa qi).f1)) ∧ w'.cell? ⟨(ad160.add ((qi).toNat * 3)).block, (ad160.add ((qi).toNat * 3)).off + 2, none⟩ = some (.bool ((rd_T45 qa qi).f2))) (ds := []) bm34_26 (by kernel_rfl) rfl rfl ⟨(blk_cell qe.out 0).trans rfl, (blk_cell qc.out 0).trans rfl, (blk_cell qc.out 1).trans rfl, (blk_cell qc.out 2).trans rfl, ((HB.out.cell (World.block_lt_of_cell? w _ hw164_0)).trans hw164_0), ((HB.out.cell (World.block_lt_of_cell? w _ hw164_1)).trans hw164_1), ((HB.out.cell (World.block_lt_of_cell? w _ hw164_2)).trans hw164_2)⟩ (fun hHeld => ?_); refine with_tabW impl_ValidTree.tab11 impl_ValidTree.bits11 (fun HT_ HW_ => ?_); generalize wr.drew = w35 at qe qc HB hx164_0 hx164_1 hx164_2 hHeld ⊢; refine pure_ (i := 0) (N := some 42) (v := ?_) (a' := ?_) bm34_27 rfl rfl (any_of HT_.out (by kernel_rfl)) (fun _ _ _ h => h) (Or.inl ⟨by rfl, ?_⟩) ?_ ?_; rotate_left
                ·intro w'; go_simp; (with_reducible rfl)
                rotate_left; (·simp only [um34]; rfl); refine pure_ (i := 2) (N := some 44) (v := ?_) (a' := ?_) bm34_28 rfl rfl (any_of HT_.out (by kernel_rfl)) (fun _ _ _ h => h) (Or.inl ⟨by rfl, ?_⟩) ?_ ?_; rotate_left
                ·intro w'; go_simp; (with_reducible rfl)
                rotate_left; (·simp only [um34]; rfl); refine pure_ (i := 6) (N := some 48) (v := ?_) (a' := ?_) bm34_29 rfl rfl (any_of HT_.out (by kernel_rfl)) (fun _ _ _ h => h) (Or.inl ⟨by rfl, ?_⟩) ?_ ?_; rotate_left
                ·intro w'; go_simp; (with_reducible rfl)
                rotate_left; (·simp only [um34]; rfl); refine take_ (i := 1) (N := some 43) (v := ?_) (a' := ?_) bm34_30 rfl rfl (take_ofW HT_.out HW_.out (by kernel_rfl)) (fun _ _ _ h => h) (Or.inl ⟨by rfl, ?_⟩) hHeld ?_ ?_; rotate_left
                ·rintro w' ⟨s0, s1, s2, s3, s4, s5, s6⟩; go_simp; (with_reducible rfl)
                rotate_left; (·simp only [um34]; rfl); refine pure_ (i := 3) (N := some 45) (v := ?_) (a' := ?_) bm34_31 rfl rfl (any_of HT_.out (by kernel_rfl)) (fun _ _ _ h => h) (Or.inl ⟨by rfl, ?_⟩) ?_ ?_; rotate_left
                ·intro w'; go_simp; (with_reducible rfl)
                rotate_left; (·simp only [um34]; rfl); refine pure_ (i := 4) (N := some 46) (v := ?_) (a' := ?_) bm34_32 rfl rfl (any_of HT_.out (by kernel_rfl)) (fun _ _ _ h => h) (Or.inl ⟨by rfl, ?_⟩) ?_ ?_; rotate_left
                ·intro w'; go_simp; (with_reducible rfl)
                rotate_left; (·simp only [um34]; rfl); refine take_ (i := 5) (N := some 47) (v := ?_) (a' := ?_) bm34_33 rfl rfl (take_ofW HT_.out HW_.out (by kernel_rfl)) (fun _ _ _ h => h) (Or.inl ⟨by rfl, ?_⟩) hHeld ?_ ?_; rotate_left
                ·rintro w' ⟨s0, s1, s2, s3, s4, s5, s6⟩; go_simp; (with_reducible rfl)
                rotate_left; (·simp only [um34]; rfl); refine take_ (i := 7) (N := some 49) (v := ?_) (a' := ?_) bm34_34 rfl rfl (take_ofW HT_.out HW_.out (by kernel_rfl)) (fun _ _ _ h => h) (Or.inl ⟨by rfl, ?_⟩) hHeld ?_ ?_; rotate_left
                ·rintro w' ⟨s0, s1, s2, s3, s4, s5, s6⟩; go_simp; (with_reducible rfl)
                rotate_left; (·simp only [um34]; rfl)
                refine one_ (i := 8) (N := some 50) bm34_35 rfl rfl (one_of HT_.out (by kernel_rfl)) (by decide) (fun K hK => ?_); refine goes_ Tryd.func52 (by kernel_rfl) rfl #[.string ((rd_T45 qa qi).f0), .string ((rd_T45 qa qb).f0)] (by rfl) rfl rfl (by (try simp only [List.map_toArray, List.map_cons, List.map_nil]); first | done | rfl | (simp only [List.length_drop, List.length_take]; rfl)) ?_; (with_reducible refine (impl_over.calls ((rd_T45 qa qi).f0) ((rd_T45 qa qb).f0) true _ A33.out).mono ?_); rintro e w' ⟨rfl, ⟨nd, rfl⟩⟩; refine ⟨_, rfl, ?_⟩; refine hK.out _ _ ⟨(blk_cell qe.out 0).trans rfl, (blk_cell qc.out 0).trans rfl, (blk_cell qc.out 1).trans rfl, (blk_cell qc.out 2).trans rfl, ((HB.out.cell (World.block_lt_of_cell? w _ hw164_0)).trans hw164_0), ((HB.out.cell (World.block_lt_of_cell? w _ hw164_1)).trans hw164_1), ((HB.out.cell (World.block_lt_of_cell? w _ hw164_2)).trans hw164_2)⟩ (fun hHeld => ?_); clear hK K; refine norm_ (a' := ?_) ?_ ?_; rotate_left
                ·show Act.put _ (some 50) _ = _
                 simp only [um34]; rfl
                refine done_ (done_of HT_.out (by kernel_rfl)) ?_
                try go_wp2
                go_ret
                exact ⟨by first | rfl | (simp [errW_none, errW_some] <;> rfl) | (simp [*, errW_none, errW_some] <;> rfl), by repeat (first | (with_reducible first | exact HB.out | apply below_alloc | apply pw_below_drewN | apply below_drew1 | refine below_set ?_ qk.out | refine below_set ?_ qn.out) | exact HB.out)⟩
               ·replace c34 := Bool.eq_false_iff.mpr c34; subst c34
                have H1 : (impl_ValidTree.l1 k3 qb (wrap64 (qi + 1)) qa (qa.length : Int) qb qa ((rd_T45 qa qb).f0) ((rd_T45 qa qb).f1) ((rd_T45 qa qb).f2)) = some r := by rw [if_neg (show ¬ (false = true) by decide)] at H; exact H
                clear H; have H := H1; clear H1; have H' := Aside0.mk H; clear H
                try go_wp2
                have qf := Aside0.mk (blk_drew qe.out); have qg := Aside0.mk (blk_drew qc.out); have qh := Aside0.mk (below_drew1 HB.out); clear qe; clear qc; clear HB; have qe := qf; have qc := qg; have HB := qh; clear qf qg qh; have p164 : 0 ≤ (qi : Int) := of_decide_eq_true (by first | (with_reducible assumption) | assumption); have q164 : qi < (qa.length : Int) := of_decide_eq_true (by first | (with_reducible assumption) | assumption); obtain ⟨ad164, e164, hx164_0, hx164_1, hx164_2⟩ := at_T45 HR0_0.out qi p164 q164; have hw164_2 := hx164_2; have hw164_1 := hx164_1; have hw164_0 := hx164_0
                obtain rfl : ad160 = ad164 := (by injection e164)
                replace hx164_0 := (HB.out.cell (World.block_lt_of_cell? w _ hx164_0)).trans hx164_0; replace hx164_1 := (HB.out.cell (World.block_lt_of_cell? w _ hx164_1)).trans hx164_1; replace hx164_2 := (HB.out.cell (World.block_lt_of_cell? w _ hx164_2)).trans hx164_2; replace p164 := eq_true p164; replace q164 := eq_true q164; refine start_ (n := 9) (S := fun w' => w'.cell? ⟨qj, 0, none⟩ = some (.slice (some ad160) qa.length ql) ∧ w'.cell? ⟨qd, 0, none⟩ = some (.string ((rd_T45 qa qb).f0)) ∧ w'.cell? ⟨qd, 1, none⟩ = some (.string ((rd_T45 qa qb).f1)) ∧ w'.cell? ⟨qd, 2, none⟩ = some (.bool ((rd_T45 qa qb).f2)) ∧ w'.cell? (ad160.add ((qi).toNat * 3)) = some (.string ((rd_T45 qa qi).f0)) ∧ w'.cell? ⟨(ad160.add ((qi).toNat * 3)).block, (ad160.add ((qi).toNat * 3)).off + 1, none⟩ = some (.string ((rd_T45 qa qi).f1)) ∧ w'.cell? ⟨(ad160.add ((qi).toNat * 3)).block, (ad160.add ((qi).toNat * 3)).off + 2, none⟩ = some (.bool ((rd_T45 qa qi).f2))) (ds := []) bm34_26 (by kernel_rfl) rfl rfl ⟨(blk_cell qe.out 0).trans rfl, (blk_cell qc.out 0).trans rfl, (blk_cell qc.out 1).trans rfl, (blk_cell qc.out 2).trans rfl, ((HB.out.cell (World.block_lt_of_cell? w _ hw164_0)).trans hw164_0), ((HB.out.cell (World.block_lt_of_cell? w _ hw164_1)).trans hw164_1), ((HB.out.cell (World.block_lt_of_cell? w _ hw164_2)).trans hw164_2)⟩ (fun hHeld => ?_); refine with_tabW impl_ValidTree.tab11 impl_ValidTree.bits11 (fun HT_ HW_ => ?_); generalize wr.drew = w36 at qe qc HB hx164_0 hx164_1 hx164_2 hHeld ⊢; refine pure_ (i := 0) (N := some 42) (v := ?_) (a' := ?_) bm34_27 rfl rfl (any_of HT_.out (by kernel_rfl)) (fun _ _ _ h => h) (Or.inl ⟨by rfl, ?_⟩) ?_ ?_; rotate_left
                ·intro w'; go_simp; (with_reducible rfl)
                rotate_left; (·simp only [um34]; rfl); refine pure_ (i := 2) (N := some 44) (v := ?_) (a' := ?_) bm34_28 rfl rfl (any_of HT_.out (by kernel_rfl)) (fun _ _ _ h => h) (Or.inl ⟨by rfl, ?_⟩) ?_ ?_; rotate_left
                ·intro w'; go_simp; (with_reducible rfl)
                rotate_left; (·simp only [um34]; rfl); refine pure_ (i := 6) (N := some 48) (v := ?_) (a' := ?_) bm34_29 rfl rfl (any_of HT_.out (by kernel_rfl)) (fun _ _ _ h => h) (Or.inl ⟨by rfl, ?_⟩) ?_ ?_; rotate_left
                ·intro w'; go_simp; (with_reducible rfl)
                rotate_left; (·simp only [um34]; rfl); refine take_ (i := 1) (N := some 43) (v := ?_) (a' := ?_) bm34_30 rfl rfl (take_ofW HT_.out HW_.out (by kernel_rfl)) (fun _ _ _ h => h) (Or.inl ⟨by rfl, ?_⟩) hHeld ?_ ?_; rotate_left
                ·rintro w' ⟨s0, s1, s2, s3, s4, s5, s6⟩; go_simp; (with_reducible rfl)
                rotate_left; (·simp only [um34]; rfl); refine pure_ (i := 3) (N := some 45) (v := ?_) (a' := ?_) bm34_31 rfl rfl (any_of HT_.out (by kernel_rfl)) (fun _ _ _ h => h) (Or.inl ⟨by rfl, ?_⟩) ?_ ?_; rotate_left
                ·intro w'; go_simp; (with_reducible rfl)
                rotate_left; (·simp only [um34]; rfl); refine pure_ (i := 4) (N := some 46) (v := ?_) (a' := ?_) bm34_32 rfl rfl (any_of HT_.out (by kernel_rfl)) (fun _ _ _ h => h) (Or.inl ⟨by rfl, ?_⟩) ?_ ?_; rotate_left
                ·intro w'; go_simp; (with_reducible rfl)
                rotate_left; (·simp only [um34]; rfl); refine take_ (i := 5) (N := some 47) (v := ?_) (a' := ?_) bm34_33 rfl rfl (take_ofW HT_.out HW_.out (by kernel_rfl)) (fun _ _ _ h => h) (Or.inl ⟨by rfl, ?_⟩) hHeld ?_ ?_; rotate_left
                ·rintro w' ⟨s0, s1, s2, s3, s4, s5, s6⟩; go_simp; (with_reducible rfl)
                rotate_left; (·simp only [um34]; rfl); refine take_ (i := 7) (N := some 49) (v := ?_) (a' := ?_) bm34_34 rfl rfl (take_ofW HT_.out HW_.out (by kernel_rfl)) (fun _ _ _ h => h) (Or.inl ⟨by rfl, ?_⟩) hHeld ?_ ?_; rotate_left
                ·rintro w' ⟨s0, s1, s2, s3, s4, s5, s6⟩; go_simp; (with_reducible rfl)
                rotate_left; (·simp only [um34]; rfl)
                refine one_ (i := 8) (N := some 50) bm34_35 rfl rfl (one_of HT_.out (by kernel_rfl)) (by decide) (fun K hK => ?_); refine goes_ Tryd.func52 (by kernel_rfl) rfl #[.string ((rd_T45 qa qi).f0), .string ((rd_T45 qa qb).f0)] (by rfl) rfl rfl (by (try simp only [List.map_toArray, List.map_cons, List.map_nil]); first | done | rfl | (simp only [List.length_drop, List.length_take]; rfl)) ?_; (with_reducible refine (impl_over.calls ((rd_T45 qa qi).f0) ((rd_T45 qa qb).f0) false _ A33.out).mono ?_); rintro e w' ⟨rfl, ⟨nd, rfl⟩⟩; refine ⟨_, rfl, ?_⟩; refine hK.out _ _ ⟨(blk_cell qe.out 0).trans rfl, (blk_cell qc.out 0).trans rfl, (blk_cell qc.out 1).trans rfl, (blk_cell qc.out 2).trans rfl, ((HB.out.cell (World.block_lt_of_cell? w _ hw164_0)).trans hw164_0), ((HB.out.cell (World.block_lt_of_cell? w _ hw164_1)).trans hw164_1), ((HB.out.cell (World.block_lt_of_cell? w _ hw164_2)).trans hw164_2)⟩ (fun hHeld => ?_); clear hK K; refine norm_ (a' := ?_) ?_ ?_; rotate_left
                ·show Act.put _ (some 50) _ = _
                 simp only [um34]; rfl
                refine done_ (done_of HT_.out (by kernel_rfl)) ?_
                try go_wp2
                go_roundg k3
                case measure => have := HK1.out; have := HJ9.out; have := HK3.out; omega
                case rel => exact ⟨(wrap64 (qi + 1)), (by first | rfl | (simp; done) | (simp [*]; done)), H', ⟨by have := HK1.out; have := HJ9.out; have := HK3.out; omega⟩, ⟨by (with_reducible repeat (first | apply blk_drewN | apply blk_drew | apply blk_alloc)); exact qe.out⟩, ⟨by (with_reducible repeat (first | apply blk_drewN | apply blk_drew | apply blk_alloc)); exact qc.out⟩, ⟨by repeat (first | (with_reducible first | exact HB.out | apply below_alloc | apply pw_below_drewN | apply below_drew1 | refine below_set ?_ qk.out | refine below_set ?_ qn.out) | exact HB.out)⟩⟩
              ·rw [if_neg c32] at H
               exact absurd H (by simp)
             ·rw [if_neg c31] at H
              exact absurd H (by simp)
            ·rw [if_neg c30] at H
             have c30b0 : decide (qi < qb) = false := decide_eq_false c30; clear c30; have H' := Aside0.mk H; clear H
             go_wp2
             go_roundg k3
             case measure => have := HK1.out; have := HJ9.out; have := HK3.out; omega
             case rel => exact ⟨(wrap64 (qb + 1)), (by first | rfl | (simp; done) | (simp [*]; done)), H', ⟨by have := HK1.out; have := HJ9.out; have := HK3.out; omega⟩, ⟨by (with_reducible repeat (first | apply blk_drewN | apply blk_drew | apply blk_alloc)); exact qe.out⟩, ⟨by repeat (first | (with_reducible first | exact HB.out | apply below_alloc | apply pw_below_drewN | apply below_drew1 | refine below_set ?_ qk.out | refine below_set ?_ qn.out) | exact HB.out)⟩⟩
      ·rw [if_neg c9] at H
       exact absurd H (by simp)
     ·rw [if_neg c8] at H
      exact absurd H (by simp)
    ·rw [if_neg c7] at H
     have c7b0 : decide (qb < (qa.length : Int)) = false := decide_eq_false c7; clear c7; obtain rfl := Option.some.inj H
     go_wp2
     go_ret
     exact ⟨by first | rfl | (simp [errW_none, errW_some] <;> rfl) | (simp [*, errW_none, errW_some] <;> rfl), by repeat (first | (with_reducible first | exact HB.out | apply below_alloc | apply pw_below_drewN | apply below_drew1 | refine below_set ?_ qk.out) | exact HB.out)⟩

end Go.Proofs.YtkdghhkpmkfjhaaDoor.P


namespace Go.Proofs.YtkdghhkpmkfjhaaDoor.P
open Go.RowKit Go.Proofs.YtkdghhkpmkfjhaaDoorW.PrintWords Go.Proofs.YtkdghhkpmkfjhaaDoorW.PrintLast Go.Proofs.YtkdghhkpmkfjhaaDoorW.PrintMore
attribute [local go_sem] max2_int min2_int max_two min_two max_three min_three max_four min_four
set_option linter.unusedVariables false
set_option linter.unusedSimpArgs false

/-! ### impl_ValidGlob: function 87 -/
def impl_ValidGlob.f (k : Nat) (a0 : ByteArray) : Option (Bool) := (impl_parts.f k a0 true).bind fun t723 => (some t723)
theorem impl_ValidGlob.mono : ∀ a0 k, LeO (impl_ValidGlob.f k a0) (impl_ValidGlob.f (k + 1) a0) := by
 intro a0 k
 unfold impl_ValidGlob.f
 repeat' first
   | (with_reducible exact impl_parts.mono _ _ _)
   | (with_reducible exact LeO.refl _)
   | (with_reducible exact LeO.none _)
   | (with_reducible refine LeO.ite ?_ ?_)
   | (with_reducible refine LeO.bind ?_ (fun _ => ?_))
   | exact impl_parts.mono _ _ _
   | exact LeO.none _
   | refine LeO.ite ?_ ?_
   | refine LeO.bind ?_ (fun _ => ?_)
set_option maxHeartbeats 8000000 in
set_option maxRecDepth 100000 in
theorem impl_ValidGlob.calls (k : Nat) (a0 : ByteArray) (r : Bool) (w : World) (hg : GOK w) (h : impl_ValidGlob.f k a0 = some r) :
  Calls Tryd.prog 87 #[.string a0] w fun e w' => e = .returned (.bool r) ∧ Below w.heap.size w w' := by
 have HG := Aside0.mk hg; clear hg; have HB := Aside0.mk (Below.refl w.heap.size w); have H : ((impl_parts.f k a0 true).bind fun t723 => (some t723)) = some r := h; clear h; replace H := Option.bind_eq_some_iff.mp H; obtain ⟨t723, A20, H⟩ := H; replace H : (some t723) = some r := H; have A2 := Aside0.mk A20; clear A20; obtain rfl := Option.some.inj H
 go_enter Tryd.func87, Tryd.ntmps87
 go_wp2_with (first | ((with_reducible refine gate_callee (f := 78) rfl ?_); refine goesL_ (some 4) rfl rfl Tryd.func78 (by kernel_rfl) rfl #[.string a0, .bool true] rfl (by (try simp only [List.map_toArray, List.map_cons, List.map_nil]); first | done | rfl | (simp only [List.length_drop, List.length_take]; rfl)) ?_; (with_reducible refine (impl_parts.calls k a0 true t723 _ ?sideG A2.out).mono ?_); (case sideG => (first | exact HG.out | exact GOK.below HG.out (by repeat (first | (with_reducible first | exact HB.out | apply below_alloc | apply pw_below_drewN | apply below_drew1) | exact HB.out | exact Below.refl _ _)))); rintro e w3 ⟨rfl, hb⟩; refine ⟨_, rfl, ?_⟩; have n0_ := Aside0.mk (below_step (by repeat (first | (with_reducible first | exact HB.out | apply below_alloc | apply pw_below_drewN | apply below_drew1) | exact HB.out)) hb); clear HB; have HB := n0_; clear n0_; (try clear hb); (try clear hb2); (try clear hk); (try clear hi)))
 go_ret
 exact ⟨by first | rfl | (simp [errW_none, errW_some] <;> rfl) | (simp [*, errW_none, errW_some] <;> rfl), by repeat (first | (with_reducible first | exact HB.out | apply below_alloc | apply pw_below_drewN | apply below_drew1) | exact HB.out)⟩

end Go.Proofs.YtkdghhkpmkfjhaaDoor.P


namespace Go.Proofs.YtkdghhkpmkfjhaaDoor.P
open Go.RowKit Go.Proofs.YtkdghhkpmkfjhaaDoorW.PrintWords Go.Proofs.YtkdghhkpmkfjhaaDoorW.PrintLast Go.Proofs.YtkdghhkpmkfjhaaDoorW.PrintMore
attribute [local go_sem] max2_int min2_int max_two min_two max_three min_three max_four min_four
set_option linter.unusedVariables false
set_option linter.unusedSimpArgs false

/-! ### impl_Match: function 70 -/
def impl_Match.f (k : Nat) (a0 : ByteArray) (a1 : ByteArray) : Option (Bool) := (impl_ValidGlob.f k a0).bind fun t749 => (if t749 = true then ((impl_ValidPath.f k a1).bind fun t750 => (if t750 = true then ((strings_Split.f a0 (⟨#[47]⟩ : ByteArray)).bind fun t751 => ((strings_Split.f a1 (⟨#[47]⟩ : ByteArray)).bind fun t754 => ((impl_matchParts.f k t751 t754).bind fun t757 => (some t757)))) else (some false))) else (some false))
theorem impl_Match.mono : ∀ a0 a1 k, LeO (impl_Match.f k a0 a1) (impl_Match.f (k + 1) a0 a1) := by
 intro a0 a1 k
 unfold impl_Match.f
 repeat' first
   | (with_reducible exact impl_ValidGlob.mono _ _)
   | (with_reducible exact impl_ValidPath.mono _ _)
   | (with_reducible exact impl_matchParts.mono _ _ _)
   | (with_reducible exact LeO.refl _)
   | (with_reducible exact LeO.none _)
   | (with_reducible refine LeO.ite ?_ ?_)
   | (with_reducible refine LeO.bind ?_ (fun _ => ?_))
   | exact impl_ValidGlob.mono _ _
   | exact impl_ValidPath.mono _ _
   | exact impl_matchParts.mono _ _ _
   | exact LeO.none _
   | refine LeO.ite ?_ ?_
   | refine LeO.bind ?_ (fun _ => ?_)
set_option maxHeartbeats 8000000 in
set_option maxRecDepth 100000 in
theorem impl_Match.calls (k : Nat) (a0 : ByteArray) (a1 : ByteArray) (r : Bool) (w : World) (hg : GOK w) (h : impl_Match.f k a0 a1 = some r) :
  Calls Tryd.prog 70 #[.string a0, .string a1] w fun e w' => e = .returned (.bool r) ∧ Below w.heap.size w w' := by
 have HG := Aside0.mk hg; clear hg; have HB := Aside0.mk (Below.refl w.heap.size w); have H : ((impl_ValidGlob.f k a0).bind fun t749 => (if t749 = true then ((impl_ValidPath.f k a1).bind fun t750 => (if t750 = true then ((strings_Split.f a0 (⟨#[47]⟩ : ByteArray)).bind fun t751 => ((strings_Split.f a1 (⟨#[47]⟩ : ByteArray)).bind fun t754 => ((impl_matchParts.f k t751 t754).bind fun t757 => (some t757)))) else (some false))) else (some false))) = some r := h; clear h; replace H := Option.bind_eq_some_iff.mp H; obtain ⟨t749, A30, H⟩ := H; replace H : (if t749 = true then ((impl_ValidPath.f k a1).bind fun t750 => (if t750 = true then ((strings_Split.f a0 (⟨#[47]⟩ : ByteArray)).bind fun t751 => ((strings_Split.f a1 (⟨#[47]⟩ : ByteArray)).bind fun t754 => ((impl_matchParts.f k t751 t754).bind fun t757 => (some t757)))) else (some false))) else (some false)) = some r := H; have A3 := Aside0.mk A30; clear A30
 by_cases c4 : t749 = true
 ·subst c4
  have H1 : ((impl_ValidPath.f k a1).bind fun t750 => (if t750 = true then ((strings_Split.f a0 (⟨#[47]⟩ : ByteArray)).bind fun t751 => ((strings_Split.f a1 (⟨#[47]⟩ : ByteArray)).bind fun t754 => ((impl_matchParts.f k t751 t754).bind fun t757 => (some t757)))) else (some false))) = some r := by rw [if_pos rfl] at H; exact H
  clear H; have H := H1; clear H1; replace H := Option.bind_eq_some_iff.mp H; obtain ⟨t750, A50, H⟩ := H; replace H : (if t750 = true then ((strings_Split.f a0 (⟨#[47]⟩ : ByteArray)).bind fun t751 => ((strings_Split.f a1 (⟨#[47]⟩ : ByteArray)).bind fun t754 => ((impl_matchParts.f k t751 t754).bind fun t757 => (some t757)))) else (some false)) = some r := H; have A5 := Aside0.mk A50; clear A50
  by_cases c6 : t750 = true
  ·subst c6
   have H1 : ((strings_Split.f a0 (⟨#[47]⟩ : ByteArray)).bind fun t751 => ((strings_Split.f a1 (⟨#[47]⟩ : ByteArray)).bind fun t754 => ((impl_matchParts.f k t751 t754).bind fun t757 => (some t757)))) = some r := by rw [if_pos rfl] at H; exact H
   clear H; have H := H1; clear H1; replace H := Option.bind_eq_some_iff.mp H; obtain ⟨t751, A70, H⟩ := H; replace H : ((strings_Split.f a1 (⟨#[47]⟩ : ByteArray)).bind fun t754 => ((impl_matchParts.f k t751 t754).bind fun t757 => (some t757))) = some r := H; have A7 := Aside0.mk A70; clear A70; replace H := Option.bind_eq_some_iff.mp H; obtain ⟨t754, A80, H⟩ := H; replace H : ((impl_matchParts.f k t751 t754).bind fun t757 => (some t757)) = some r := H; have A8 := Aside0.mk A80; clear A80; replace H := Option.bind_eq_some_iff.mp H; obtain ⟨t757, A90, H⟩ := H; replace H : (some t757) = some r := H; have A9 := Aside0.mk A90; clear A90; obtain rfl := Option.some.inj H
   go_enter Tryd.func70, Tryd.ntmps70
   go_wp2_with (first | ((with_reducible refine gate_callee (f := 87) rfl ?_); refine goesL_ (some 6) rfl rfl Tryd.func87 (by kernel_rfl) rfl #[.string a0] rfl (by (try simp only [List.map_toArray, List.map_cons, List.map_nil]); first | done | rfl | (simp only [List.length_drop, List.length_take]; rfl)) ?_; (with_reducible refine (impl_ValidGlob.calls k a0 true _ ?sideG A3.out).mono ?_); (case sideG => (first | exact HG.out | exact GOK.below HG.out (by repeat (first | (with_reducible first | exact HB.out | apply below_alloc | apply pw_below_drewN | apply below_drew1) | exact HB.out | exact Below.refl _ _)))); rintro e w10 ⟨rfl, hb⟩; refine ⟨_, rfl, ?_⟩; have n0_ := Aside0.mk (below_step (by repeat (first | (with_reducible first | exact HB.out | apply below_alloc | apply pw_below_drewN | apply below_drew1) | exact HB.out)) hb); clear HB; have HB := n0_; clear n0_; (try clear hb); (try clear hb2); (try clear hk); (try clear hi)) | (go_at_call 57; (with_reducible refine (impl_ValidPath.calls k a1 true _ ?sideG A5.out).mono ?_); (case sideG => (first | exact HG.out | exact GOK.below HG.out (by repeat (first | (with_reducible first | exact HB.out | apply below_alloc | apply pw_below_drewN | apply below_drew1) | exact HB.out | exact Below.refl _ _)))); rintro e w11 ⟨rfl, hb⟩; have n0_ := Aside0.mk (below_step (by repeat (first | (with_reducible first | exact HB.out | apply below_alloc | apply pw_below_drewN | apply below_drew1) | exact HB.out)) hb); clear HB; have HB := n0_; clear n0_; (try clear hb); (try clear hb2); (try clear hk); (try clear hi)) | (go_at_call 89; (with_reducible refine (strings_Split.calls a0 (⟨#[47]⟩ : ByteArray) t751 _ ?sideG A7.out).mono ?_); (case sideG => (first | exact HG.out | exact GOK.below HG.out (by repeat (first | (with_reducible first | exact HB.out | apply below_alloc | apply pw_below_drewN | apply below_drew1) | exact HB.out | exact Below.refl _ _)))); rintro e w12 ⟨v752, rfl, ho0, hb⟩; have n0_ := Aside0.mk (Kd.R_lower ho0 (below_size (by repeat (first | (with_reducible first | exact HB.out | apply below_alloc | apply pw_below_drewN | apply below_drew1) | exact HB.out)))); have n1_ := Aside0.mk (below_step (by repeat (first | (with_reducible first | exact HB.out | apply below_alloc | apply pw_below_drewN | apply below_drew1) | exact HB.out)) hb); clear HB; have HO753 := n0_; have HB := n1_; clear n0_ n1_; (try clear hb); (try clear hb2); (try clear hk); (try clear hi); (try clear ho0)) | (go_at_call 89; (with_reducible refine (strings_Split.calls a1 (⟨#[47]⟩ : ByteArray) t754 _ ?sideG A8.out).mono ?_); (case sideG => (first | exact HG.out | exact GOK.below HG.out (by repeat (first | (with_reducible first | exact HB.out | apply below_alloc | apply pw_below_drewN | apply below_drew1) | exact HB.out | exact Below.refl _ _)))); rintro e w13 ⟨v755, rfl, ho0, hb⟩; have n0_ := Aside0.mk (Kd.R_elder' (by (with_reducible repeat (first | apply Kd.R_alloc | apply Kd.R_drewN | apply Kd.R_drew)); exact HO753.out) (Kd.R_base ho0) hb); have n1_ := Aside0.mk (Kd.R_lower (Kd.R_new' ho0 (Kd.R_lt (by (with_reducible repeat (first | apply Kd.R_alloc | apply Kd.R_drewN | apply Kd.R_drew)); exact HO753.out))) (below_size (by repeat (first | (with_reducible first | exact HB.out | apply below_alloc | apply pw_below_drewN | apply below_drew1) | exact HB.out)))); have n2_ := Aside0.mk (below_step (by repeat (first | (with_reducible first | exact HB.out | apply below_alloc | apply pw_below_drewN | apply below_drew1) | exact HB.out)) hb); clear HO753; clear HB; have HO753 := n0_; have HO756 := n1_; have HB := n2_; clear n0_ n1_ n2_; (try clear hb); (try clear hb2); (try clear hk); (try clear hi); (try clear ho0); obtain ⟨Ao14, co14, eo14⟩ := Kd.R_slice HO753.out; subst eo14; obtain ⟨Ao15, co15, eo15⟩ := Kd.R_slice HO756.out; subst eo15) | (go_at_call 88; (with_reducible refine (impl_matchParts.calls k _ _ t751 _ _ t754 t757 _ ?side1 ?side2 ?side3 ?side4 A9.out).mono ?_); (case side1 => repeat (first | exact (Kd.R_reads' HO753.out).2.2 | (with_reducible refine Kd.C_alloc ?_ _) | (with_reducible refine Kd.C_drewN ?_ _) | (with_reducible refine Kd.C_drew ?_))); (case side2 => exact (Kd.R_reads' HO753.out).2.1); (case side3 => repeat (first | exact (Kd.R_reads' HO756.out).2.2 | (with_reducible refine Kd.C_alloc ?_ _) | (with_reducible refine Kd.C_drewN ?_ _) | (with_reducible refine Kd.C_drew ?_))); (case side4 => exact (Kd.R_reads' HO756.out).2.1); rintro e w16 ⟨rfl, hb⟩; have n0_ := Aside0.mk (Kd.R_below (by (with_reducible repeat (first | apply Kd.R_alloc | apply Kd.R_drewN | apply Kd.R_drew)); exact HO753.out) hb); have n1_ := Aside0.mk (Kd.R_below (by (with_reducible repeat (first | apply Kd.R_alloc | apply Kd.R_drewN | apply Kd.R_drew)); exact HO756.out) hb); have n2_ := Aside0.mk (below_step (by repeat (first | (with_reducible first | exact HB.out | apply below_alloc | apply pw_below_drewN | apply below_drew1) | exact HB.out)) hb); clear HO753; clear HO756; clear HB; have HO753 := n0_; have HO756 := n1_; have HB := n2_; clear n0_ n1_ n2_; (try clear hb); (try clear hb2); (try clear hk); (try clear hi)))
   go_ret
   exact ⟨by first | rfl | (simp [errW_none, errW_some] <;> rfl) | (simp [*, errW_none, errW_some] <;> rfl), by repeat (first | (with_reducible first | exact HB.out | apply below_alloc | apply pw_below_drewN | apply below_drew1) | exact HB.out)⟩
  ·replace c6 := Bool.eq_false_iff.mpr c6; subst c6
   have H1 : (some false) = some r := by rw [if_neg (show ¬ (false = true) by decide)] at H; exact H
   clear H; have H := H1; clear H1; obtain rfl := Option.some.inj H
   go_enter Tryd.func70, Tryd.ntmps70
   go_wp2_with (first | ((with_reducible refine gate_callee (f := 87) rfl ?_); refine goesL_ (some 6) rfl rfl Tryd.func87 (by kernel_rfl) rfl #[.string a0] rfl (by (try simp only [List.map_toArray, List.map_cons, List.map_nil]); first | done | rfl | (simp only [List.length_drop, List.length_take]; rfl)) ?_; (with_reducible refine (impl_ValidGlob.calls k a0 true _ ?sideG A3.out).mono ?_); (case sideG => (first | exact HG.out | exact GOK.below HG.out (by repeat (first | (with_reducible first | exact HB.out | apply below_alloc | apply pw_below_drewN | apply below_drew1) | exact HB.out | exact Below.refl _ _)))); rintro e w17 ⟨rfl, hb⟩; refine ⟨_, rfl, ?_⟩; have n0_ := Aside0.mk (below_step (by repeat (first | (with_reducible first | exact HB.out | apply below_alloc | apply pw_below_drewN | apply below_drew1) | exact HB.out)) hb); clear HB; have HB := n0_; clear n0_; (try clear hb); (try clear hb2); (try clear hk); (try clear hi)) | (go_at_call 57; (with_reducible refine (impl_ValidPath.calls k a1 false _ ?sideG A5.out).mono ?_); (case sideG => (first | exact HG.out | exact GOK.below HG.out (by repeat (first | (with_reducible first | exact HB.out | apply below_alloc | apply pw_below_drewN | apply below_drew1) | exact HB.out | exact Below.refl _ _)))); rintro e w18 ⟨rfl, hb⟩; have n0_ := Aside0.mk (below_step (by repeat (first | (with_reducible first | exact HB.out | apply below_alloc | apply pw_below_drewN | apply below_drew1) | exact HB.out)) hb); clear HB; have HB := n0_; clear n0_; (try clear hb); (try clear hb2); (try clear hk); (try clear hi)))
   go_ret
   exact ⟨by first | rfl | (simp [errW_none, errW_some] <;> rfl) | (simp [*, errW_none, errW_some] <;> rfl), by repeat (first | (with_reducible first | exact HB.out | apply below_alloc | apply pw_below_drewN | apply below_drew1) | exact HB.out)⟩
 ·replace c4 := Bool.eq_false_iff.mpr c4; subst c4
  have H1 : (some false) = some r := by rw [if_neg (show ¬ (false = true) by decide)] at H; exact H
  clear H; have H := H1; clear H1; obtain rfl := Option.some.inj H
  go_enter Tryd.func70, Tryd.ntmps70
  go_wp2_with (first | ((with_reducible refine gate_callee (f := 87) rfl ?_); refine goesL_ (some 6) rfl rfl Tryd.func87 (by kernel_rfl) rfl #[.string a0] rfl (by (try simp only [List.map_toArray, List.map_cons, List.map_nil]); first | done | rfl | (simp only [List.length_drop, List.length_take]; rfl)) ?_; (with_reducible refine (impl_ValidGlob.calls k a0 false _ ?sideG A3.out).mono ?_); (case sideG => (first | exact HG.out | exact GOK.below HG.out (by repeat (first | (with_reducible first | exact HB.out | apply below_alloc | apply pw_below_drewN | apply below_drew1) | exact HB.out | exact Below.refl _ _)))); rintro e w19 ⟨rfl, hb⟩; refine ⟨_, rfl, ?_⟩; have n0_ := Aside0.mk (below_step (by repeat (first | (with_reducible first | exact HB.out | apply below_alloc | apply pw_below_drewN | apply below_drew1) | exact HB.out)) hb); clear HB; have HB := n0_; clear n0_; (try clear hb); (try clear hb2); (try clear hk); (try clear hi)))
  go_ret
  exact ⟨by first | rfl | (simp [errW_none, errW_some] <;> rfl) | (simp [*, errW_none, errW_some] <;> rfl), by repeat (first | (with_reducible first | exact HB.out | apply below_alloc | apply pw_below_drewN | apply below_drew1) | exact HB.out)⟩


end Go.Proofs.YtkdghhkpmkfjhaaDoor.P


namespace Go.Proofs.YtkdghhkpmkfjhaaDoor.P
open Go.RowKit Go.Proofs.YtkdghhkpmkfjhaaDoorW.PrintWords Go.Proofs.YtkdghhkpmkfjhaaDoorW.PrintLast Go.Proofs.YtkdghhkpmkfjhaaDoorW.PrintMore
attribute [local go_sem] max2_int min2_int max_two min_two max_three min_three max_four min_four
set_option linter.unusedVariables false
set_option linter.unusedSimpArgs false

/-! ### slices_ContainsFunc_string_string: function 68 -/
def slices_ContainsFunc_string_string.l0 (k : Nat) (p : ByteArray) : List ByteArray → Option Bool
 | [] => some false
 | g :: r => (impl_Match.f k g p).bind fun t => if t = true then some true else slices_ContainsFunc_string_string.l0 k p r
def slices_ContainsFunc_string_string.f (k : Nat) (l0 : List ByteArray) (p _t : ByteArray) (_u : Bool) : Option Bool := if l0.length ≤ 4611686018427387904 then slices_ContainsFunc_string_string.l0 k p l0 else none
theorem slices_ContainsFunc_string_string.mono_l (p : ByteArray) : ∀ l k, LeO (slices_ContainsFunc_string_string.l0 k p l) (slices_ContainsFunc_string_string.l0 (k + 1) p l)
 | [], _ => LeO.refl _
 | g :: r, k => by
  unfold slices_ContainsFunc_string_string.l0
  exact LeO.bind (impl_Match.mono _ _ _) (fun _ => LeO.ite (LeO.refl _) (slices_ContainsFunc_string_string.mono_l p r k))
theorem slices_ContainsFunc_string_string.mono : ∀ l0 p t u k, LeO (slices_ContainsFunc_string_string.f k l0 p t u) (slices_ContainsFunc_string_string.f (k + 1) l0 p t u) := fun l0 p _ _ k => LeO.ite (slices_ContainsFunc_string_string.mono_l p l0 k) (LeO.refl _)
set_option maxHeartbeats 1000000 in
set_option maxRecDepth 100000 in
theorem slices_ContainsFunc_string_string.clo_calls (k : Nat) (g p t : ByteArray) (u r : Bool) (gb : Nat) (w : World) (hg : GOK w) (hb : w.heap[gb]? = some (.cells #[.string p, .string t, .bool u] 45 (0, 0))) (h : impl_Match.f k g p = some r) :
  Calls Tryd.prog 69 #[.string g, .pointer (some ⟨gb, 0, none⟩)] w fun e w' => e = .returned (.bool r) ∧ Below w.heap.size w w' := by
 have hu45 := Tryd.underlying45; have hc : w.cell? ⟨gb, 0, none⟩ = some (.string p) := (blk_cell hb 0).trans rfl
 go_enter Tryd.func69, Tryd.ntmps69
 go_wp2_with (go_at_call 70; refine (impl_Match.calls k g p r _ hg h).mono ?_; rintro e w' ⟨rfl, hb2⟩)
 go_ret
 exact ⟨rfl, hb2⟩
set_option maxHeartbeats 2000000 in
set_option maxRecDepth 100000 in
theorem slices_ContainsFunc_string_string.calls (k : Nat) (A0 : Option Addr) (c0 : Nat) (l0 : List ByteArray) (a1_0 a1_1 : ByteArray) (a1_2 : Bool) (r : Bool) (gb : Nat) (w : World) (hg : GOK w) (hr0 : Kd.C Kd.string w A0 l0.length l0) (hc0 : l0.length ≤ c0) (hbx : w.heap[gb]? = some (.cells #[.string a1_0, .string a1_1, .bool a1_2] 45 (0, 0))) (h : slices_ContainsFunc_string_string.f k l0 a1_0 a1_1 a1_2 = some r) :
  Calls Tryd.prog 68 #[.slice A0 l0.length c0, .func (.func 69) #[] #[.pointer (some ⟨gb, 0, none⟩)]] w fun e w' => e = .returned (.bool r) ∧ Below w.heap.size w w' := by
 unfold slices_ContainsFunc_string_string.f at h
 have hl62 : l0.length ≤ 4611686018427387904 := by
  refine Classical.byContradiction fun hn => ?_
  rw [if_neg hn] at h
  cases h
 rw [if_pos hl62] at h
 have H := Aside0.mk h; have HR := Aside0.mk hr0; have HX := Aside0.mk hbx; have HG := Aside0.mk hg; have HB := Aside0.mk (Below.refl w.heap.size w); have HL := Aside0.mk hl62; clear h hr0 hbx hg hl62
 go_enter Tryd.func68, Tryd.ntmps68
 go_wp2
 go_loopg [8] (l0.length) (fun kq v8 w' => ∃ i : Nat, v8 = .int .i64 (i : Int) ∧ Aside0 (slices_ContainsFunc_string_string.l0 k a1_0 (l0.drop i) = some r) ∧ Aside0 (kq + i = l0.length) ∧ Aside0 (Below w.heap.size w w'))
 case atStart => exact ⟨0, rfl, ⟨by rw [List.drop_zero]; exact H.out⟩, ⟨by omega⟩, HB⟩
 case round =>
  clear H HB; obtain ⟨i, rfl, HA, HK, HB⟩ := hrel; have H := HA.out; have hik := HK.out; clear HA
  by_cases hi : i < l0.length
  ·have c1 : decide ((i : Int) < (l0.length : Int)) = true := decide_eq_true (by omega); have c2 : decide (0 ≤ (i : Int)) = true := decide_eq_true (by omega); have c3 : decide (i < l0.length) = true := decide_eq_true hi
   rw [List.drop_eq_getElem_cons hi] at H
   have e0 : slices_ContainsFunc_string_string.l0 k a1_0 (l0[i] :: l0.drop (i + 1)) = ((impl_Match.f k l0[i] a1_0).bind fun t => if t = true then some true else slices_ContainsFunc_string_string.l0 k a1_0 (l0.drop (i + 1))) := rfl
   rw [e0] at H
   clear e0; obtain ⟨t, ht, H⟩ := Option.bind_eq_some_iff.1 H; have HT := Aside0.mk ht; clear ht; obtain ⟨ad, e1, hx1⟩ := Kd.at_string HR.out (i : Int) (by omega) (by omega)
   cases e1
   replace hx1 := (HB.out.cell (World.block_lt_of_cell? w _ hx1)).trans hx1
   have er : rdOf ByteArray.empty l0 (i : Int) = l0[i] := by
    unfold rdOf
    rw [Int.toNat_natCast, List.getD_eq_getElem?_getD, List.getElem?_eq_getElem hi]
    rfl
   rw [er, Int.toNat_natCast] at hx1
   have hlt : gb < w.heap.size := by
    rcases Nat.lt_or_ge gb w.heap.size with h' | h'
    ·exact h'
    ·have := HX.out
     rw [Array.getElem?_eq_none h'] at this
     cases this
   have HY := Aside0.mk ((HB.out.block gb hlt).trans HX.out)
   cases t with
   | true =>
    rw [if_pos rfl] at H
    obtain rfl := Option.some.inj H; clear H
    go_wp2_with (go_at_call 69; refine (slices_ContainsFunc_string_string.clo_calls k l0[i] a1_0 a1_1 a1_2 true gb _ (GOK.below HG.out HB.out) HY.out HT.out).mono ?_; rintro e w2 ⟨rfl, hb2⟩)
    go_ret
    exact ⟨by simp, below_step HB.out hb2⟩
   | false =>
    rw [if_neg (by simp)] at H
    have H' := Aside0.mk H; clear H
    go_wp2_with (go_at_call 69; refine (slices_ContainsFunc_string_string.clo_calls k l0[i] a1_0 a1_1 a1_2 false gb _ (GOK.below HG.out HB.out) HY.out HT.out).mono ?_; rintro e w2 ⟨rfl, hb2⟩)
    go_roundg (gk - 1)
    case measure => omega
    case rel => exact ⟨i + 1, by rw [show wrap64 ((i : Int) + 1) = ((i + 1 : Nat) : Int) from by have := HL.out; unfold wrap64; omega], H', ⟨by omega⟩, ⟨below_step HB.out hb2⟩⟩
  ·have c1 : decide ((i : Int) < (l0.length : Int)) = false := decide_eq_false (by omega); have c3 : decide (i < l0.length) = false := decide_eq_false hi
   rw [List.drop_of_length_le (by omega)] at H
   obtain rfl := Option.some.inj (show some false = some r from H); clear H
   go_wp2
   go_ret
   exact ⟨by simp, HB.out⟩


end Go.Proofs.YtkdghhkpmkfjhaaDoor.P


namespace Go.Proofs.YtkdghhkpmkfjhaaDoor.P
open Go.RowKit Go.Proofs.YtkdghhkpmkfjhaaDoorW.PrintWords Go.Proofs.YtkdghhkpmkfjhaaDoorW.PrintLast Go.Proofs.YtkdghhkpmkfjhaaDoorW.PrintMore
attribute [local go_sem] max2_int min2_int max_two min_two max_three min_three max_four min_four
set_option linter.unusedVariables false
set_option linter.unusedSimpArgs false

/-! ### impl_Pick: function 38 -/
mutual
def impl_Pick.j0 : Nat → List ByteArray → Bool → List (S45) → Option ((List (S45)))
 | 0, _, _, _ => none
 | k + 1, x1, x15, x535000 => if x15 = true then (some ([] : List (S45))) else (impl_Pick.l0 k x1 x535000 (x535000.length : Int) 0 ([] : List (S45)))
def impl_Pick.l0 : Nat → List ByteArray → List (S45) → Int → Int → List (S45) → Option ((List (S45)))
 | 0, _, _, _, _, _ => none
 | k + 1, x1, x18, x19, x20, x537000 => if x20 < x19 then (if 0 ≤ x20 then (if x20 < (x18.length : Int) then ((slices_ContainsFunc_string_string.f k x1 ((rd_T45 x18 x20).f0) ((rd_T45 x18 x20).f1) ((rd_T45 x18 x20).f2)).bind fun t540 => (if t540 = true then (if x537000.length < 3518437208883 then (impl_Pick.l0 k x1 x18 x19 (wrap64 (x20 + 1)) (x537000 ++ [(⟨(rd_T45 x18 x20).f0, (rd_T45 x18 x20).f1, (rd_T45 x18 x20).f2⟩ : S45)])) else (none)) else (impl_Pick.l0 k x1 x18 x19 (wrap64 (x20 + 1)) x537000))) else (none)) else (none)) else (some x537000)
end
def impl_Pick.f (k : Nat) (qa : List (S45)) (l1 : List ByteArray) : Option ((List (S45))) := (impl_ValidTree.f k qa).bind fun t537 => (if t537 = true then (impl_Pick.j0 k l1 (decide ((l1.length : Int) > 20)) qa) else (impl_Pick.j0 k l1 true qa))
theorem impl_Pick.mono_l : ∀ k, (∀ y0 y1 y2, LeO (impl_Pick.j0 k y0 y1 y2) (impl_Pick.j0 (k + 1) y0 y1 y2)) ∧ (∀ y0 y1 y2 y3 y4, LeO (impl_Pick.l0 k y0 y1 y2 y3 y4) (impl_Pick.l0 (k + 1) y0 y1 y2 y3 y4))
 | 0 => ⟨fun _ _ _ r h => by simp [impl_Pick.j0] at h, fun _ _ _ _ _ r h => by simp [impl_Pick.l0] at h⟩
 | k + 1 => by
  obtain ⟨ih0, ih1⟩ := impl_Pick.mono_l k; refine ⟨?_, ?_⟩
  ·intro y0 y1 y2
   unfold impl_Pick.j0
   repeat' first
   | (with_reducible exact ih0 _ _ _)
   | (with_reducible exact ih1 _ _ _ _ _)
   | (with_reducible exact impl_ValidTree.mono _ _)
   | (with_reducible exact slices_ContainsFunc_string_string.mono _ _ _ _ _)
   | (with_reducible exact LeO.refl _)
   | (with_reducible exact LeO.none _)
   | (with_reducible refine LeO.ite ?_ ?_)
   | (with_reducible refine LeO.bind ?_ (fun _ => ?_))
   | exact ih0 _ _ _
   | exact ih1 _ _ _ _ _
   | exact impl_ValidTree.mono _ _
   | exact slices_ContainsFunc_string_string.mono _ _ _ _ _
   | exact LeO.none _
   | refine LeO.ite ?_ ?_
   | refine LeO.bind ?_ (fun _ => ?_)
  ·intro y0 y1 y2 y3 y4
   unfold impl_Pick.l0
   repeat' first
   | (with_reducible exact ih0 _ _ _)
   | (with_reducible exact ih1 _ _ _ _ _)
   | (with_reducible exact impl_ValidTree.mono _ _)
   | (with_reducible exact slices_ContainsFunc_string_string.mono _ _ _ _ _)
   | (with_reducible exact LeO.refl _)
   | (with_reducible exact LeO.none _)
   | (with_reducible refine LeO.ite ?_ ?_)
   | (with_reducible refine LeO.bind ?_ (fun _ => ?_))
   | exact ih0 _ _ _
   | exact ih1 _ _ _ _ _
   | exact impl_ValidTree.mono _ _
   | exact slices_ContainsFunc_string_string.mono _ _ _ _ _
   | exact LeO.none _
   | refine LeO.ite ?_ ?_
   | refine LeO.bind ?_ (fun _ => ?_)
theorem impl_Pick.mono : ∀ a0 a1 k, LeO (impl_Pick.f k a0 a1) (impl_Pick.f (k + 1) a0 a1) := by
 intro a0 a1 k; obtain ⟨ih0, ih1⟩ := impl_Pick.mono_l k
 unfold impl_Pick.f
 repeat' first
   | (with_reducible exact ih0 _ _ _)
   | (with_reducible exact ih1 _ _ _ _ _)
   | (with_reducible exact impl_ValidTree.mono _ _)
   | (with_reducible exact slices_ContainsFunc_string_string.mono _ _ _ _ _)
   | (with_reducible exact LeO.refl _)
   | (with_reducible exact LeO.none _)
   | (with_reducible refine LeO.ite ?_ ?_)
   | (with_reducible refine LeO.bind ?_ (fun _ => ?_))
   | exact ih0 _ _ _
   | exact ih1 _ _ _ _ _
   | exact impl_ValidTree.mono _ _
   | exact slices_ContainsFunc_string_string.mono _ _ _ _ _
   | exact LeO.none _
   | refine LeO.ite ?_ ?_
   | refine LeO.bind ?_ (fun _ => ?_)
set_option maxHeartbeats 8000000 in
set_option maxRecDepth 100000 in
theorem impl_Pick.calls (k : Nat) (A0_0 : Option Addr) (qm : Nat) (qa : List (S45)) (A1 : Option Addr) (c1 : Nat) (l1 : List ByteArray) (r : List (S45)) (w : World) (hg : GOK w) (hr0_0 : Kd.C k45 w A0_0 qa.length qa) (hc0_0 : qa.length ≤ qm) (hr1 : Kd.C Kd.string w A1 l1.length l1) (hc1 : l1.length ≤ c1) (h : impl_Pick.f k qa l1 = some r) :
  Calls Tryd.prog 38 #[.agg #[.slice A0_0 qa.length qm], .slice A1 l1.length c1] w fun e w' => ∃ v0_ : Value, e = .returned (.agg #[v0_]) ∧ Kd.R k45 45 w' w.heap.size (fun _ => True) v0_ r ∧ Below w.heap.size w w' := by
 have HG := Aside0.mk hg; clear hg; have hu29 := Tryd.underlying29; have hu45 := Tryd.underlying45; have HR0_0 := Aside0.mk hr0_0; have HC0_0 := Aside0.mk hc0_0; clear hr0_0 hc0_0; have HR1 := Aside0.mk hr1; have HC1 := Aside0.mk hc1; clear hr1 hc1; have HB := Aside0.mk (Below.refl w.heap.size w); have H : ((impl_ValidTree.f k qa).bind fun t537 => (if t537 = true then (impl_Pick.j0 k l1 (decide ((l1.length : Int) > 20)) qa) else (impl_Pick.j0 k l1 true qa))) = some r := h; clear h; have HC3 := Aside0.mk H; clear H
 go_enter Tryd.func38, Tryd.ntmps38
 go_upto_region 2 with (first | ((with_reducible refine gate_dst (N := 2) rfl ?_); (try (refine gate_guard (by rfl) ?_; dsimp only)); refine box_event ?hg (N := 2) ?hd (cs := #[.slice A0_0 qa.length qm]) (t := 29) ?hr ?_; (case hd => rfl); (case hg => rfl); (case hr => first | (go_simp; done) | (go_simp; rfl)); intro qg hg w4 hbox hb; have n0_ := Aside0.mk (below_step (by repeat (first | (with_reducible first | exact HB.out | apply below_alloc | apply pw_below_drewN | apply below_drew1) | exact HB.out)) hb); have n1_ := Aside0.mk (hbox); have n2_ := Aside0.mk ((by rw [hg]; exact (below_size (by repeat (first | (with_reducible first | exact HB.out | apply below_alloc | apply pw_below_drewN | apply below_drew1) | exact HB.out))) : w.heap.size ≤ qg)); have n3_ := Aside0.mk ((by rw [hg]; exact (below_size (by repeat (first | (with_reducible first | exact HB.out | apply below_alloc | apply pw_below_drewN | apply below_drew1) | exact HB.out))) : w.heap.size ≤ qg)); clear HB; have HB := n0_; have qc := n1_; have GW534 := n2_; have qh := n3_; clear n0_ n1_ n2_ n3_; clear hb hbox hg) | ((with_reducible refine gate_dst (N := 4) rfl ?_); (try (refine gate_guard (by rfl) ?_; dsimp only)); refine box_event ?hg (N := 4) ?hd (cs := #[.slice none 0 0]) (t := 29) ?hr ?_; (case hd => rfl); (case hg => rfl); (case hr => first | (go_simp; done) | (go_simp; rfl)); intro qi hg w5 hbox hb; have n0_ := Aside0.mk (blk_below (g := qg) (o := .cells #[.slice A0_0 qa.length qm] 29 (0, 0)) (by (with_reducible repeat (first | apply blk_drewN | apply blk_drew | apply blk_alloc)); exact qc.out) hb); have n1_ := Aside0.mk (below_step (by repeat (first | (with_reducible first | exact HB.out | apply below_alloc | apply pw_below_drewN | apply below_drew1 | refine below_set ?_ qh.out) | exact HB.out)) hb); have n2_ := Aside0.mk (hbox); have n3_ := Aside0.mk ((by rw [hg]; exact (below_size (by repeat (first | (with_reducible first | exact HB.out | apply below_alloc | apply pw_below_drewN | apply below_drew1 | refine below_set ?_ qh.out) | exact HB.out))) : w.heap.size ≤ qi)); have n4_ := Aside0.mk ((by rw [hg]; exact (below_size (by repeat (first | (with_reducible first | exact HB.out | apply below_alloc | apply pw_below_drewN | apply below_drew1 | refine below_set ?_ qh.out) | exact HB.out))) : w.heap.size ≤ qi)); have n5_ := Aside0.mk ((by rw [hg]; exact Nat.ne_of_lt (blk_lt (g := qg) (o := .cells #[.slice A0_0 qa.length qm] 29 (0, 0)) (by (with_reducible repeat (first | apply blk_drewN | apply blk_drew | apply blk_alloc)); exact qc.out)) : qg ≠ qi)); have n6_ := Aside0.mk ((by rw [hg]; exact Nat.ne_of_gt (blk_lt (g := qg) (o := .cells #[.slice A0_0 qa.length qm] 29 (0, 0)) (by (with_reducible repeat (first | apply blk_drewN | apply blk_drew | apply blk_alloc)); exact qc.out)) : qi ≠ qg)); clear qc; clear HB; have qc := n0_; have HB := n1_; have qd := n2_; have GW535 := n3_; have qk := n4_; have qy := n5_; have qz := n6_; clear n0_ n1_ n2_ n3_ n4_ n5_ n6_; clear hb hbox hg) | ((with_reducible refine gate_dst (N := 5) rfl ?_); (try (refine gate_guard (by rfl) ?_; dsimp only)); refine box_event ?hg (N := 5) ?hd (cs := #[.slice none 0 0]) (t := 29) ?hr ?_; (case hd => rfl); (case hg => rfl); (case hr => first | (go_simp; done) | (go_simp; rfl)); intro ql hg w6 hbox hb; have n0_ := Aside0.mk (blk_below (g := qg) (o := .cells #[.slice A0_0 qa.length qm] 29 (0, 0)) (by (with_reducible repeat (first | apply blk_drewN | apply blk_drew | apply blk_alloc)); exact qc.out) hb); have n1_ := Aside0.mk (blk_below (g := qi) (o := .cells #[.slice none 0 0] 29 (0, 0)) (by (with_reducible repeat (first | apply blk_drewN | apply blk_drew | apply blk_alloc)); exact qd.out) hb); have n2_ := Aside0.mk (below_step (by repeat (first | (with_reducible first | exact HB.out | apply below_alloc | apply pw_below_drewN | apply below_drew1 | refine below_set ?_ qh.out | refine below_set ?_ qk.out) | exact HB.out)) hb); have n3_ := Aside0.mk (hbox); have n4_ := Aside0.mk ((by rw [hg]; exact (below_size (by repeat (first | (with_reducible first | exact HB.out | apply below_alloc | apply pw_below_drewN | apply below_drew1 | refine below_set ?_ qh.out | refine below_set ?_ qk.out) | exact HB.out))) : w.heap.size ≤ ql)); have n5_ := Aside0.mk ((by rw [hg]; exact (below_size (by repeat (first | (with_reducible first | exact HB.out | apply below_alloc | apply pw_below_drewN | apply below_drew1 | refine below_set ?_ qh.out | refine below_set ?_ qk.out) | exact HB.out))) : w.heap.size ≤ ql)); have n6_ := Aside0.mk ((by rw [hg]; exact Nat.ne_of_lt (blk_lt (g := qg) (o := .cells #[.slice A0_0 qa.length qm] 29 (0, 0)) (by (with_reducible repeat (first | apply blk_drewN | apply blk_drew | apply blk_alloc)); exact qc.out)) : qg ≠ ql)); have n7_ := Aside0.mk ((by rw [hg]; exact Nat.ne_of_gt (blk_lt (g := qg) (o := .cells #[.slice A0_0 qa.length qm] 29 (0, 0)) (by (with_reducible repeat (first | apply blk_drewN | apply blk_drew | apply blk_alloc)); exact qc.out)) : ql ≠ qg)); have n8_ := Aside0.mk ((by rw [hg]; exact Nat.ne_of_lt (blk_lt (g := qi) (o := .cells #[.slice none 0 0] 29 (0, 0)) (by (with_reducible repeat (first | apply blk_drewN | apply blk_drew | apply blk_alloc)); exact qd.out)) : qi ≠ ql)); have n9_ := Aside0.mk ((by rw [hg]; exact Nat.ne_of_gt (blk_lt (g := qi) (o := .cells #[.slice none 0 0] 29 (0, 0)) (by (with_reducible repeat (first | apply blk_drewN | apply blk_drew | apply blk_alloc)); exact qd.out)) : ql ≠ qi)); clear qc; clear qd; clear HB; have qc := n0_; have qd := n1_; have HB := n2_; have qf := n3_; have GW536 := n4_; have qn := n5_; have qw := n6_; have qx := n7_; have NB535_536 := n8_; have NB536_535 := n9_; clear n0_ n1_ n2_ n3_ n4_ n5_ n6_ n7_ n8_ n9_; clear hb hbox hg))
 (try simp only [Act.put, List.setIfInBounds_toArray, List.set_cons_zero, List.set_cons_succ])
 go_cut [15] (fun v15 wc => ∃ (kq : Nat) (x15_2 : Bool), v15 = .bool x15_2 ∧ Aside0 (impl_Pick.j0 kq l1 x15_2 qa = some r) ∧ Aside0 (kq ≤ k) ∧ Aside0 (wc.heap[qg]? = some (.cells #[(.slice A0_0 qa.length qm)] 29 (0, 0))) ∧ Aside0 (wc.heap[qi]? = some (.cells #[(.slice none 0 0)] 29 (0, 0))) ∧ Aside0 (wc.heap[ql]? = some (.cells #[(.slice none 0 0)] 29 (0, 0))) ∧ Aside0 (Below w.heap.size w wc))
 case first =>
  have H := HC3.out; clear HC3; replace H := Option.bind_eq_some_iff.mp H; obtain ⟨t537, A70, H⟩ := H; replace H : (if t537 = true then (impl_Pick.j0 k l1 (decide ((l1.length : Int) > 20)) qa) else (impl_Pick.j0 k l1 true qa)) = some r := H; have A7 := Aside0.mk A70; clear A70
  by_cases c8 : t537 = true
  ·subst c8
   have H1 : (impl_Pick.j0 k l1 (decide ((l1.length : Int) > 20)) qa) = some r := by rw [if_pos rfl] at H; exact H
   clear H; have H := H1; clear H1; have H' := Aside0.mk H; clear H; have hnb9 := qy.out; have hnc9 := qz.out; have hnb10 := qw.out; have hnc10 := qx.out; have hcz11_0 : w6.cell? ⟨qg, 0, none⟩ = some (.slice A0_0 qa.length qm) := (blk_cell qc.out 0).trans rfl; have hfz11_0 := blk_frozen qc.out 0
   go_wp2_with (first | ((with_reducible refine gate_callee (f := 15) rfl ?_); refine goesL_ (some 9) rfl rfl Tryd.func15 (by kernel_rfl) rfl #[.agg #[.slice A0_0 qa.length qm]] rfl (by (try simp only [List.map_toArray, List.map_cons, List.map_nil]); first | done | rfl | (simp only [List.length_drop, List.length_take]; rfl)) ?_; (with_reducible refine (impl_ValidTree.calls k _ _ qa true _ ?sideG ?side1 ?side2 A7.out).mono ?_); (case sideG => (first | exact HG.out | exact GOK.below HG.out (by repeat (first | (with_reducible first | exact HB.out | apply below_alloc | apply pw_below_drewN | apply below_drew1 | refine below_set ?_ qh.out | refine below_set ?_ qk.out | refine below_set ?_ qn.out | refine below_set ?_ qr.out) | exact HB.out | exact Below.refl _ _)))); (case side1 => repeat (first | exact (Kd.C_below HR0_0.out HB.out) | (with_reducible refine Kd.C_alloc ?_ _) | (with_reducible refine Kd.C_drewN ?_ _) | (with_reducible refine Kd.C_drew ?_))); (case side2 => exact HC0_0.out); rintro e w12 ⟨rfl, hb⟩; refine ⟨_, rfl, ?_⟩; have n0_ := Aside0.mk (blk_below (g := qg) (o := .cells #[.slice A0_0 qa.length qm] 29 (0, 0)) (by (with_reducible repeat (first | apply blk_drewN | apply blk_drew | apply blk_alloc)); exact qc.out) hb); have n1_ := Aside0.mk (blk_below (g := qi) (o := .cells #[.slice none 0 0] 29 (0, 0)) (by (with_reducible repeat (first | apply blk_drewN | apply blk_drew | apply blk_alloc)); exact qd.out) hb); have n2_ := Aside0.mk (blk_below (g := ql) (o := .cells #[.slice none 0 0] 29 (0, 0)) (by (with_reducible repeat (first | apply blk_drewN | apply blk_drew | apply blk_alloc)); exact qf.out) hb); have n3_ := Aside0.mk (below_step (by repeat (first | (with_reducible first | exact HB.out | apply below_alloc | apply pw_below_drewN | apply below_drew1 | refine below_set ?_ qh.out | refine below_set ?_ qk.out | refine below_set ?_ qn.out) | exact HB.out)) hb); clear qc; clear qd; clear qf; clear HB; have qc := n0_; have qd := n1_; have qf := n2_; have HB := n3_; clear n0_ n1_ n2_ n3_; (try clear hb); (try clear hb2); (try clear hk); (try clear hi)))
   go_meet
   case rel => exact ⟨_, (decide ((l1.length : Int) > 20)), (by first | rfl | (simp; done) | (simp [*]; done)), H', ⟨by first | omega | exact Nat.le_refl _⟩, ⟨by (with_reducible repeat (first | apply blk_drewN | apply blk_drew | apply blk_alloc)); exact qc.out⟩, ⟨by (with_reducible repeat (first | apply blk_drewN | apply blk_drew | apply blk_alloc)); exact qd.out⟩, ⟨by (with_reducible repeat (first | apply blk_drewN | apply blk_drew | apply blk_alloc)); exact qf.out⟩, ⟨by repeat (first | (with_reducible first | exact HB.out | apply below_alloc | apply pw_below_drewN | apply below_drew1 | refine below_set ?_ qh.out | refine below_set ?_ qk.out | refine below_set ?_ qn.out) | exact HB.out)⟩⟩
  ·replace c8 := Bool.eq_false_iff.mpr c8; subst c8
   have H1 : (impl_Pick.j0 k l1 true qa) = some r := by rw [if_neg (show ¬ (false = true) by decide)] at H; exact H
   clear H; have H := H1; clear H1; have H' := Aside0.mk H; clear H; have hnb13 := qy.out; have hnc13 := qz.out; have hnb14 := qw.out; have hnc14 := qx.out; have hcz15_0 : w6.cell? ⟨qg, 0, none⟩ = some (.slice A0_0 qa.length qm) := (blk_cell qc.out 0).trans rfl; have hfz15_0 := blk_frozen qc.out 0
   go_wp2_with (first | ((with_reducible refine gate_callee (f := 15) rfl ?_); refine goesL_ (some 9) rfl rfl Tryd.func15 (by kernel_rfl) rfl #[.agg #[.slice A0_0 qa.length qm]] rfl (by (try simp only [List.map_toArray, List.map_cons, List.map_nil]); first | done | rfl | (simp only [List.length_drop, List.length_take]; rfl)) ?_; (with_reducible refine (impl_ValidTree.calls k _ _ qa false _ ?sideG ?side1 ?side2 A7.out).mono ?_); (case sideG => (first | exact HG.out | exact GOK.below HG.out (by repeat (first | (with_reducible first | exact HB.out | apply below_alloc | apply pw_below_drewN | apply below_drew1 | refine below_set ?_ qh.out | refine below_set ?_ qk.out | refine below_set ?_ qn.out | refine below_set ?_ qr.out) | exact HB.out | exact Below.refl _ _)))); (case side1 => repeat (first | exact (Kd.C_below HR0_0.out HB.out) | (with_reducible refine Kd.C_alloc ?_ _) | (with_reducible refine Kd.C_drewN ?_ _) | (with_reducible refine Kd.C_drew ?_))); (case side2 => exact HC0_0.out); rintro e w16 ⟨rfl, hb⟩; refine ⟨_, rfl, ?_⟩; have n0_ := Aside0.mk (blk_below (g := qg) (o := .cells #[.slice A0_0 qa.length qm] 29 (0, 0)) (by (with_reducible repeat (first | apply blk_drewN | apply blk_drew | apply blk_alloc)); exact qc.out) hb); have n1_ := Aside0.mk (blk_below (g := qi) (o := .cells #[.slice none 0 0] 29 (0, 0)) (by (with_reducible repeat (first | apply blk_drewN | apply blk_drew | apply blk_alloc)); exact qd.out) hb); have n2_ := Aside0.mk (blk_below (g := ql) (o := .cells #[.slice none 0 0] 29 (0, 0)) (by (with_reducible repeat (first | apply blk_drewN | apply blk_drew | apply blk_alloc)); exact qf.out) hb); have n3_ := Aside0.mk (below_step (by repeat (first | (with_reducible first | exact HB.out | apply below_alloc | apply pw_below_drewN | apply below_drew1 | refine below_set ?_ qh.out | refine below_set ?_ qk.out | refine below_set ?_ qn.out) | exact HB.out)) hb); clear qc; clear qd; clear qf; clear HB; have qc := n0_; have qd := n1_; have qf := n2_; have HB := n3_; clear n0_ n1_ n2_ n3_; (try clear hb); (try clear hb2); (try clear hk); (try clear hi)))
   go_meet
   case rel => exact ⟨_, (true), (by first | rfl | (simp; done) | (simp [*]; done)), H', ⟨by first | omega | exact Nat.le_refl _⟩, ⟨by (with_reducible repeat (first | apply blk_drewN | apply blk_drew | apply blk_alloc)); exact qc.out⟩, ⟨by (with_reducible repeat (first | apply blk_drewN | apply blk_drew | apply blk_alloc)); exact qd.out⟩, ⟨by (with_reducible repeat (first | apply blk_drewN | apply blk_drew | apply blk_alloc)); exact qf.out⟩, ⟨by repeat (first | (with_reducible first | exact HB.out | apply below_alloc | apply pw_below_drewN | apply below_drew1 | refine below_set ?_ qh.out | refine below_set ?_ qk.out | refine below_set ?_ qn.out) | exact HB.out)⟩⟩
 case rest =>
  clear HC3; (try clear c1); (try clear p2); (try clear c3); (try clear c8); (try clear c9); (try clear c10); (try clear c13); (try clear c14); (try clear c15); (try clear hcz11_0); (try clear hcz15_0); (try clear hfz11_0); (try clear hfz15_0); obtain ⟨kq, x15_2, rfl, HA, HJ2, qc, qd, qf, HB⟩ := hcut
  cases kq with
  | zero => exact absurd HA.out (by simp [impl_Pick.j0])
  | succ kj2 =>
   have H := HA.out; clear HA; simp only [impl_Pick.j0] at H
   by_cases c17 : x15_2 = true
   ·subst c17
    have H1 : (some ([] : List (S45))) = some r := by rw [if_pos rfl] at H; exact H
    clear H; have H := H1; clear H1; obtain rfl := Option.some.inj H; have hnb18 := qx.out; have hnc18 := qw.out; have hnb19 := NB536_535.out; have hnc19 := NB535_536.out; have hcz20_0 : wc.cell? ⟨ql, 0, none⟩ = some (.slice none 0 0) := (blk_cell qf.out 0).trans rfl; have hfz20_0 := blk_frozen qf.out 0; have hnb21 := qz.out; have hnc21 := qy.out; have hcz22_0 : wc.cell? ⟨qi, 0, none⟩ = some (.slice none 0 0) := (blk_cell qd.out 0).trans rfl; have hfz22_0 := blk_frozen qd.out 0
    go_wp2
    refine bodyPost_ret (results_cell_row rfl _ _ qi 29 #[.slice none 0 0] (0, 0) _ rfl (by (with_reducible repeat (first | apply blk_drewN | apply blk_drew | apply blk_alloc)); refine blk_put (cs := #[.slice none 0 0]) ?_ 0 _ rfl; (with_reducible repeat (first | apply blk_drewN | apply blk_drew | apply blk_alloc)); exact qd.out) Tryd.underlying29 rfl (by kernel_rfl)) rfl ?_; exact ⟨_, by first | rfl | (simp [errW_none, errW_some] <;> rfl) | (simp [*, errW_none, errW_some] <;> rfl), by first | exact Kd.R_nil _ _ _ _ _ | exact Kd.N_nil _ _ _ _ _ | exact Kd.V_nil _ _ _ _ _ | exact Kd.Q_nil _ _ _ _ _ | exact Kd.S_nil _ _ _ _ _, by repeat (first | (with_reducible first | exact HB.out | apply below_alloc | apply pw_below_drewN | apply below_drew1 | refine below_set ?_ qh.out | refine below_set ?_ qk.out | refine below_set ?_ qn.out) | exact HB.out)⟩
   ·replace c17 := Bool.eq_false_iff.mpr c17; subst c17
    have H1 : (impl_Pick.l0 kj2 l1 qa (qa.length : Int) 0 ([] : List (S45))) = some r := by rw [if_neg (show ¬ (false = true) by decide)] at H; exact H
    clear H; have H := H1; clear H1; have H' := Aside0.mk H; clear H; have hnb23 := qy.out; have hnc23 := qz.out; have hnb24 := qw.out; have hnc24 := qx.out; have hcz25_0 : wc.cell? ⟨qg, 0, none⟩ = some (.slice A0_0 qa.length qm) := (blk_cell qc.out 0).trans rfl; have hfz25_0 := blk_frozen qc.out 0
    go_wp2
    go_loopg [20] kj2 (fun kq v20 w' => ∃ (qb : Int) (qp : List (S45)) (u537000 : Value), v20 = .int .i64 qb ∧ Aside0 (impl_Pick.l0 kq l1 qa (qa.length : Int) qb qp = some r) ∧ Aside0 (kq ≤ kj2) ∧ Aside0 (Kd.R k45 45 w' w.heap.size (fun _ => True) u537000 qp) ∧ Aside0 (w'.heap[qg]? = some (.cells #[(.slice A0_0 qa.length qm)] 29 (0, 0))) ∧ Aside0 (w'.heap[qi]? = some (.cells #[(.slice none 0 0)] 29 (0, 0))) ∧ Aside0 (w'.heap[ql]? = some (.cells #[u537000] 29 (0, 0))) ∧ Aside0 (Below w.heap.size w w'))
    case atStart => exact ⟨(0), (([] : List (S45))), (.slice none 0 0), (by first | rfl | (simp; done) | (simp [*]; done)), H', ⟨Nat.le_refl _⟩, ⟨by first | exact Kd.R_nil _ _ _ _ _ | exact Kd.N_nil _ _ _ _ _ | exact Kd.V_nil _ _ _ _ _ | exact Kd.Q_nil _ _ _ _ _ | exact Kd.S_nil _ _ _ _ _⟩, ⟨by (with_reducible repeat (first | apply blk_drewN | apply blk_drew | apply blk_alloc)); exact qc.out⟩, ⟨by (with_reducible repeat (first | apply blk_drewN | apply blk_drew | apply blk_alloc)); exact qd.out⟩, ⟨by (with_reducible repeat (first | apply blk_drewN | apply blk_drew | apply blk_alloc)); exact qf.out⟩, ⟨by repeat (first | (with_reducible first | exact HB.out | apply below_alloc | apply pw_below_drewN | apply below_drew1 | refine below_set ?_ qh.out | refine below_set ?_ qk.out | refine below_set ?_ qn.out) | exact HB.out)⟩⟩
    case round =>
     clear H'; (try clear c1); (try clear c2); (try clear p2); (try clear c3); (try clear c8); (try clear c9); (try clear c10); (try clear c13); (try clear c14); (try clear c15); (try clear c17); (try clear c18); (try clear c19); (try clear c21); (try clear c23); (try clear c24); (try clear hcz11_0); (try clear hcz15_0); (try clear hcz20_0); (try clear hcz22_0); (try clear hcz25_0); (try clear hfz11_0); (try clear hfz15_0); (try clear hfz20_0); (try clear hfz22_0); (try clear hfz25_0); (try clear p2); obtain ⟨qb, qp, u537000, rfl, HA, HK2, qo, qc, qd, qf, HB⟩ := hrel
     cases gk with
     | zero => exact absurd HA.out (by simp [impl_Pick.l0])
     | succ k2 =>
      have H := HA.out; clear HA; simp only [impl_Pick.l0] at H
      by_cases c26 : qb < (qa.length : Int)
      ·rw [if_pos c26] at H
       have c26b0 : decide (qb < (qa.length : Int)) = true := decide_eq_true c26; clear c26
       by_cases c27 : 0 ≤ qb
       ·rw [if_pos c27] at H
        have c27b0 : decide (0 ≤ qb) = true := decide_eq_true c27; clear c27
        by_cases c28 : qb < (qa.length : Int)
        ·rw [if_pos c28] at H
         have c28b0 : decide (qb < (qa.length : Int)) = true := decide_eq_true c28; clear c28; replace H := Option.bind_eq_some_iff.mp H; obtain ⟨t540, A290, H⟩ := H; replace H : (if t540 = true then (if qp.length < 3518437208883 then (impl_Pick.l0 k2 l1 qa (qa.length : Int) (wrap64 (qb + 1)) (qp ++ [(⟨(rd_T45 qa qb).f0, (rd_T45 qa qb).f1, (rd_T45 qa qb).f2⟩ : S45)])) else (none)) else (impl_Pick.l0 k2 l1 qa (qa.length : Int) (wrap64 (qb + 1)) qp)) = some r := H; have A29 := Aside0.mk A290; clear A290
         by_cases c30 : t540 = true
         ·subst c30
          have H1 : (if qp.length < 3518437208883 then (impl_Pick.l0 k2 l1 qa (qa.length : Int) (wrap64 (qb + 1)) (qp ++ [(⟨(rd_T45 qa qb).f0, (rd_T45 qa qb).f1, (rd_T45 qa qb).f2⟩ : S45)])) else (none)) = some r := by rw [if_pos rfl] at H; exact H
          clear H; have H := H1; clear H1
          by_cases c31 : qp.length < 3518437208883
          ·rw [if_pos c31] at H
           have LMc31 := Aside0.mk c31; clear c31
           obtain ⟨y541, hy541⟩ : ∃ y_ : List (S45), y_ = (qp ++ [(⟨(rd_T45 qa qb).f0, (rd_T45 qa qb).f1, (rd_T45 qa qb).f2⟩ : S45)]) := ⟨_, rfl⟩
           replace H : (impl_Pick.l0 k2 l1 qa (qa.length : Int) (wrap64 (qb + 1)) y541) = some r := by first | (rw [hy541]; with_reducible exact H) | (have H2_ := (Option.bind_some _ _).symm.trans H; rw [hy541]; with_reducible exact H2_) | (have H2_ := (Option.bind_some _ _).symm.trans H; with_reducible exact H2_) | with_reducible exact H | (rw [hy541]; exact H) | exact H
           have Ny541 := Aside0.mk hy541; clear hy541; have H' := Aside0.mk H; clear H; have p538 : 0 ≤ (qb : Int) := of_decide_eq_true (by first | (with_reducible assumption) | assumption); have q538 : qb < (qa.length : Int) := of_decide_eq_true (by first | (with_reducible assumption) | assumption); obtain ⟨ad538, e538, hx538_0, hx538_1, hx538_2⟩ := at_T45 HR0_0.out qb p538 q538
           cases e538
           replace hx538_0 := (HB.out.cell (World.block_lt_of_cell? w _ hx538_0)).trans hx538_0; replace hx538_1 := (HB.out.cell (World.block_lt_of_cell? w _ hx538_1)).trans hx538_1; replace hx538_2 := (HB.out.cell (World.block_lt_of_cell? w _ hx538_2)).trans hx538_2; replace p538 := eq_true p538; replace q538 := eq_true q538
           go_wp2_with (first | ((with_reducible refine gate_dst (N := 7) rfl ?_); (try (refine gate_guard (by rfl) ?_; dsimp only)); refine box_event ?hg (N := 7) ?hd (cs := #[.string (⟨#[]⟩ : ByteArray), .string (⟨#[]⟩ : ByteArray), .bool false]) (t := 45) ?hr ?_; (case hd => rfl); (case hg => rfl); (case hr => first | (go_simp; done) | (go_simp; rfl)); intro qe hg w32 hbox hb; have n0_ := Aside0.mk (Kd.R_below (Kd.R_elderB (by (with_reducible repeat (first | apply Kd.R_alloc | apply Kd.R_drewN | apply Kd.R_drew)); exact qo.out) qe (Nat.le_of_eq hg.symm)) hb); have n1_ := Aside0.mk (blk_below (g := qg) (o := .cells #[.slice (some ad538) qa.length qm] 29 (0, 0)) (by (with_reducible repeat (first | apply blk_drewN | apply blk_drew | apply blk_alloc)); exact qc.out) hb); have n2_ := Aside0.mk (blk_below (g := qi) (o := .cells #[.slice none 0 0] 29 (0, 0)) (by (with_reducible repeat (first | apply blk_drewN | apply blk_drew | apply blk_alloc)); exact qd.out) hb); have n3_ := Aside0.mk (blk_below (g := ql) (o := .cells #[u537000] 29 (0, 0)) (by (with_reducible repeat (first | apply blk_drewN | apply blk_drew | apply blk_alloc)); exact qf.out) hb); have n4_ := Aside0.mk (below_step (by repeat (first | (with_reducible first | exact HB.out | apply below_alloc | apply pw_below_drewN | apply below_drew1 | refine below_set ?_ qh.out | refine below_set ?_ qk.out | refine below_set ?_ qn.out) | exact HB.out)) hb); have n5_ := Aside0.mk (hbox); have n6_ := Aside0.mk ((by rw [hg]; exact (below_size (by repeat (first | (with_reducible first | exact HB.out | apply below_alloc | apply pw_below_drewN | apply below_drew1 | refine below_set ?_ qh.out | refine below_set ?_ qk.out | refine below_set ?_ qn.out) | exact HB.out))) : w.heap.size ≤ qe)); have n7_ := Aside0.mk ((by rw [hg]; exact (below_size (by repeat (first | (with_reducible first | exact HB.out | apply below_alloc | apply pw_below_drewN | apply below_drew1 | refine below_set ?_ qh.out | refine below_set ?_ qk.out | refine below_set ?_ qn.out) | exact HB.out))) : w.heap.size ≤ qe)); have n8_ := Aside0.mk ((by rw [hg]; exact Nat.ne_of_lt (blk_lt (g := qg) (o := .cells #[.slice (some ad538) qa.length qm] 29 (0, 0)) (by (with_reducible repeat (first | apply blk_drewN | apply blk_drew | apply blk_alloc)); exact qc.out)) : qg ≠ qe)); have n9_ := Aside0.mk ((by rw [hg]; exact Nat.ne_of_gt (blk_lt (g := qg) (o := .cells #[.slice (some ad538) qa.length qm] 29 (0, 0)) (by (with_reducible repeat (first | apply blk_drewN | apply blk_drew | apply blk_alloc)); exact qc.out)) : qe ≠ qg)); have n10_ := Aside0.mk ((by rw [hg]; exact Nat.ne_of_lt (blk_lt (g := qi) (o := .cells #[.slice none 0 0] 29 (0, 0)) (by (with_reducible repeat (first | apply blk_drewN | apply blk_drew | apply blk_alloc)); exact qd.out)) : qi ≠ qe)); have n11_ := Aside0.mk ((by rw [hg]; exact Nat.ne_of_gt (blk_lt (g := qi) (o := .cells #[.slice none 0 0] 29 (0, 0)) (by (with_reducible repeat (first | apply blk_drewN | apply blk_drew | apply blk_alloc)); exact qd.out)) : qe ≠ qi)); have n12_ := Aside0.mk ((by rw [hg]; exact Nat.ne_of_lt (blk_lt (g := ql) (o := .cells #[u537000] 29 (0, 0)) (by (with_reducible repeat (first | apply blk_drewN | apply blk_drew | apply blk_alloc)); exact qf.out)) : ql ≠ qe)); have n13_ := Aside0.mk ((by rw [hg]; exact Nat.ne_of_gt (blk_lt (g := ql) (o := .cells #[u537000] 29 (0, 0)) (by (with_reducible repeat (first | apply blk_drewN | apply blk_drew | apply blk_alloc)); exact qf.out)) : qe ≠ ql)); clear qo; clear qc; clear qd; clear qf; clear HB; have qo := n0_; have qc := n1_; have qd := n2_; have qf := n3_; have HB := n4_; have qj := n5_; have GW539 := n6_; have qr := n7_; have qt := n8_; have NB539_534 := n9_; have qu := n10_; have NB539_535 := n11_; have qv := n12_; have NB539_536 := n13_; clear n0_ n1_ n2_ n3_ n4_ n5_ n6_ n7_ n8_ n9_ n10_ n11_ n12_ n13_; clear hb hbox hg; have hnb33 := NB539_534.out; have hnc33 := qt.out; have hnb34 := NB539_535.out; have hnc34 := qu.out; have hnb35 := NB539_536.out; have hnc35 := qv.out; have hcz36_0 : w32.cell? ⟨qe, 0, none⟩ = some (.string (⟨#[]⟩ : ByteArray)) := (blk_cell qj.out 0).trans rfl; have hcz36_1 : w32.cell? ⟨qe, 1, none⟩ = some (.string (⟨#[]⟩ : ByteArray)) := (blk_cell qj.out 1).trans rfl; have hcz36_2 : w32.cell? ⟨qe, 2, none⟩ = some (.bool false) := (blk_cell qj.out 2).trans rfl; have hfz36_0 := blk_frozen qj.out 0; have hfz36_1 := blk_frozen qj.out 1; have hfz36_2 := blk_frozen qj.out 2) | ((with_reducible refine gate_callee (f := 68) rfl ?_); refine goesL_ (some 26) rfl rfl Tryd.func68 (by kernel_rfl) rfl #[.slice A1 l1.length c1, .func (.func 69) #[] #[.pointer (some ⟨qe, 0, none⟩)]] rfl (by (try simp only [List.map_toArray, List.map_cons, List.map_nil]); first | done | rfl | (simp only [List.length_drop, List.length_take]; rfl)) ?_; (with_reducible refine (slices_ContainsFunc_string_string.calls k2 _ _ l1 ((rd_T45 qa qb).f0) ((rd_T45 qa qb).f1) ((rd_T45 qa qb).f2) true qe _ ?sideG ?side1 ?side2 ?sideB A29.out).mono ?_); (case sideB => exact (by (with_reducible repeat (first | apply blk_drewN | apply blk_drew | apply blk_alloc)); refine blk_put (cs := #[.string ((rd_T45 qa qb).f0), .string ((rd_T45 qa qb).f1), .bool false]) ?_ 2 _ rfl; (with_reducible repeat (first | apply blk_drewN | apply blk_drew | apply blk_alloc)); refine blk_put (cs := #[.string ((rd_T45 qa qb).f0), .string (⟨#[]⟩ : ByteArray), .bool false]) ?_ 1 _ rfl; (with_reducible repeat (first | apply blk_drewN | apply blk_drew | apply blk_alloc)); refine blk_put (cs := #[.string (⟨#[]⟩ : ByteArray), .string (⟨#[]⟩ : ByteArray), .bool false]) ?_ 0 _ rfl; (with_reducible repeat (first | apply blk_drewN | apply blk_drew | apply blk_alloc)); exact qj.out)); (case sideG => (first | exact HG.out | exact GOK.below HG.out (by repeat (first | (with_reducible first | exact HB.out | apply below_alloc | apply pw_below_drewN | apply below_drew1 | refine below_set ?_ qh.out | refine below_set ?_ qk.out | refine below_set ?_ qn.out | refine below_set ?_ qr.out) | exact HB.out | exact Below.refl _ _)))); (case side1 => exact Kd.C_below HR1.out (by repeat (first | (with_reducible first | exact HB.out | apply below_alloc | apply pw_below_drewN | apply below_drew1 | refine below_set ?_ qh.out | refine below_set ?_ qk.out | refine below_set ?_ qn.out | refine below_set ?_ qr.out) | exact HB.out))); (case side2 => exact HC1.out); rintro e w37 ⟨rfl, hb⟩; refine ⟨_, rfl, ?_⟩; have n0_ := Aside0.mk (Kd.R_below (by (with_reducible repeat (first | apply Kd.R_alloc | apply Kd.R_drewN | apply Kd.R_drew)); exact (Kd.R_mono (Kd.R_far (p := ⟨qe, 2, none⟩) (Kd.R_far (p := ⟨qe, 1, none⟩) (Kd.R_far (p := ⟨qe, 0, none⟩) (Kd.R_mono qo.out (fun k_ hk => (⟨hk, hk.2⟩ : _ ∧ k_ ≠ qe))) (fun _ hk => hk.2) (.string ((rd_T45 qa qb).f0))) (fun _ hk => hk.2) (.string ((rd_T45 qa qb).f1))) (fun _ hk => hk.2) (.bool ((rd_T45 qa qb).f2))) (fun _ h_ => h_.1))) hb); have n1_ := Aside0.mk (blk_below (g := qg) (o := .cells #[.slice (some ad538) qa.length qm] 29 (0, 0)) (by (with_reducible repeat (first | apply blk_drewN | apply blk_drew | apply blk_alloc)); refine blk_far ?_ qt.out _; (with_reducible repeat (first | apply blk_drewN | apply blk_drew | apply blk_alloc)); refine blk_far ?_ qt.out _; (with_reducible repeat (first | apply blk_drewN | apply blk_drew | apply blk_alloc)); refine blk_far ?_ qt.out _; (with_reducible repeat (first | apply blk_drewN | apply blk_drew | apply blk_alloc)); exact qc.out) hb); have n2_ := Aside0.mk (blk_below (g := qi) (o := .cells #[.slice none 0 0] 29 (0, 0)) (by (with_reducible repeat (first | apply blk_drewN | apply blk_drew | apply blk_alloc)); refine blk_far ?_ qu.out _; (with_reducible repeat (first | apply blk_drewN | apply blk_drew | apply blk_alloc)); refine blk_far ?_ qu.out _; (with_reducible repeat (first | apply blk_drewN | apply blk_drew | apply blk_alloc)); refine blk_far ?_ qu.out _; (with_reducible repeat (first | apply blk_drewN | apply blk_drew | apply blk_alloc)); exact qd.out) hb); have n3_ := Aside0.mk (blk_below (g := ql) (o := .cells #[u537000] 29 (0, 0)) (by (with_reducible repeat (first | apply blk_drewN | apply blk_drew | apply blk_alloc)); refine blk_far ?_ qv.out _; (with_reducible repeat (first | apply blk_drewN | apply blk_drew | apply blk_alloc)); refine blk_far ?_ qv.out _; (with_reducible repeat (first | apply blk_drewN | apply blk_drew | apply blk_alloc)); refine blk_far ?_ qv.out _; (with_reducible repeat (first | apply blk_drewN | apply blk_drew | apply blk_alloc)); exact qf.out) hb); have n4_ := Aside0.mk (blk_below (g := qe) (o := .cells #[.string ((rd_T45 qa qb).f0), .string ((rd_T45 qa qb).f1), .bool ((rd_T45 qa qb).f2)] 45 (0, 0)) (by (with_reducible repeat (first | apply blk_drewN | apply blk_drew | apply blk_alloc)); refine blk_put (cs := #[.string ((rd_T45 qa qb).f0), .string ((rd_T45 qa qb).f1), .bool false]) ?_ 2 _ rfl; (with_reducible repeat (first | apply blk_drewN | apply blk_drew | apply blk_alloc)); refine blk_put (cs := #[.string ((rd_T45 qa qb).f0), .string (⟨#[]⟩ : ByteArray), .bool false]) ?_ 1 _ rfl; (with_reducible repeat (first | apply blk_drewN | apply blk_drew | apply blk_alloc)); refine blk_put (cs := #[.string (⟨#[]⟩ : ByteArray), .string (⟨#[]⟩ : ByteArray), .bool false]) ?_ 0 _ rfl; (with_reducible repeat (first | apply blk_drewN | apply blk_drew | apply blk_alloc)); exact qj.out) hb); have n5_ := Aside0.mk (below_step (by repeat (first | (with_reducible first | exact HB.out | apply below_alloc | apply pw_below_drewN | apply below_drew1 | refine below_set ?_ qh.out | refine below_set ?_ qk.out | refine below_set ?_ qn.out | refine below_set ?_ qr.out) | exact HB.out)) hb); clear qo; clear qc; clear qd; clear qf; clear qj; clear HB; have qo := n0_; have qc := n1_; have qd := n2_; have qf := n3_; have qj := n4_; have HB := n5_; clear n0_ n1_ n2_ n3_ n4_ n5_; (try clear hb); (try clear hb2); (try clear hk); (try clear hi); have hnb38 := qx.out; have hnc38 := qw.out; have hnb39 := NB536_535.out; have hnc39 := NB535_536.out; have hcz40_0 : w37.cell? ⟨ql, 0, none⟩ = some (u537000) := (blk_cell qf.out 0).trans rfl; have hfz40_0 := blk_frozen qf.out 0; have hcz41_0 : w37.cell? ⟨qe, 0, none⟩ = some (.string ((rd_T45 qa qb).f0)) := (blk_cell qj.out 0).trans rfl; have hcz41_1 : w37.cell? ⟨qe, 1, none⟩ = some (.string ((rd_T45 qa qb).f1)) := (blk_cell qj.out 1).trans rfl; have hcz41_2 : w37.cell? ⟨qe, 2, none⟩ = some (.bool ((rd_T45 qa qb).f2)) := (blk_cell qj.out 2).trans rfl; have hfz41_0 := blk_frozen qj.out 0; have hfz41_1 := blk_frozen qj.out 1; have hfz41_2 := blk_frozen qj.out 2) | ((with_reducible refine gate_builtin (b := .append) (xs := #[.tmp 28, .tmp 30]) rfl ?_); (try (refine gate_guard (by rfl) ?_; dsimp only)); at_builtin; refine Kd.R_append k45 (w0 := w) w.heap.size rfl (.tmp 28) (.tmp 30) 27 45 (.agg #[(.string ⟨#[]⟩), (.string ⟨#[]⟩), (.bool false)]) 40 rfl Tryd.underlying27 info45 rfl (by decide) (by omega) u537000 qp (⟨(rd_T45 qa qb).f0, (rd_T45 qa qb).f1, (rd_T45 qa qb).f2⟩ : S45) [.string ((rd_T45 qa qb).f0), .string ((rd_T45 qa qb).f1), .bool ((rd_T45 qa qb).f2)] (fun k_ => k_ ≠ qe) (fun _ => False) rfl rfl ?aP (fun _ hk => hk.elim) ?aF ?aO ?aB ?aS ?aL ?_; (case aP => exact k45_mkM _ _ _ (⟨(rd_T45 qa qb).f0, (rd_T45 qa qb).f1, (rd_T45 qa qb).f2⟩ : S45)); (case aB => exact (by repeat (first | (with_reducible first | exact HB.out | apply below_alloc | apply pw_below_drewN | apply below_drew1 | refine below_set ?_ qh.out | refine below_set ?_ qk.out | refine below_set ?_ qn.out | refine below_set ?_ qr.out) | exact HB.out))); (case aF => exact (fun k_ hk => Kd.freshB (g := qe) (o := .cells #[.string ((rd_T45 qa qb).f0), .string ((rd_T45 qa qb).f1), .bool ((rd_T45 qa qb).f2)] 45 (0, 0)) (by (with_reducible repeat (first | apply blk_drewN | apply blk_drew | apply blk_alloc)); exact qj.out) k_ hk)); (case aO => exact (by (with_reducible repeat (first | apply Kd.R_alloc | apply Kd.R_drewN | apply Kd.R_drew)); exact Kd.R_mono qo.out (fun _ hk => hk.2))); (case aS => exact (below_size (by repeat (first | (with_reducible first | exact HB.out | apply below_alloc | apply pw_below_drewN | apply below_drew1 | refine below_set ?_ qh.out | refine below_set ?_ qk.out | refine below_set ?_ qn.out | refine below_set ?_ qr.out) | exact HB.out)))); (case aL => have := LMc31.out; omega); intro v542 w42 ho hb hg hat; rw [← Ny541.out] at ho; have n0_ := Aside0.mk (blk_grown (g := qg) (o := .cells #[.slice (some ad538) qa.length qm] 29 (0, 0)) (by (with_reducible repeat (first | apply blk_drewN | apply blk_drew | apply blk_alloc)); exact qc.out) hg (Kd.R_ne qo.out qc.out (by decide))); have n1_ := Aside0.mk (blk_grown (g := qi) (o := .cells #[.slice none 0 0] 29 (0, 0)) (by (with_reducible repeat (first | apply blk_drewN | apply blk_drew | apply blk_alloc)); exact qd.out) hg (Kd.R_ne qo.out qd.out (by decide))); have n2_ := Aside0.mk (blk_grown (g := ql) (o := .cells #[u537000] 29 (0, 0)) (by (with_reducible repeat (first | apply blk_drewN | apply blk_drew | apply blk_alloc)); exact qf.out) hg (Kd.R_ne qo.out qf.out (by decide))); have n3_ := Aside0.mk (blk_grown (g := qe) (o := .cells #[.string ((rd_T45 qa qb).f0), .string ((rd_T45 qa qb).f1), .bool ((rd_T45 qa qb).f2)] 45 (0, 0)) (by (with_reducible repeat (first | apply blk_drewN | apply blk_drew | apply blk_alloc)); exact qj.out) hg (Kd.R_away qo.out (fun _ hk => hk.2))); have n4_ := Aside0.mk (hb); have n5_ := Aside0.mk (ho); clear qc; clear qd; clear qf; clear qj; clear HB; clear qo; have qc := n0_; have qd := n1_; have qf := n2_; have qj := n3_; have HB := n4_; have HO543 := n5_; clear n0_ n1_ n2_ n3_ n4_ n5_; clear ho hb hg hat; obtain ⟨Ao43, co43, eo43⟩ := Kd.R_slice HO543.out; subst eo43; have hcz44_0 : w42.cell? ⟨ql, 0, none⟩ = some (u537000) := (blk_cell qf.out 0).trans rfl; have hfz44_0 := blk_frozen qf.out 0))
           go_roundg k2
           case measure => have := HJ2.out; have := HK2.out; omega
           case rel => exact ⟨(wrap64 (qb + 1)), (y541), (.slice Ao43 y541.length co43), (by first | rfl | (simp; done) | (simp [*]; done)), H', ⟨by have := HJ2.out; have := HK2.out; omega⟩, ⟨by (with_reducible repeat (first | apply Kd.R_alloc | apply Kd.R_drewN | apply Kd.R_drew)); exact Kd.R_mono (Kd.R_far (p := ⟨ql, 0, none⟩) (Kd.R_types HO543.out qf.out (by decide)) (fun _ hk => hk.2) (.slice Ao43 y541.length co43)) (fun _ hk => trivial)⟩, ⟨by (with_reducible repeat (first | apply blk_drewN | apply blk_drew | apply blk_alloc)); refine blk_far ?_ qw.out _; (with_reducible repeat (first | apply blk_drewN | apply blk_drew | apply blk_alloc)); exact qc.out⟩, ⟨by (with_reducible repeat (first | apply blk_drewN | apply blk_drew | apply blk_alloc)); refine blk_far ?_ NB535_536.out _; (with_reducible repeat (first | apply blk_drewN | apply blk_drew | apply blk_alloc)); exact qd.out⟩, ⟨by (with_reducible repeat (first | apply blk_drewN | apply blk_drew | apply blk_alloc)); refine blk_put (cs := #[u537000]) ?_ 0 _ rfl; (with_reducible repeat (first | apply blk_drewN | apply blk_drew | apply blk_alloc)); exact qf.out⟩, ⟨by repeat (first | (with_reducible first | exact HB.out | apply below_alloc | apply pw_below_drewN | apply below_drew1 | refine below_set ?_ qh.out | refine below_set ?_ qk.out | refine below_set ?_ qn.out | refine below_set ?_ qr.out) | exact HB.out)⟩⟩
          ·rw [if_neg c31] at H
           exact absurd H (by simp)
         ·replace c30 := Bool.eq_false_iff.mpr c30; subst c30
          have H1 : (impl_Pick.l0 k2 l1 qa (qa.length : Int) (wrap64 (qb + 1)) qp) = some r := by rw [if_neg (show ¬ (false = true) by decide)] at H; exact H
          clear H; have H := H1; clear H1; have H' := Aside0.mk H; clear H; have p538 : 0 ≤ (qb : Int) := of_decide_eq_true (by first | (with_reducible assumption) | assumption); have q538 : qb < (qa.length : Int) := of_decide_eq_true (by first | (with_reducible assumption) | assumption); obtain ⟨ad538, e538, hx538_0, hx538_1, hx538_2⟩ := at_T45 HR0_0.out qb p538 q538
          cases e538
          replace hx538_0 := (HB.out.cell (World.block_lt_of_cell? w _ hx538_0)).trans hx538_0; replace hx538_1 := (HB.out.cell (World.block_lt_of_cell? w _ hx538_1)).trans hx538_1; replace hx538_2 := (HB.out.cell (World.block_lt_of_cell? w _ hx538_2)).trans hx538_2; replace p538 := eq_true p538; replace q538 := eq_true q538
          go_wp2_with (first | ((with_reducible refine gate_dst (N := 7) rfl ?_); (try (refine gate_guard (by rfl) ?_; dsimp only)); refine box_event ?hg (N := 7) ?hd (cs := #[.string (⟨#[]⟩ : ByteArray), .string (⟨#[]⟩ : ByteArray), .bool false]) (t := 45) ?hr ?_; (case hd => rfl); (case hg => rfl); (case hr => first | (go_simp; done) | (go_simp; rfl)); intro qe hg w45 hbox hb; have n0_ := Aside0.mk (Kd.R_below (Kd.R_elderB (by (with_reducible repeat (first | apply Kd.R_alloc | apply Kd.R_drewN | apply Kd.R_drew)); exact qo.out) qe (Nat.le_of_eq hg.symm)) hb); have n1_ := Aside0.mk (blk_below (g := qg) (o := .cells #[.slice (some ad538) qa.length qm] 29 (0, 0)) (by (with_reducible repeat (first | apply blk_drewN | apply blk_drew | apply blk_alloc)); exact qc.out) hb); have n2_ := Aside0.mk (blk_below (g := qi) (o := .cells #[.slice none 0 0] 29 (0, 0)) (by (with_reducible repeat (first | apply blk_drewN | apply blk_drew | apply blk_alloc)); exact qd.out) hb); have n3_ := Aside0.mk (blk_below (g := ql) (o := .cells #[u537000] 29 (0, 0)) (by (with_reducible repeat (first | apply blk_drewN | apply blk_drew | apply blk_alloc)); exact qf.out) hb); have n4_ := Aside0.mk (below_step (by repeat (first | (with_reducible first | exact HB.out | apply below_alloc | apply pw_below_drewN | apply below_drew1 | refine below_set ?_ qh.out | refine below_set ?_ qk.out | refine below_set ?_ qn.out) | exact HB.out)) hb); have n5_ := Aside0.mk (hbox); have n6_ := Aside0.mk ((by rw [hg]; exact (below_size (by repeat (first | (with_reducible first | exact HB.out | apply below_alloc | apply pw_below_drewN | apply below_drew1 | refine below_set ?_ qh.out | refine below_set ?_ qk.out | refine below_set ?_ qn.out) | exact HB.out))) : w.heap.size ≤ qe)); have n7_ := Aside0.mk ((by rw [hg]; exact (below_size (by repeat (first | (with_reducible first | exact HB.out | apply below_alloc | apply pw_below_drewN | apply below_drew1 | refine below_set ?_ qh.out | refine below_set ?_ qk.out | refine below_set ?_ qn.out) | exact HB.out))) : w.heap.size ≤ qe)); have n8_ := Aside0.mk ((by rw [hg]; exact Nat.ne_of_lt (blk_lt (g := qg) (o := .cells #[.slice (some ad538) qa.length qm] 29 (0, 0)) (by (with_reducible repeat (first | apply blk_drewN | apply blk_drew | apply blk_alloc)); exact qc.out)) : qg ≠ qe)); have n9_ := Aside0.mk ((by rw [hg]; exact Nat.ne_of_gt (blk_lt (g := qg) (o := .cells #[.slice (some ad538) qa.length qm] 29 (0, 0)) (by (with_reducible repeat (first | apply blk_drewN | apply blk_drew | apply blk_alloc)); exact qc.out)) : qe ≠ qg)); have n10_ := Aside0.mk ((by rw [hg]; exact Nat.ne_of_lt (blk_lt (g := qi) (o := .cells #[.slice none 0 0] 29 (0, 0)) (by (with_reducible repeat (first | apply blk_drewN | apply blk_drew | apply blk_alloc)); exact qd.out)) : qi ≠ qe)); have n11_ := Aside0.mk ((by rw [hg]; exact Nat.ne_of_gt (blk_lt (g := qi) (o := .cells #[.slice none 0 0] 29 (0, 0)) (by (with_reducible repeat (first | apply blk_drewN | apply blk_drew | apply blk_alloc)); exact qd.out)) : qe ≠ qi)); have n12_ := Aside0.mk ((by rw [hg]; exact Nat.ne_of_lt (blk_lt (g := ql) (o := .cells #[u537000] 29 (0, 0)) (by (with_reducible repeat (first | apply blk_drewN | apply blk_drew | apply blk_alloc)); exact qf.out)) : ql ≠ qe)); have n13_ := Aside0.mk ((by rw [hg]; exact Nat.ne_of_gt (blk_lt (g := ql) (o := .cells #[u537000] 29 (0, 0)) (by (with_reducible repeat (first | apply blk_drewN | apply blk_drew | apply blk_alloc)); exact qf.out)) : qe ≠ ql)); clear qo; clear qc; clear qd; clear qf; clear HB; have qo := n0_; have qc := n1_; have qd := n2_; have qf := n3_; have HB := n4_; have qj := n5_; have GW539 := n6_; have qr := n7_; have qt := n8_; have NB539_534 := n9_; have qu := n10_; have NB539_535 := n11_; have qv := n12_; have NB539_536 := n13_; clear n0_ n1_ n2_ n3_ n4_ n5_ n6_ n7_ n8_ n9_ n10_ n11_ n12_ n13_; clear hb hbox hg; have hnb46 := NB539_534.out; have hnc46 := qt.out; have hnb47 := NB539_535.out; have hnc47 := qu.out; have hnb48 := NB539_536.out; have hnc48 := qv.out; have hcz49_0 : w45.cell? ⟨qe, 0, none⟩ = some (.string (⟨#[]⟩ : ByteArray)) := (blk_cell qj.out 0).trans rfl; have hcz49_1 : w45.cell? ⟨qe, 1, none⟩ = some (.string (⟨#[]⟩ : ByteArray)) := (blk_cell qj.out 1).trans rfl; have hcz49_2 : w45.cell? ⟨qe, 2, none⟩ = some (.bool false) := (blk_cell qj.out 2).trans rfl; have hfz49_0 := blk_frozen qj.out 0; have hfz49_1 := blk_frozen qj.out 1; have hfz49_2 := blk_frozen qj.out 2) | ((with_reducible refine gate_callee (f := 68) rfl ?_); refine goesL_ (some 26) rfl rfl Tryd.func68 (by kernel_rfl) rfl #[.slice A1 l1.length c1, .func (.func 69) #[] #[.pointer (some ⟨qe, 0, none⟩)]] rfl (by (try simp only [List.map_toArray, List.map_cons, List.map_nil]); first | done | rfl | (simp only [List.length_drop, List.length_take]; rfl)) ?_; (with_reducible refine (slices_ContainsFunc_string_string.calls k2 _ _ l1 ((rd_T45 qa qb).f0) ((rd_T45 qa qb).f1) ((rd_T45 qa qb).f2) false qe _ ?sideG ?side1 ?side2 ?sideB A29.out).mono ?_); (case sideB => exact (by (with_reducible repeat (first | apply blk_drewN | apply blk_drew | apply blk_alloc)); refine blk_put (cs := #[.string ((rd_T45 qa qb).f0), .string ((rd_T45 qa qb).f1), .bool false]) ?_ 2 _ rfl; (with_reducible repeat (first | apply blk_drewN | apply blk_drew | apply blk_alloc)); refine blk_put (cs := #[.string ((rd_T45 qa qb).f0), .string (⟨#[]⟩ : ByteArray), .bool false]) ?_ 1 _ rfl; (with_reducible repeat (first | apply blk_drewN | apply blk_drew | apply blk_alloc)); refine blk_put (cs := #[.string (⟨#[]⟩ : ByteArray), .string (⟨#[]⟩ : ByteArray), .bool false]) ?_ 0 _ rfl; (with_reducible repeat (first | apply blk_drewN | apply blk_drew | apply blk_alloc)); exact qj.out)); (case sideG => (first | exact HG.out | exact GOK.below HG.out (by repeat (first | (with_reducible first | exact HB.out | apply below_alloc | apply pw_below_drewN | apply below_drew1 | refine below_set ?_ qh.out | refine below_set ?_ qk.out | refine below_set ?_ qn.out | refine below_set ?_ qr.out) | exact HB.out | exact Below.refl _ _)))); (case side1 => exact Kd.C_below HR1.out (by repeat (first | (with_reducible first | exact HB.out | apply below_alloc | apply pw_below_drewN | apply below_drew1 | refine below_set ?_ qh.out | refine below_set ?_ qk.out | refine below_set ?_ qn.out | refine below_set ?_ qr.out) | exact HB.out))); (case side2 => exact HC1.out); rintro e w50 ⟨rfl, hb⟩; refine ⟨_, rfl, ?_⟩; have n0_ := Aside0.mk (Kd.R_below (by (with_reducible repeat (first | apply Kd.R_alloc | apply Kd.R_drewN | apply Kd.R_drew)); exact (Kd.R_mono (Kd.R_far (p := ⟨qe, 2, none⟩) (Kd.R_far (p := ⟨qe, 1, none⟩) (Kd.R_far (p := ⟨qe, 0, none⟩) (Kd.R_mono qo.out (fun k_ hk => (⟨hk, hk.2⟩ : _ ∧ k_ ≠ qe))) (fun _ hk => hk.2) (.string ((rd_T45 qa qb).f0))) (fun _ hk => hk.2) (.string ((rd_T45 qa qb).f1))) (fun _ hk => hk.2) (.bool ((rd_T45 qa qb).f2))) (fun _ h_ => h_.1))) hb); have n1_ := Aside0.mk (blk_below (g := qg) (o := .cells #[.slice (some ad538) qa.length qm] 29 (0, 0)) (by (with_reducible repeat (first | apply blk_drewN | apply blk_drew | apply blk_alloc)); refine blk_far ?_ qt.out _; (with_reducible repeat (first | apply blk_drewN | apply blk_drew | apply blk_alloc)); refine blk_far ?_ qt.out _; (with_reducible repeat (first | apply blk_drewN | apply blk_drew | apply blk_alloc)); refine blk_far ?_ qt.out _; (with_reducible repeat (first | apply blk_drewN | apply blk_drew | apply blk_alloc)); exact qc.out) hb); have n2_ := Aside0.mk (blk_below (g := qi) (o := .cells #[.slice none 0 0] 29 (0, 0)) (by (with_reducible repeat (first | apply blk_drewN | apply blk_drew | apply blk_alloc)); refine blk_far ?_ qu.out _; (with_reducible repeat (first | apply blk_drewN | apply blk_drew | apply blk_alloc)); refine blk_far ?_ qu.out _; (with_reducible repeat (first | apply blk_drewN | apply blk_drew | apply blk_alloc)); refine blk_far ?_ qu.out _; (with_reducible repeat (first | apply blk_drewN | apply blk_drew | apply blk_alloc)); exact qd.out) hb); have n3_ := Aside0.mk (blk_below (g := ql) (o := .cells #[u537000] 29 (0, 0)) (by (with_reducible repeat (first | apply blk_drewN | apply blk_drew | apply blk_alloc)); refine blk_far ?_ qv.out _; (with_reducible repeat (first | apply blk_drewN | apply blk_drew | apply blk_alloc)); refine blk_far ?_ qv.out _; (with_reducible repeat (first | apply blk_drewN | apply blk_drew | apply blk_alloc)); refine blk_far ?_ qv.out _; (with_reducible repeat (first | apply blk_drewN | apply blk_drew | apply blk_alloc)); exact qf.out) hb); have n4_ := Aside0.mk (blk_below (g := qe) (o := .cells #[.string ((rd_T45 qa qb).f0), .string ((rd_T45 qa qb).f1), .bool ((rd_T45 qa qb).f2)] 45 (0, 0)) (by (with_reducible repeat (first | apply blk_drewN | apply blk_drew | apply blk_alloc)); refine blk_put (cs := #[.string ((rd_T45 qa qb).f0), .string ((rd_T45 qa qb).f1), .bool false]) ?_ 2 _ rfl; (with_reducible repeat (first | apply blk_drewN | apply blk_drew | apply blk_alloc)); refine blk_put (cs := #[.string ((rd_T45 qa qb).f0), .string (⟨#[]⟩ : ByteArray), .bool false]) ?_ 1 _ rfl; (with_reducible repeat (first | apply blk_drewN | apply blk_drew | apply blk_alloc)); refine blk_put (cs := #[.string (⟨#[]⟩ : ByteArray), .string (⟨#[]⟩ : ByteArray), .bool false]) ?_ 0 _ rfl; (with_reducible repeat (first | apply blk_drewN | apply blk_drew | apply blk_alloc)); exact qj.out) hb); have n5_ := Aside0.mk (below_step (by repeat (first | (with_reducible first | exact HB.out | apply below_alloc | apply pw_below_drewN | apply below_drew1 | refine below_set ?_ qh.out | refine below_set ?_ qk.out | refine below_set ?_ qn.out | refine below_set ?_ qr.out) | exact HB.out)) hb); clear qo; clear qc; clear qd; clear qf; clear qj; clear HB; have qo := n0_; have qc := n1_; have qd := n2_; have qf := n3_; have qj := n4_; have HB := n5_; clear n0_ n1_ n2_ n3_ n4_ n5_; (try clear hb); (try clear hb2); (try clear hk); (try clear hi)))
          go_roundg k2
          case measure => have := HJ2.out; have := HK2.out; omega
          case rel => exact ⟨(wrap64 (qb + 1)), (qp), (u537000), (by first | rfl | (simp; done) | (simp [*]; done)), H', ⟨by have := HJ2.out; have := HK2.out; omega⟩, ⟨by (with_reducible repeat (first | apply Kd.R_alloc | apply Kd.R_drewN | apply Kd.R_drew)); exact Kd.R_mono qo.out (fun _ hk => trivial)⟩, ⟨by (with_reducible repeat (first | apply blk_drewN | apply blk_drew | apply blk_alloc)); exact qc.out⟩, ⟨by (with_reducible repeat (first | apply blk_drewN | apply blk_drew | apply blk_alloc)); exact qd.out⟩, ⟨by (with_reducible repeat (first | apply blk_drewN | apply blk_drew | apply blk_alloc)); exact qf.out⟩, ⟨by repeat (first | (with_reducible first | exact HB.out | apply below_alloc | apply pw_below_drewN | apply below_drew1 | refine below_set ?_ qh.out | refine below_set ?_ qk.out | refine below_set ?_ qn.out | refine below_set ?_ qr.out) | exact HB.out)⟩⟩
        ·rw [if_neg c28] at H
         exact absurd H (by simp)
       ·rw [if_neg c27] at H
        exact absurd H (by simp)
      ·rw [if_neg c26] at H
       have c26b0 : decide (qb < (qa.length : Int)) = false := decide_eq_false c26; clear c26; obtain rfl := Option.some.inj H; have hnb51 := qx.out; have hnc51 := qw.out; have hnb52 := NB536_535.out; have hnc52 := NB535_536.out; have hcz53_0 : wr.cell? ⟨ql, 0, none⟩ = some (u537000) := (blk_cell qf.out 0).trans rfl; have hfz53_0 := blk_frozen qf.out 0; obtain ⟨Ao54, co54, eo54⟩ := Kd.R_slice qo.out; subst eo54; have hnb55 := qz.out; have hnc55 := qy.out; have hcz56_0 : wr.cell? ⟨qi, 0, none⟩ = some (.slice none 0 0) := (blk_cell qd.out 0).trans rfl; have hfz56_0 := blk_frozen qd.out 0
       go_wp2
       refine bodyPost_ret (results_cell_row rfl _ _ qi 29 #[.slice Ao54 qp.length co54] (0, 0) _ rfl (by (with_reducible repeat (first | apply blk_drewN | apply blk_drew | apply blk_alloc)); refine blk_put (cs := #[.slice none 0 0]) ?_ 0 _ rfl; (with_reducible repeat (first | apply blk_drewN | apply blk_drew | apply blk_alloc)); exact qd.out) Tryd.underlying29 rfl (by kernel_rfl)) rfl ?_; exact ⟨_, by first | rfl | (simp [errW_none, errW_some] <;> rfl) | (simp [*, errW_none, errW_some] <;> rfl), by (with_reducible repeat (first | apply Kd.R_alloc | apply Kd.R_drewN | apply Kd.R_drew)); exact Kd.R_mono (Kd.R_far (p := ⟨qi, 0, none⟩) (Kd.R_types qo.out qd.out (by decide)) (fun _ hk => hk.2) (.slice Ao54 qp.length co54)) (fun _ hk => trivial), by repeat (first | (with_reducible first | exact HB.out | apply below_alloc | apply pw_below_drewN | apply below_drew1 | refine below_set ?_ qh.out | refine below_set ?_ qk.out | refine below_set ?_ qn.out) | exact HB.out)⟩

end Go.Proofs.YtkdghhkpmkfjhaaDoor.P

