/- Several texts of this claim in one file: YtkdghhkpmkfjhaaDoorPSpecL4Parts, YtkdghhkpmkfjhaaDoorPSpecL1In, YtkdghhkpmkfjhaaDoorPSpecL4PartOk, YtkdghhkpmkfjhaaDoorPSpecL4Ok, YtkdghhkpmkfjhaaDoorPSpecValidGlob, YtkdghhkpmkfjhaaDoorPSpecValidPath, YtkdghhkpmkfjhaaDoorPSpecMatch, YtkdghhkpmkfjhaaDoorPSpecL5Begins, YtkdghhkpmkfjhaaDoorPSpecValidTree, YtkdghhkpmkfjhaaDoorPSpecPick. -/
import Derived.Test.YtkdghhkpmkfjhaaDoorM2
import Derived.Test.YtkdghhkpmkfjhaaDoorM3
namespace Go.Proofs.YtkdghhkpmkfjhaaDoor.P
open Go.RowKit Go.Proofs.YtkdghhkpmkfjhaaDoorW.PrintWords Go.Proofs.YtkdghhkpmkfjhaaDoorW.PrintLast Go.Proofs.YtkdghhkpmkfjhaaDoorW.PrintMore
attribute [local go_sem] max2_int min2_int max_two min_two max_three min_three max_four min_four
set_option linter.unusedVariables false
set_option linter.unusedSimpArgs false

/-! ### spec_l4Parts: function 85 -/
def spec_l4Parts.l0 : Nat → ByteArray → List ByteArray → Int → Int → Option (List ByteArray)
 | 0, _, _, _, _ => none
 | k + 1, x0, x3, x4, x5 => if x5 < (x0.size : Int) then (if 0 ≤ x5 then (if (bt x0 x5) = 47 then (if 0 ≤ x4 then (if x4 ≤ x5 then (if x5 ≤ (x0.size : Int) then (if x3.length < 8796093022208 then (spec_l4Parts.l0 k x0 (x3 ++ [x0.extract (x4 : Int).toNat (x5 : Int).toNat]) (wrap64 (x5 + 1)) (wrap64 (x5 + 1))) else (none)) else (none)) else (none)) else (none)) else (spec_l4Parts.l0 k x0 x3 x4 (wrap64 (x5 + 1)))) else (none)) else (if 0 ≤ x4 then (if x4 ≤ (x0.size : Int) then (if x3.length < 8796093022208 then (some (x3 ++ [x0.extract (x4 : Int).toNat x0.size])) else (none)) else (none)) else (none))
def spec_l4Parts.f (k : Nat) (a0 : ByteArray) : Option (List ByteArray) := spec_l4Parts.l0 k a0 (([] : List ByteArray)) 0 0
theorem spec_l4Parts.mono_l : ∀ k, (∀ y0 y1 y2 y3, LeO (spec_l4Parts.l0 k y0 y1 y2 y3) (spec_l4Parts.l0 (k + 1) y0 y1 y2 y3))
 | 0 => fun _ _ _ _ r h => by simp [spec_l4Parts.l0] at h
 | k + 1 => by
  have ih0 := spec_l4Parts.mono_l k
  ·intro y0 y1 y2 y3
   unfold spec_l4Parts.l0
   repeat' first
   | (with_reducible exact ih0 _ _ _ _)
   | (with_reducible exact LeO.refl _)
   | (with_reducible exact LeO.none _)
   | (with_reducible refine LeO.ite ?_ ?_)
   | (with_reducible refine LeO.bind ?_ (fun _ => ?_))
   | exact ih0 _ _ _ _
   | exact LeO.none _
   | refine LeO.ite ?_ ?_
   | refine LeO.bind ?_ (fun _ => ?_)
theorem spec_l4Parts.mono : ∀ a0 k, LeO (spec_l4Parts.f k a0) (spec_l4Parts.f (k + 1) a0) := by
 intro a0 k; have ih0 := spec_l4Parts.mono_l k
 unfold spec_l4Parts.f
 repeat' first
   | (with_reducible exact ih0 _ _ _ _)
   | (with_reducible exact LeO.refl _)
   | (with_reducible exact LeO.none _)
   | (with_reducible refine LeO.ite ?_ ?_)
   | (with_reducible refine LeO.bind ?_ (fun _ => ?_))
   | exact ih0 _ _ _ _
   | exact LeO.none _
   | refine LeO.ite ?_ ?_
   | refine LeO.bind ?_ (fun _ => ?_)
set_option maxHeartbeats 8000000 in
set_option maxRecDepth 100000 in
theorem spec_l4Parts.calls (k : Nat) (a0 : ByteArray) (r : List ByteArray) (w : World) (h : spec_l4Parts.f k a0 = some r) :
  Calls Tryd.prog 85 #[.string a0] w fun e w' => ∃ v0_ : Value, e = .returned (v0_) ∧ Kd.R Kd.string 9 w' w.heap.size (fun _ => True) v0_ r ∧ Below w.heap.size w w' := by
 have HB := Aside0.mk (Below.refl w.heap.size w); have H : (spec_l4Parts.l0 k a0 (([] : List ByteArray)) 0 0) = some r := h; clear h
 obtain ⟨y106, hy106⟩ : ∃ y_ : List ByteArray, y_ = (([] : List ByteArray)) := ⟨_, rfl⟩
 replace H : (spec_l4Parts.l0 k a0 y106 0 0) = some r := by first | (rw [hy106]; with_reducible exact H) | (have H2_ := (Option.bind_some _ _).symm.trans H; rw [hy106]; with_reducible exact H2_) | (have H2_ := (Option.bind_some _ _).symm.trans H; with_reducible exact H2_) | with_reducible exact H | (rw [hy106]; exact H) | exact H
 have Ny106 := Aside0.mk hy106; clear hy106; have H' := Aside0.mk H; clear H
 go_enter Tryd.func85, Tryd.ntmps85
 go_wp2_with (first | ((with_reducible refine gate_dst (N := 6) rfl ?_); refine Kd.R_lit Kd.string _ 9 ?hg (N := 6) ?hd (xs := ([] : List ByteArray)) (inner := []) (ok := fun _ => True) (okp := fun _ => True) ?hr ?hp (fun _ hk => hk) trivial (Below.refl _ _) (Nat.le_refl _) (by simp) ?_; (case hd => rfl); (case hg => rfl); (case hr => first | (go_simp; done) | (go_simp; rfl)); (case hp => exact (Reps.none _ _)); intro v107 w2 ho3 hb hg_ hnew_; clear hg_ hnew_; (first | rw [← Ny106.out] at ho3 | (simp only [Int.reduceToNat] at ho3; rw [← Ny106.out] at ho3)); have n0_ := Aside0.mk (Kd.R_lower ho3 (below_size (by repeat (first | (with_reducible first | exact HB.out | apply below_alloc | apply pw_below_drewN | apply below_drew1) | exact HB.out)))); have n1_ := Aside0.mk (below_step (by repeat (first | (with_reducible first | exact HB.out | apply below_alloc | apply pw_below_drewN | apply below_drew1) | exact HB.out)) hb); clear HB; have HO108 := n0_; have HB := n1_; clear n0_ n1_; clear hb ho3))
 go_loopg [3, 4, 5] k (fun kq v3 v4 v5 w' => ∃ (x3_1 : List ByteArray) (x4_1 : Int) (qa : Int), v4 = .int .i64 x4_1 ∧ v5 = .int .i64 qa ∧ Aside0 (spec_l4Parts.l0 kq a0 x3_1 x4_1 qa = some r) ∧ Aside0 (kq ≤ k) ∧ Aside0 (Kd.R Kd.string 9 w' w.heap.size (fun _ => True) v3 x3_1) ∧ Aside0 (Below w.heap.size w w'))
 case atStart => exact ⟨(y106), (0), (0), (by first | rfl | (simp; done) | (simp [*]; done)), (by first | rfl | (simp; done) | (simp [*]; done)), H', ⟨Nat.le_refl _⟩, ⟨by (with_reducible repeat (first | apply Kd.R_alloc | apply Kd.R_drewN | apply Kd.R_drew)); exact HO108.out⟩, ⟨by repeat (first | (with_reducible first | exact HB.out | apply below_alloc | apply pw_below_drewN | apply below_drew1) | exact HB.out)⟩⟩
 case round =>
  clear H'; (try clear p2); obtain ⟨x3_1, x4_1, qa, rfl, rfl, HA, HK1, HO_3, HB⟩ := hrel
  cases gk with
  | zero => exact absurd HA.out (by simp [spec_l4Parts.l0])
  | succ k1 =>
   have H := HA.out; clear HA; simp only [spec_l4Parts.l0] at H
   by_cases c4 : qa < (a0.size : Int)
   ·rw [if_pos c4] at H
    have c4b0 : decide (qa < (a0.size : Int)) = true := decide_eq_true c4; clear c4
    by_cases c5 : 0 ≤ qa
    ·rw [if_pos c5] at H
     have c5b0 : decide (0 ≤ qa) = true := decide_eq_true c5; clear c5
     by_cases c7 : (bt a0 qa) = 47
     ·rw [if_pos c7] at H
      have c7b0 : ((bt a0 qa) == 47) = true := beq_iff_eq.mpr c7; have c7b1 : ((bt a0 qa) != 47) = false := bne_eq_false_iff_eq.mpr c7; clear c7
      by_cases c8 : 0 ≤ x4_1
      ·rw [if_pos c8] at H
       have c8b0 := eq_true c8; have c8b1 : decide (0 ≤ x4_1) = true := decide_eq_true c8; clear c8
       by_cases c9 : x4_1 ≤ qa
       ·rw [if_pos c9] at H
        have c9b0 := eq_true c9; have c9b1 : decide (x4_1 ≤ qa) = true := decide_eq_true c9; clear c9
        by_cases c10 : qa ≤ (a0.size : Int)
        ·rw [if_pos c10] at H
         have c10b0 := eq_true c10; have c10b1 : decide (qa ≤ (a0.size : Int)) = true := decide_eq_true c10; clear c10
         by_cases c11 : x3_1.length < 8796093022208
         ·rw [if_pos c11] at H
          have LMc11 := Aside0.mk c11; clear c11
          obtain ⟨y109, hy109⟩ : ∃ y_ : List ByteArray, y_ = (x3_1 ++ [a0.extract (x4_1 : Int).toNat (qa : Int).toNat]) := ⟨_, rfl⟩
          replace H : (spec_l4Parts.l0 k1 a0 y109 (wrap64 (qa + 1)) (wrap64 (qa + 1))) = some r := by first | (rw [hy109]; with_reducible exact H) | (have H2_ := (Option.bind_some _ _).symm.trans H; rw [hy109]; with_reducible exact H2_) | (have H2_ := (Option.bind_some _ _).symm.trans H; with_reducible exact H2_) | with_reducible exact H | (rw [hy109]; exact H) | exact H
          have Ny109 := Aside0.mk hy109; clear hy109; have H' := Aside0.mk H; clear H; have p6 : 0 ≤ (qa : Int) := of_decide_eq_true (by first | (with_reducible assumption) | assumption); have q6 : qa < (a0.size : Int) := of_decide_eq_true (by first | (with_reducible assumption) | assumption); have hx6 := bt_at a0 qa; replace p6 := eq_true p6; replace q6 := eq_true q6
          go_wp2_with (first | ((with_reducible refine gate_builtin (b := .append) (xs := #[.tmp 17, .tmp 22]) rfl ?_); at_builtin; refine Kd.R_append Kd.string (w0 := w) w.heap.size rfl (.tmp 17) (.tmp 22) 56 9 (.string ⟨#[]⟩) 16 rfl Tryd.underlying56 info9 rfl (by decide) (by omega) u3 x3_1 (a0.extract (x4_1 : Int).toNat (qa : Int).toNat) [.string (a0.extract (x4_1 : Int).toNat (qa : Int).toNat)] (fun _ => True) (fun _ => False) rfl rfl ?aP (fun _ hk => hk.elim) ?aF ?aO ?aB ?aS ?aL ?_; (case aP => exact rfl); (case aB => exact (by repeat (first | (with_reducible first | exact HB.out | apply below_alloc | apply pw_below_drewN | apply below_drew1) | exact HB.out))); (case aF => exact (fun _ _ => trivial)); (case aO => exact (by (with_reducible repeat (first | apply Kd.R_alloc | apply Kd.R_drewN | apply Kd.R_drew)); exact HO_3.out)); (case aS => exact (below_size (by repeat (first | (with_reducible first | exact HB.out | apply below_alloc | apply pw_below_drewN | apply below_drew1) | exact HB.out)))); (case aL => have := LMc11.out; omega); intro v110 w12 ho hb hg hat; rw [← Ny109.out] at ho; have n0_ := Aside0.mk (hb); have n1_ := Aside0.mk (ho); clear HB; clear HO_3; have HB := n0_; have HO111 := n1_; clear n0_ n1_; clear ho hb hg hat))
          go_roundg k1
          case measure => have := HK1.out; omega
          case rel => exact ⟨(y109), (wrap64 (qa + 1)), (wrap64 (qa + 1)), (by first | rfl | (simp; done) | (simp [*]; done)), (by first | rfl | (simp; done) | (simp [*]; done)), H', ⟨by have := HK1.out; omega⟩, ⟨by (with_reducible repeat (first | apply Kd.R_alloc | apply Kd.R_drewN | apply Kd.R_drew)); exact HO111.out⟩, ⟨by repeat (first | (with_reducible first | exact HB.out | apply below_alloc | apply pw_below_drewN | apply below_drew1) | exact HB.out)⟩⟩
         ·rw [if_neg c11] at H
          exact absurd H (by simp)
        ·rw [if_neg c10] at H
         exact absurd H (by simp)
       ·rw [if_neg c9] at H
        exact absurd H (by simp)
      ·rw [if_neg c8] at H
       exact absurd H (by simp)
     ·rw [if_neg c7] at H
      have c7b0 : ((bt a0 qa) == 47) = false := beq_eq_false_iff_ne.mpr c7; have c7b1 : ((bt a0 qa) != 47) = true := bne_iff_ne.mpr c7; have H' := Aside0.mk H; clear H; have p6 : 0 ≤ (qa : Int) := of_decide_eq_true (by first | (with_reducible assumption) | assumption); have q6 : qa < (a0.size : Int) := of_decide_eq_true (by first | (with_reducible assumption) | assumption); have hx6 := bt_at a0 qa; replace p6 := eq_true p6; replace q6 := eq_true q6
      go_wp2
      go_roundg k1
      case measure => have := HK1.out; omega
      case rel => exact ⟨(x3_1), (x4_1), (wrap64 (qa + 1)), (by first | rfl | (simp; done) | (simp [*]; done)), (by first | rfl | (simp; done) | (simp [*]; done)), H', ⟨by have := HK1.out; omega⟩, ⟨by (with_reducible repeat (first | apply Kd.R_alloc | apply Kd.R_drewN | apply Kd.R_drew)); exact HO_3.out⟩, ⟨by repeat (first | (with_reducible first | exact HB.out | apply below_alloc | apply pw_below_drewN | apply below_drew1) | exact HB.out)⟩⟩
    ·rw [if_neg c5] at H
     exact absurd H (by simp)
   ·rw [if_neg c4] at H
    have c4b0 : decide (qa < (a0.size : Int)) = false := decide_eq_false c4; clear c4
    by_cases c13 : 0 ≤ x4_1
    ·rw [if_pos c13] at H
     have c13b0 := eq_true c13; have c13b1 : decide (0 ≤ x4_1) = true := decide_eq_true c13; clear c13
     by_cases c14 : x4_1 ≤ (a0.size : Int)
     ·rw [if_pos c14] at H
      have c14b0 := eq_true c14; have c14b1 : decide (x4_1 ≤ (a0.size : Int)) = true := decide_eq_true c14; clear c14
      by_cases c15 : x3_1.length < 8796093022208
      ·rw [if_pos c15] at H
       have LMc15 := Aside0.mk c15; clear c15
       obtain ⟨y112, hy112⟩ : ∃ y_ : List ByteArray, y_ = (x3_1 ++ [a0.extract (x4_1 : Int).toNat a0.size]) := ⟨_, rfl⟩
       replace H : (some y112) = some r := by first | (rw [hy112]; with_reducible exact H) | (have H2_ := (Option.bind_some _ _).symm.trans H; rw [hy112]; with_reducible exact H2_) | (have H2_ := (Option.bind_some _ _).symm.trans H; with_reducible exact H2_) | with_reducible exact H | (rw [hy112]; exact H) | exact H
       have Ny112 := Aside0.mk hy112; clear hy112; obtain rfl := Option.some.inj H
       go_wp2_with (first | ((with_reducible refine gate_builtin (b := .append) (xs := #[.tmp 26, .tmp 30]) rfl ?_); at_builtin; refine Kd.R_append Kd.string (w0 := w) w.heap.size rfl (.tmp 26) (.tmp 30) 56 9 (.string ⟨#[]⟩) 16 rfl Tryd.underlying56 info9 rfl (by decide) (by omega) u3 x3_1 (a0.extract (x4_1 : Int).toNat a0.size) [.string (a0.extract (x4_1 : Int).toNat a0.size)] (fun _ => True) (fun _ => False) rfl rfl ?aP (fun _ hk => hk.elim) ?aF ?aO ?aB ?aS ?aL ?_; (case aP => exact rfl); (case aB => exact (by repeat (first | (with_reducible first | exact HB.out | apply below_alloc | apply pw_below_drewN | apply below_drew1) | exact HB.out))); (case aF => exact (fun _ _ => trivial)); (case aO => exact (by (with_reducible repeat (first | apply Kd.R_alloc | apply Kd.R_drewN | apply Kd.R_drew)); exact HO_3.out)); (case aS => exact (below_size (by repeat (first | (with_reducible first | exact HB.out | apply below_alloc | apply pw_below_drewN | apply below_drew1) | exact HB.out)))); (case aL => have := LMc15.out; omega); intro v113 w16 ho hb hg hat; rw [← Ny112.out] at ho; have n0_ := Aside0.mk (hb); have n1_ := Aside0.mk (ho); clear HB; clear HO_3; have HB := n0_; have HO114 := n1_; clear n0_ n1_; clear ho hb hg hat))
       go_ret
       exact ⟨_, by first | rfl | (simp [errW_none, errW_some] <;> rfl) | (simp [*, errW_none, errW_some] <;> rfl), by (with_reducible repeat (first | apply Kd.R_alloc | apply Kd.R_drewN | apply Kd.R_drew)); exact HO114.out, by repeat (first | (with_reducible first | exact HB.out | apply below_alloc | apply pw_below_drewN | apply below_drew1) | exact HB.out)⟩
      ·rw [if_neg c15] at H
       exact absurd H (by simp)
     ·rw [if_neg c14] at H
      exact absurd H (by simp)
    ·rw [if_neg c13] at H
     exact absurd H (by simp)

end Go.Proofs.YtkdghhkpmkfjhaaDoor.P


namespace Go.Proofs.YtkdghhkpmkfjhaaDoor.P
open Go.RowKit Go.Proofs.YtkdghhkpmkfjhaaDoorW.PrintWords Go.Proofs.YtkdghhkpmkfjhaaDoorW.PrintLast Go.Proofs.YtkdghhkpmkfjhaaDoorW.PrintMore
attribute [local go_sem] max2_int min2_int max_two min_two max_three min_three max_four min_four
set_option linter.unusedVariables false
set_option linter.unusedSimpArgs false

/-! ### spec_l1In: function 107 -/
def spec_l1In.f (a0 : Int) (a1 : Int) (a2 : Int) : Option (Bool) := if a0 ≥ a1 then (some (decide (a0 ≤ a2))) else (some false)
set_option maxHeartbeats 8000000 in
set_option maxRecDepth 100000 in
theorem spec_l1In.calls (a0 : Int) (a1 : Int) (a2 : Int) (r : Bool) (w : World) (h : spec_l1In.f a0 a1 a2 = some r) :
  Calls Tryd.prog 107 #[.int .i64 a0, .int .i64 a1, .int .i64 a2] w fun e w' => e = .returned (.bool r) ∧ Drawn0 w w' := by
 have H : (if a0 ≥ a1 then (some (decide (a0 ≤ a2))) else (some false)) = some r := h; clear h
 by_cases c4 : a0 ≥ a1
 ·rw [if_pos c4] at H
  have c4b0 : decide (a1 ≤ a0) = true := decide_eq_true c4; clear c4; obtain rfl := Option.some.inj H
  go_enter Tryd.func107, Tryd.ntmps107
  go_wp2
  go_ret
  exact ⟨by first | rfl | (simp; done) | (simp [*]; done), by repeat (first | exact Drawn0.refl _ | apply Drawn0.step)⟩
 ·rw [if_neg c4] at H
  have c4b0 : decide (a1 ≤ a0) = false := decide_eq_false c4; clear c4; obtain rfl := Option.some.inj H
  go_enter Tryd.func107, Tryd.ntmps107
  go_wp2
  go_ret
  exact ⟨by first | rfl | (simp; done) | (simp [*]; done), by repeat (first | exact Drawn0.refl _ | apply Drawn0.step)⟩

end Go.Proofs.YtkdghhkpmkfjhaaDoor.P


namespace Go.Proofs.YtkdghhkpmkfjhaaDoor.P
open Go.RowKit Go.Proofs.YtkdghhkpmkfjhaaDoorW.PrintWords Go.Proofs.YtkdghhkpmkfjhaaDoorW.PrintLast Go.Proofs.YtkdghhkpmkfjhaaDoorW.PrintMore
attribute [local go_sem] max2_int min2_int max_two min_two max_three min_three max_four min_four
set_option linter.unusedVariables false
set_option linter.unusedSimpArgs false

/-! ### spec_l4PartOk: function 92 -/
mutual
def spec_l4PartOk.j0 : Nat → ByteArray → Bool → Bool → Option (Bool)
 | 0, _, _, _ => none
 | k + 1, x0, x1, x17 => if x17 = true then (some false) else (spec_l4PartOk.l0 k x0 x1 0)
def spec_l4PartOk.l0 : Nat → ByteArray → Bool → Int → Option (Bool)
 | 0, _, _, _ => none
 | k + 1, x0, x1, x5 => if x5 < (x0.size : Int) then (if 0 ≤ x5 then (if (bt x0 x5) < 33 then (some false) else (if (bt x0 x5) > 126 then (some false) else (if (bt x0 x5) = 47 then (some false) else (if (bt x0 x5) = 34 then (some false) else (if x1 = true then (spec_l4PartOk.l0 k x0 x1 (wrap64 (x5 + 1))) else (if (bt x0 x5) = 42 then (some false) else (if (bt x0 x5) = 63 then (some false) else (spec_l4PartOk.l0 k x0 x1 (wrap64 (x5 + 1)))))))))) else (none)) else (some true)
end
def spec_l4PartOk.f (k : Nat) (a0 : ByteArray) (a1 : Bool) : Option (Bool) := (spec_l1In.f (a0.size : Int) 1 20).bind fun t115 => (if t115 = true then (if a0.toList = ([46] : List UInt8) then (spec_l4PartOk.j0 k a0 a1 true) else (spec_l4PartOk.j0 k a0 a1 (a0.toList == ([46, 46] : List UInt8)))) else (spec_l4PartOk.j0 k a0 a1 true))
theorem spec_l4PartOk.mono_l : ∀ k, (∀ y0 y1 y2, LeO (spec_l4PartOk.j0 k y0 y1 y2) (spec_l4PartOk.j0 (k + 1) y0 y1 y2)) ∧ (∀ y0 y1 y2, LeO (spec_l4PartOk.l0 k y0 y1 y2) (spec_l4PartOk.l0 (k + 1) y0 y1 y2))
 | 0 => ⟨fun _ _ _ r h => by simp [spec_l4PartOk.j0] at h, fun _ _ _ r h => by simp [spec_l4PartOk.l0] at h⟩
 | k + 1 => by
  obtain ⟨ih0, ih1⟩ := spec_l4PartOk.mono_l k; refine ⟨?_, ?_⟩
  ·intro y0 y1 y2
   unfold spec_l4PartOk.j0
   repeat' first
   | (with_reducible exact ih0 _ _ _)
   | (with_reducible exact ih1 _ _ _)
   | (with_reducible exact LeO.refl _)
   | (with_reducible exact LeO.none _)
   | (with_reducible refine LeO.ite ?_ ?_)
   | (with_reducible refine LeO.bind ?_ (fun _ => ?_))
   | exact ih0 _ _ _
   | exact ih1 _ _ _
   | exact LeO.none _
   | refine LeO.ite ?_ ?_
   | refine LeO.bind ?_ (fun _ => ?_)
  ·intro y0 y1 y2
   unfold spec_l4PartOk.l0
   repeat' first
   | (with_reducible exact ih0 _ _ _)
   | (with_reducible exact ih1 _ _ _)
   | (with_reducible exact LeO.refl _)
   | (with_reducible exact LeO.none _)
   | (with_reducible refine LeO.ite ?_ ?_)
   | (with_reducible refine LeO.bind ?_ (fun _ => ?_))
   | exact ih0 _ _ _
   | exact ih1 _ _ _
   | exact LeO.none _
   | refine LeO.ite ?_ ?_
   | refine LeO.bind ?_ (fun _ => ?_)
theorem spec_l4PartOk.mono : ∀ a0 a1 k, LeO (spec_l4PartOk.f k a0 a1) (spec_l4PartOk.f (k + 1) a0 a1) := by
 intro a0 a1 k; obtain ⟨ih0, ih1⟩ := spec_l4PartOk.mono_l k
 unfold spec_l4PartOk.f
 repeat' first
   | (with_reducible exact ih0 _ _ _)
   | (with_reducible exact ih1 _ _ _)
   | (with_reducible exact LeO.refl _)
   | (with_reducible exact LeO.none _)
   | (with_reducible refine LeO.ite ?_ ?_)
   | (with_reducible refine LeO.bind ?_ (fun _ => ?_))
   | exact ih0 _ _ _
   | exact ih1 _ _ _
   | exact LeO.none _
   | refine LeO.ite ?_ ?_
   | refine LeO.bind ?_ (fun _ => ?_)
set_option maxHeartbeats 8000000 in
set_option maxRecDepth 100000 in
theorem spec_l4PartOk.calls (k : Nat) (a0 : ByteArray) (a1 : Bool) (r : Bool) (w : World) (h : spec_l4PartOk.f k a0 a1 = some r) :
  Calls Tryd.prog 92 #[.string a0, .bool a1] w fun e w' => e = .returned (.bool r) ∧ Drawn0 w w' := by
 have H : ((spec_l1In.f (a0.size : Int) 1 20).bind fun t115 => (if t115 = true then (if a0.toList = ([46] : List UInt8) then (spec_l4PartOk.j0 k a0 a1 true) else (spec_l4PartOk.j0 k a0 a1 (a0.toList == ([46, 46] : List UInt8)))) else (spec_l4PartOk.j0 k a0 a1 true))) = some r := h; clear h; have HC3 := Aside0.mk H; clear H
 go_enter Tryd.func92, Tryd.ntmps92
 go_upto_region 1 with (fail)
 go_cut [17] (fun v17 wc => ∃ (kq : Nat) (x17_2 : Bool), v17 = .bool x17_2 ∧ Aside0 (spec_l4PartOk.j0 kq a0 a1 x17_2 = some r) ∧ Aside0 (kq ≤ k) ∧ Drawn0 w wc)
 case first =>
  have H := HC3.out; clear HC3; replace H := Option.bind_eq_some_iff.mp H; obtain ⟨t115, A40, H⟩ := H; replace H : (if t115 = true then (if a0.toList = ([46] : List UInt8) then (spec_l4PartOk.j0 k a0 a1 true) else (spec_l4PartOk.j0 k a0 a1 (a0.toList == ([46, 46] : List UInt8)))) else (spec_l4PartOk.j0 k a0 a1 true)) = some r := H; have A4 := Aside0.mk A40; clear A40
  by_cases c5 : t115 = true
  ·subst c5
   have H1 : (if a0.toList = ([46] : List UInt8) then (spec_l4PartOk.j0 k a0 a1 true) else (spec_l4PartOk.j0 k a0 a1 (a0.toList == ([46, 46] : List UInt8)))) = some r := by rw [if_pos rfl] at H; exact H
   clear H; have H := H1; clear H1
   by_cases c6 : a0.toList = ([46] : List UInt8)
   ·rw [if_pos c6] at H
    have c6b0 : (a0.toList == ([46] : List UInt8)) = true := beq_iff_eq.mpr c6; have c6b1 : (a0.toList != ([46] : List UInt8)) = false := bne_eq_false_iff_eq.mpr c6; clear c6; (first | rw [c6b0] | (simp only [i64_w, i32_w]; rw [c6b0]) | skip); have H' := Aside0.mk H; clear H
    go_wp2_with (first | ((with_reducible refine gate_callee (f := 107) rfl ?_); refine goesL_ (some 8) rfl rfl Tryd.func107 (by kernel_rfl) rfl #[.int .i64 (a0.size : Int), .int .i64 1, .int .i64 20] rfl (by (try simp only [List.map_toArray, List.map_cons, List.map_nil]); first | done | rfl | (simp only [List.length_drop, List.length_take]; rfl)) ?_; (with_reducible refine (spec_l1In.calls (a0.size : Int) 1 20 true _ A4.out).mono ?_); rintro e w' ⟨rfl, ⟨nd, rfl⟩⟩; refine ⟨_, rfl, ?_⟩))
    go_meet
    case rel => exact ⟨_, (true), (by first | rfl | (simp; done) | (simp [*]; done)), H', ⟨by first | omega | exact Nat.le_refl _⟩, by repeat (first | exact Drawn0.refl _ | apply Drawn0.step)⟩
   ·rw [if_neg c6] at H
    have c6b0 : (a0.toList == ([46] : List UInt8)) = false := beq_eq_false_iff_ne.mpr c6; have c6b1 : (a0.toList != ([46] : List UInt8)) = true := bne_iff_ne.mpr c6; (first | rw [c6b0] | (simp only [i64_w, i32_w]; rw [c6b0]) | skip); have H' := Aside0.mk H; clear H
    go_wp2_with (first | ((with_reducible refine gate_callee (f := 107) rfl ?_); refine goesL_ (some 8) rfl rfl Tryd.func107 (by kernel_rfl) rfl #[.int .i64 (a0.size : Int), .int .i64 1, .int .i64 20] rfl (by (try simp only [List.map_toArray, List.map_cons, List.map_nil]); first | done | rfl | (simp only [List.length_drop, List.length_take]; rfl)) ?_; (with_reducible refine (spec_l1In.calls (a0.size : Int) 1 20 true _ A4.out).mono ?_); rintro e w' ⟨rfl, ⟨nd, rfl⟩⟩; refine ⟨_, rfl, ?_⟩))
    go_meet
    case rel => exact ⟨_, ((a0.toList == ([46, 46] : List UInt8))), (by first | rfl | (simp; done) | (simp [*]; done)), H', ⟨by first | omega | exact Nat.le_refl _⟩, by repeat (first | exact Drawn0.refl _ | apply Drawn0.step)⟩
  ·replace c5 := Bool.eq_false_iff.mpr c5; subst c5
   have H1 : (spec_l4PartOk.j0 k a0 a1 true) = some r := by rw [if_neg (show ¬ (false = true) by decide)] at H; exact H
   clear H; have H := H1; clear H1; have H' := Aside0.mk H; clear H
   go_wp2_with (first | ((with_reducible refine gate_callee (f := 107) rfl ?_); refine goesL_ (some 8) rfl rfl Tryd.func107 (by kernel_rfl) rfl #[.int .i64 (a0.size : Int), .int .i64 1, .int .i64 20] rfl (by (try simp only [List.map_toArray, List.map_cons, List.map_nil]); first | done | rfl | (simp only [List.length_drop, List.length_take]; rfl)) ?_; (with_reducible refine (spec_l1In.calls (a0.size : Int) 1 20 false _ A4.out).mono ?_); rintro e w' ⟨rfl, ⟨nd, rfl⟩⟩; refine ⟨_, rfl, ?_⟩))
   go_meet
   case rel => exact ⟨_, (true), (by first | rfl | (simp; done) | (simp [*]; done)), H', ⟨by first | omega | exact Nat.le_refl _⟩, by repeat (first | exact Drawn0.refl _ | apply Drawn0.step)⟩
 case rest =>
  clear HC3; (try clear c1); (try clear p2); (try clear c5); (try clear c6); (try clear c6b0); (try clear c6b1); obtain ⟨kq, x17_2, rfl, HA, HJ2, ⟨mc2, rfl⟩⟩ := hcut
  cases kq with
  | zero => exact absurd HA.out (by simp [spec_l4PartOk.j0])
  | succ kj2 =>
   have H := HA.out; clear HA; simp only [spec_l4PartOk.j0] at H
   by_cases c7 : x17_2 = true
   ·subst c7
    have H1 : (some false) = some r := by rw [if_pos rfl] at H; exact H
    clear H; have H := H1; clear H1; obtain rfl := Option.some.inj H
    go_wp2
    go_ret
    exact ⟨by first | rfl | (simp; done) | (simp [*]; done), by repeat (first | exact Drawn0.refl _ | apply Drawn0.step)⟩
   ·replace c7 := Bool.eq_false_iff.mpr c7; subst c7
    have H1 : (spec_l4PartOk.l0 kj2 a0 a1 0) = some r := by rw [if_neg (show ¬ (false = true) by decide)] at H; exact H
    clear H; have H := H1; clear H1; have H' := Aside0.mk H; clear H
    go_wp2
    go_loopg [5] kj2 (fun kq v5 w' => ∃ (qa : Int), v5 = .int .i64 qa ∧ Aside0 (spec_l4PartOk.l0 kq a0 a1 qa = some r) ∧ Aside0 (kq ≤ kj2) ∧ Drawn0 w w')
    case atStart => exact ⟨(0), (by first | rfl | (simp; done) | (simp [*]; done)), H', ⟨Nat.le_refl _⟩, by repeat (first | exact Drawn0.refl _ | apply Drawn0.step)⟩
    case round =>
     clear H'; (try clear c1); (try clear c2); (try clear p2); (try clear c5); (try clear c6); (try clear c6b0); (try clear c6b1); (try clear c7); (try clear p2); obtain ⟨qa, rfl, HA, HK2, ⟨m2, rfl⟩⟩ := hrel
     cases gk with
     | zero => exact absurd HA.out (by simp [spec_l4PartOk.l0])
     | succ k2 =>
      have H := HA.out; clear HA; simp only [spec_l4PartOk.l0] at H
      by_cases c8 : qa < (a0.size : Int)
      ·rw [if_pos c8] at H
       have c8b0 : decide (qa < (a0.size : Int)) = true := decide_eq_true c8; clear c8
       by_cases c9 : 0 ≤ qa
       ·rw [if_pos c9] at H
        have c9b0 : decide (0 ≤ qa) = true := decide_eq_true c9; clear c9
        by_cases c11 : (bt a0 qa) < 33
        ·rw [if_pos c11] at H
         have c11b0 : decide ((bt a0 qa) < 33) = true := decide_eq_true c11; clear c11; obtain rfl := Option.some.inj H; have p10 : 0 ≤ (qa : Int) := of_decide_eq_true (by first | (with_reducible assumption) | assumption); have q10 : qa < (a0.size : Int) := of_decide_eq_true (by first | (with_reducible assumption) | assumption); have hx10 := bt_at a0 qa; replace p10 := eq_true p10; replace q10 := eq_true q10
         go_wp2
         go_ret
         exact ⟨by first | rfl | (simp; done) | (simp [*]; done), by repeat (first | exact Drawn0.refl _ | apply Drawn0.step)⟩
        ·rw [if_neg c11] at H
         have c11b0 : decide ((bt a0 qa) < 33) = false := decide_eq_false c11; clear c11
         by_cases c13 : (bt a0 qa) > 126
         ·rw [if_pos c13] at H
          have c13b0 : decide (126 < (bt a0 qa)) = true := decide_eq_true c13; clear c13; obtain rfl := Option.some.inj H; have p10 : 0 ≤ (qa : Int) := of_decide_eq_true (by first | (with_reducible assumption) | assumption); have q10 : qa < (a0.size : Int) := of_decide_eq_true (by first | (with_reducible assumption) | assumption); have hx10 := bt_at a0 qa; replace p10 := eq_true p10; replace q10 := eq_true q10; have p12 : 0 ≤ (qa : Int) := of_decide_eq_true (by first | (with_reducible assumption) | assumption); have q12 : qa < (a0.size : Int) := of_decide_eq_true (by first | (with_reducible assumption) | assumption); have hx12 := bt_at a0 qa; replace p12 := eq_true p12; replace q12 := eq_true q12
          go_wp2
          go_ret
          exact ⟨by first | rfl | (simp; done) | (simp [*]; done), by repeat (first | exact Drawn0.refl _ | apply Drawn0.step)⟩
         ·rw [if_neg c13] at H
          have c13b0 : decide (126 < (bt a0 qa)) = false := decide_eq_false c13; clear c13
          by_cases c15 : (bt a0 qa) = 47
          ·rw [if_pos c15] at H
           have c15b0 : ((bt a0 qa) == 47) = true := beq_iff_eq.mpr c15; have c15b1 : ((bt a0 qa) != 47) = false := bne_eq_false_iff_eq.mpr c15; clear c15; obtain rfl := Option.some.inj H; have p10 : 0 ≤ (qa : Int) := of_decide_eq_true (by first | (with_reducible assumption) | assumption); have q10 : qa < (a0.size : Int) := of_decide_eq_true (by first | (with_reducible assumption) | assumption); have hx10 := bt_at a0 qa; replace p10 := eq_true p10; replace q10 := eq_true q10; have p12 : 0 ≤ (qa : Int) := of_decide_eq_true (by first | (with_reducible assumption) | assumption); have q12 : qa < (a0.size : Int) := of_decide_eq_true (by first | (with_reducible assumption) | assumption); have hx12 := bt_at a0 qa; replace p12 := eq_true p12; replace q12 := eq_true q12; have p14 : 0 ≤ (qa : Int) := of_decide_eq_true (by first | (with_reducible assumption) | assumption); have q14 : qa < (a0.size : Int) := of_decide_eq_true (by first | (with_reducible assumption) | assumption); have hx14 := bt_at a0 qa; replace p14 := eq_true p14; replace q14 := eq_true q14
           go_wp2
           go_ret
           exact ⟨by first | rfl | (simp; done) | (simp [*]; done), by repeat (first | exact Drawn0.refl _ | apply Drawn0.step)⟩
          ·rw [if_neg c15] at H
           have c15b0 : ((bt a0 qa) == 47) = false := beq_eq_false_iff_ne.mpr c15; have c15b1 : ((bt a0 qa) != 47) = true := bne_iff_ne.mpr c15
           by_cases c17 : (bt a0 qa) = 34
           ·rw [if_pos c17] at H
            have c17b0 : ((bt a0 qa) == 34) = true := beq_iff_eq.mpr c17; have c17b1 : ((bt a0 qa) != 34) = false := bne_eq_false_iff_eq.mpr c17; clear c17; obtain rfl := Option.some.inj H; have p10 : 0 ≤ (qa : Int) := of_decide_eq_true (by first | (with_reducible assumption) | assumption); have q10 : qa < (a0.size : Int) := of_decide_eq_true (by first | (with_reducible assumption) | assumption); have hx10 := bt_at a0 qa; replace p10 := eq_true p10; replace q10 := eq_true q10; have p12 : 0 ≤ (qa : Int) := of_decide_eq_true (by first | (with_reducible assumption) | assumption); have q12 : qa < (a0.size : Int) := of_decide_eq_true (by first | (with_reducible assumption) | assumption); have hx12 := bt_at a0 qa; replace p12 := eq_true p12; replace q12 := eq_true q12; have p14 : 0 ≤ (qa : Int) := of_decide_eq_true (by first | (with_reducible assumption) | assumption); have q14 : qa < (a0.size : Int) := of_decide_eq_true (by first | (with_reducible assumption) | assumption); have hx14 := bt_at a0 qa; replace p14 := eq_true p14; replace q14 := eq_true q14; have p16 : 0 ≤ (qa : Int) := of_decide_eq_true (by first | (with_reducible assumption) | assumption); have q16 : qa < (a0.size : Int) := of_decide_eq_true (by first | (with_reducible assumption) | assumption); have hx16 := bt_at a0 qa; replace p16 := eq_true p16; replace q16 := eq_true q16
            go_wp2
            go_ret
            exact ⟨by first | rfl | (simp; done) | (simp [*]; done), by repeat (first | exact Drawn0.refl _ | apply Drawn0.step)⟩
           ·rw [if_neg c17] at H
            have c17b0 : ((bt a0 qa) == 34) = false := beq_eq_false_iff_ne.mpr c17; have c17b1 : ((bt a0 qa) != 34) = true := bne_iff_ne.mpr c17
            by_cases c18 : a1 = true
            ·subst c18
             have H1 : (spec_l4PartOk.l0 k2 a0 true (wrap64 (qa + 1))) = some r := by rw [if_pos rfl] at H; exact H
             clear H; have H := H1; clear H1; have H' := Aside0.mk H; clear H; have p10 : 0 ≤ (qa : Int) := of_decide_eq_true (by first | (with_reducible assumption) | assumption); have q10 : qa < (a0.size : Int) := of_decide_eq_true (by first | (with_reducible assumption) | assumption); have hx10 := bt_at a0 qa; replace p10 := eq_true p10; replace q10 := eq_true q10; have p12 : 0 ≤ (qa : Int) := of_decide_eq_true (by first | (with_reducible assumption) | assumption); have q12 : qa < (a0.size : Int) := of_decide_eq_true (by first | (with_reducible assumption) | assumption); have hx12 := bt_at a0 qa; replace p12 := eq_true p12; replace q12 := eq_true q12; have p14 : 0 ≤ (qa : Int) := of_decide_eq_true (by first | (with_reducible assumption) | assumption); have q14 : qa < (a0.size : Int) := of_decide_eq_true (by first | (with_reducible assumption) | assumption); have hx14 := bt_at a0 qa; replace p14 := eq_true p14; replace q14 := eq_true q14; have p16 : 0 ≤ (qa : Int) := of_decide_eq_true (by first | (with_reducible assumption) | assumption); have q16 : qa < (a0.size : Int) := of_decide_eq_true (by first | (with_reducible assumption) | assumption); have hx16 := bt_at a0 qa; replace p16 := eq_true p16; replace q16 := eq_true q16
             go_wp2
             go_roundg k2
             case measure => have := HJ2.out; have := HK2.out; omega
             case rel => exact ⟨(wrap64 (qa + 1)), (by first | rfl | (simp; done) | (simp [*]; done)), H', ⟨by have := HJ2.out; have := HK2.out; omega⟩, by repeat (first | exact Drawn0.refl _ | apply Drawn0.step)⟩
            ·replace c18 := Bool.eq_false_iff.mpr c18; subst c18
             have H1 : (if (bt a0 qa) = 42 then (some false) else (if (bt a0 qa) = 63 then (some false) else (spec_l4PartOk.l0 k2 a0 false (wrap64 (qa + 1))))) = some r := by rw [if_neg (show ¬ (false = true) by decide)] at H; exact H
             clear H; have H := H1; clear H1
             by_cases c20 : (bt a0 qa) = 42
             ·rw [if_pos c20] at H
              have c20b0 : ((bt a0 qa) == 42) = true := beq_iff_eq.mpr c20; have c20b1 : ((bt a0 qa) != 42) = false := bne_eq_false_iff_eq.mpr c20; clear c20; obtain rfl := Option.some.inj H; have p10 : 0 ≤ (qa : Int) := of_decide_eq_true (by first | (with_reducible assumption) | assumption); have q10 : qa < (a0.size : Int) := of_decide_eq_true (by first | (with_reducible assumption) | assumption); have hx10 := bt_at a0 qa; replace p10 := eq_true p10; replace q10 := eq_true q10; have p12 : 0 ≤ (qa : Int) := of_decide_eq_true (by first | (with_reducible assumption) | assumption); have q12 : qa < (a0.size : Int) := of_decide_eq_true (by first | (with_reducible assumption) | assumption); have hx12 := bt_at a0 qa; replace p12 := eq_true p12; replace q12 := eq_true q12; have p14 : 0 ≤ (qa : Int) := of_decide_eq_true (by first | (with_reducible assumption) | assumption); have q14 : qa < (a0.size : Int) := of_decide_eq_true (by first | (with_reducible assumption) | assumption); have hx14 := bt_at a0 qa; replace p14 := eq_true p14; replace q14 := eq_true q14; have p16 : 0 ≤ (qa : Int) := of_decide_eq_true (by first | (with_reducible assumption) | assumption); have q16 : qa < (a0.size : Int) := of_decide_eq_true (by first | (with_reducible assumption) | assumption); have hx16 := bt_at a0 qa; replace p16 := eq_true p16; replace q16 := eq_true q16; have p19 : 0 ≤ (qa : Int) := of_decide_eq_true (by first | (with_reducible assumption) | assumption); have q19 : qa < (a0.size : Int) := of_decide_eq_true (by first | (with_reducible assumption) | assumption); have hx19 := bt_at a0 qa; replace p19 := eq_true p19; replace q19 := eq_true q19
              go_wp2
              go_ret
              exact ⟨by first | rfl | (simp; done) | (simp [*]; done), by repeat (first | exact Drawn0.refl _ | apply Drawn0.step)⟩
             ·rw [if_neg c20] at H
              have c20b0 : ((bt a0 qa) == 42) = false := beq_eq_false_iff_ne.mpr c20; have c20b1 : ((bt a0 qa) != 42) = true := bne_iff_ne.mpr c20
              by_cases c22 : (bt a0 qa) = 63
              ·rw [if_pos c22] at H
               have c22b0 : ((bt a0 qa) == 63) = true := beq_iff_eq.mpr c22; have c22b1 : ((bt a0 qa) != 63) = false := bne_eq_false_iff_eq.mpr c22; clear c22; obtain rfl := Option.some.inj H; have p10 : 0 ≤ (qa : Int) := of_decide_eq_true (by first | (with_reducible assumption) | assumption); have q10 : qa < (a0.size : Int) := of_decide_eq_true (by first | (with_reducible assumption) | assumption); have hx10 := bt_at a0 qa; replace p10 := eq_true p10; replace q10 := eq_true q10; have p12 : 0 ≤ (qa : Int) := of_decide_eq_true (by first | (with_reducible assumption) | assumption); have q12 : qa < (a0.size : Int) := of_decide_eq_true (by first | (with_reducible assumption) | assumption); have hx12 := bt_at a0 qa; replace p12 := eq_true p12; replace q12 := eq_true q12; have p14 : 0 ≤ (qa : Int) := of_decide_eq_true (by first | (with_reducible assumption) | assumption); have q14 : qa < (a0.size : Int) := of_decide_eq_true (by first | (with_reducible assumption) | assumption); have hx14 := bt_at a0 qa; replace p14 := eq_true p14; replace q14 := eq_true q14; have p16 : 0 ≤ (qa : Int) := of_decide_eq_true (by first | (with_reducible assumption) | assumption); have q16 : qa < (a0.size : Int) := of_decide_eq_true (by first | (with_reducible assumption) | assumption); have hx16 := bt_at a0 qa; replace p16 := eq_true p16; replace q16 := eq_true q16; have p19 : 0 ≤ (qa : Int) := of_decide_eq_true (by first | (with_reducible assumption) | assumption); have q19 : qa < (a0.size : Int) := of_decide_eq_true (by first | (with_reducible assumption) | assumption); have hx19 := bt_at a0 qa; replace p19 := eq_true p19; replace q19 := eq_true q19; have p21 : 0 ≤ (qa : Int) := of_decide_eq_true (by first | (with_reducible assumption) | assumption); have q21 : qa < (a0.size : Int) := of_decide_eq_true (by first | (with_reducible assumption) | assumption); have hx21 := bt_at a0 qa; replace p21 := eq_true p21; replace q21 := eq_true q21
               go_wp2
               go_ret
               exact ⟨by first | rfl | (simp; done) | (simp [*]; done), by repeat (first | exact Drawn0.refl _ | apply Drawn0.step)⟩
              ·rw [if_neg c22] at H
               have c22b0 : ((bt a0 qa) == 63) = false := beq_eq_false_iff_ne.mpr c22; have c22b1 : ((bt a0 qa) != 63) = true := bne_iff_ne.mpr c22; have H' := Aside0.mk H; clear H; have p10 : 0 ≤ (qa : Int) := of_decide_eq_true (by first | (with_reducible assumption) | assumption); have q10 : qa < (a0.size : Int) := of_decide_eq_true (by first | (with_reducible assumption) | assumption); have hx10 := bt_at a0 qa; replace p10 := eq_true p10; replace q10 := eq_true q10; have p12 : 0 ≤ (qa : Int) := of_decide_eq_true (by first | (with_reducible assumption) | assumption); have q12 : qa < (a0.size : Int) := of_decide_eq_true (by first | (with_reducible assumption) | assumption); have hx12 := bt_at a0 qa; replace p12 := eq_true p12; replace q12 := eq_true q12; have p14 : 0 ≤ (qa : Int) := of_decide_eq_true (by first | (with_reducible assumption) | assumption); have q14 : qa < (a0.size : Int) := of_decide_eq_true (by first | (with_reducible assumption) | assumption); have hx14 := bt_at a0 qa; replace p14 := eq_true p14; replace q14 := eq_true q14; have p16 : 0 ≤ (qa : Int) := of_decide_eq_true (by first | (with_reducible assumption) | assumption); have q16 : qa < (a0.size : Int) := of_decide_eq_true (by first | (with_reducible assumption) | assumption); have hx16 := bt_at a0 qa; replace p16 := eq_true p16; replace q16 := eq_true q16; have p19 : 0 ≤ (qa : Int) := of_decide_eq_true (by first | (with_reducible assumption) | assumption); have q19 : qa < (a0.size : Int) := of_decide_eq_true (by first | (with_reducible assumption) | assumption); have hx19 := bt_at a0 qa; replace p19 := eq_true p19; replace q19 := eq_true q19; have p21 : 0 ≤ (qa : Int) := of_decide_eq_true (by first | (with_reducible assumption) | assumption); have q21 : qa < (a0.size : Int) := of_decide_eq_true (by first | (with_reducible assumption) | assumption); have hx21 := bt_at a0 qa; replace p21 := eq_true p21; replace q21 := eq_true q21
               go_wp2
               go_roundg k2
               case measure => have := HJ2.out; have := HK2.out; omega
               case rel => exact ⟨(wrap64 (qa + 1)), (by first | rfl | (simp; done) | (simp [*]; done)), H', ⟨by have := HJ2.out; have := HK2.out; omega⟩, by repeat (first | exact Drawn0.refl _ | apply Drawn0.step)⟩
       ·rw [if_neg c9] at H
        exact absurd H (by simp)
      ·rw [if_neg c8] at H
       have c8b0 : decide (qa < (a0.size : Int)) = false := decide_eq_false c8; clear c8; obtain rfl := Option.some.inj H
       go_wp2
       go_ret
       exact ⟨by first | rfl | (simp; done) | (simp [*]; done), by repeat (first | exact Drawn0.refl _ | apply Drawn0.step)⟩

end Go.Proofs.YtkdghhkpmkfjhaaDoor.P


namespace Go.Proofs.YtkdghhkpmkfjhaaDoor.P
open Go.RowKit Go.Proofs.YtkdghhkpmkfjhaaDoorW.PrintWords Go.Proofs.YtkdghhkpmkfjhaaDoorW.PrintLast Go.Proofs.YtkdghhkpmkfjhaaDoorW.PrintMore
attribute [local go_sem] max2_int min2_int max_two min_two max_three min_three max_four min_four
set_option linter.unusedVariables false
set_option linter.unusedSimpArgs false

/-! ### spec_l4Ok: function 74 -/
def spec_l4Ok.l0 : Nat → Bool → List ByteArray → Int → Option (Bool)
 | 0, _, _, _ => none
 | k + 1, x1, x5, x6 => if x6 < (x5.length : Int) then (if 0 ≤ x6 then ((spec_l4PartOk.f k (rdOf ByteArray.empty x5 x6) x1).bind fun t120 => (if t120 = true then (spec_l4Ok.l0 k x1 x5 (wrap64 (x6 + 1))) else (some false))) else (none)) else (some true)
def spec_l4Ok.f (k : Nat) (a0 : ByteArray) (a1 : Bool) : Option (Bool) := if (a0.size : Int) > 126 then (some false) else ((spec_l4Parts.f k a0).bind fun t116 => (if (t116.length : Int) > 6 then (some false) else (spec_l4Ok.l0 k a1 t116 0)))
theorem spec_l4Ok.mono_l : ∀ k, (∀ y0 y1 y2, LeO (spec_l4Ok.l0 k y0 y1 y2) (spec_l4Ok.l0 (k + 1) y0 y1 y2))
 | 0 => fun _ _ _ r h => by simp [spec_l4Ok.l0] at h
 | k + 1 => by
  have ih0 := spec_l4Ok.mono_l k
  ·intro y0 y1 y2
   unfold spec_l4Ok.l0
   repeat' first
   | (with_reducible exact ih0 _ _ _)
   | (with_reducible exact spec_l4PartOk.mono _ _ _)
   | (with_reducible exact spec_l4Parts.mono _ _)
   | (with_reducible exact LeO.refl _)
   | (with_reducible exact LeO.none _)
   | (with_reducible refine LeO.ite ?_ ?_)
   | (with_reducible refine LeO.bind ?_ (fun _ => ?_))
   | exact ih0 _ _ _
   | exact spec_l4PartOk.mono _ _ _
   | exact spec_l4Parts.mono _ _
   | exact LeO.none _
   | refine LeO.ite ?_ ?_
   | refine LeO.bind ?_ (fun _ => ?_)
theorem spec_l4Ok.mono : ∀ a0 a1 k, LeO (spec_l4Ok.f k a0 a1) (spec_l4Ok.f (k + 1) a0 a1) := by
 intro a0 a1 k; have ih0 := spec_l4Ok.mono_l k
 unfold spec_l4Ok.f
 repeat' first
   | (with_reducible exact ih0 _ _ _)
   | (with_reducible exact spec_l4PartOk.mono _ _ _)
   | (with_reducible exact spec_l4Parts.mono _ _)
   | (with_reducible exact LeO.refl _)
   | (with_reducible exact LeO.none _)
   | (with_reducible refine LeO.ite ?_ ?_)
   | (with_reducible refine LeO.bind ?_ (fun _ => ?_))
   | exact ih0 _ _ _
   | exact spec_l4PartOk.mono _ _ _
   | exact spec_l4Parts.mono _ _
   | exact LeO.none _
   | refine LeO.ite ?_ ?_
   | refine LeO.bind ?_ (fun _ => ?_)
set_option maxHeartbeats 8000000 in
set_option maxRecDepth 100000 in
theorem spec_l4Ok.calls (k : Nat) (a0 : ByteArray) (a1 : Bool) (r : Bool) (w : World) (h : spec_l4Ok.f k a0 a1 = some r) :
  Calls Tryd.prog 74 #[.string a0, .bool a1] w fun e w' => e = .returned (.bool r) ∧ Below w.heap.size w w' := by
 have HB := Aside0.mk (Below.refl w.heap.size w); have H : (if (a0.size : Int) > 126 then (some false) else ((spec_l4Parts.f k a0).bind fun t116 => (if (t116.length : Int) > 6 then (some false) else (spec_l4Ok.l0 k a1 t116 0)))) = some r := h; clear h
 by_cases c3 : (a0.size : Int) > 126
 ·rw [if_pos c3] at H
  have c3b0 : decide (126 < (a0.size : Int)) = true := decide_eq_true c3; have c3b1 : decide (126 < a0.size) = true := decide_eq_true (by omega); clear c3; obtain rfl := Option.some.inj H
  go_enter Tryd.func74, Tryd.ntmps74
  go_wp2
  go_ret
  exact ⟨by first | rfl | (simp [errW_none, errW_some] <;> rfl) | (simp [*, errW_none, errW_some] <;> rfl), by repeat (first | (with_reducible first | exact HB.out | apply below_alloc | apply pw_below_drewN | apply below_drew1) | exact HB.out)⟩
 ·rw [if_neg c3] at H
  have c3b0 : decide (126 < (a0.size : Int)) = false := decide_eq_false c3; have c3b1 : decide (126 < a0.size) = false := decide_eq_false (by omega); clear c3; replace H := Option.bind_eq_some_iff.mp H; obtain ⟨t116, A40, H⟩ := H; replace H : (if (t116.length : Int) > 6 then (some false) else (spec_l4Ok.l0 k a1 t116 0)) = some r := H; have A4 := Aside0.mk A40; clear A40
  by_cases c5 : (t116.length : Int) > 6
  ·rw [if_pos c5] at H
   have c5b0 : decide (6 < (t116.length : Int)) = true := decide_eq_true c5; have c5b1 : decide (6 < t116.length) = true := decide_eq_true (by omega); clear c5; obtain rfl := Option.some.inj H
   go_enter Tryd.func74, Tryd.ntmps74
   go_wp2_with (first | ((with_reducible refine gate_callee (f := 85) rfl ?_); refine goesL_ (some 11) rfl rfl Tryd.func85 (by kernel_rfl) rfl #[.string a0] rfl (by (try simp only [List.map_toArray, List.map_cons, List.map_nil]); first | done | rfl | (simp only [List.length_drop, List.length_take]; rfl)) ?_; (with_reducible refine (spec_l4Parts.calls k a0 t116 _ A4.out).mono ?_); rintro e w6 ⟨v117, rfl, ho0, hb⟩; refine ⟨_, rfl, ?_⟩; have n0_ := Aside0.mk (Kd.R_lower ho0 (below_size (by repeat (first | (with_reducible first | exact HB.out | apply below_alloc | apply pw_below_drewN | apply below_drew1) | exact HB.out)))); have n1_ := Aside0.mk (below_step (by repeat (first | (with_reducible first | exact HB.out | apply below_alloc | apply pw_below_drewN | apply below_drew1) | exact HB.out)) hb); clear HB; have HO118 := n0_; have HB := n1_; clear n0_ n1_; (try clear hb); (try clear hb2); (try clear hk); (try clear hi); (try clear ho0); obtain ⟨Ao7, co7, eo7⟩ := Kd.R_slice HO118.out; subst eo7))
   go_ret
   exact ⟨by first | rfl | (simp [errW_none, errW_some] <;> rfl) | (simp [*, errW_none, errW_some] <;> rfl), by repeat (first | (with_reducible first | exact HB.out | apply below_alloc | apply pw_below_drewN | apply below_drew1) | exact HB.out)⟩
  ·rw [if_neg c5] at H
   have c5b0 : decide (6 < (t116.length : Int)) = false := decide_eq_false c5; have c5b1 : decide (6 < t116.length) = false := decide_eq_false (by omega); clear c5; have H' := Aside0.mk H; clear H
   go_enter Tryd.func74, Tryd.ntmps74
   go_wp2_with (first | ((with_reducible refine gate_callee (f := 85) rfl ?_); refine goesL_ (some 11) rfl rfl Tryd.func85 (by kernel_rfl) rfl #[.string a0] rfl (by (try simp only [List.map_toArray, List.map_cons, List.map_nil]); first | done | rfl | (simp only [List.length_drop, List.length_take]; rfl)) ?_; (with_reducible refine (spec_l4Parts.calls k a0 t116 _ A4.out).mono ?_); rintro e w8 ⟨v117, rfl, ho0, hb⟩; refine ⟨_, rfl, ?_⟩; have n0_ := Aside0.mk (Kd.R_lower ho0 (below_size (by repeat (first | (with_reducible first | exact HB.out | apply below_alloc | apply pw_below_drewN | apply below_drew1) | exact HB.out)))); have n1_ := Aside0.mk (below_step (by repeat (first | (with_reducible first | exact HB.out | apply below_alloc | apply pw_below_drewN | apply below_drew1) | exact HB.out)) hb); clear HB; have HO118 := n0_; have HB := n1_; clear n0_ n1_; (try clear hb); (try clear hb2); (try clear hk); (try clear hi); (try clear ho0); obtain ⟨Ao9, co9, eo9⟩ := Kd.R_slice HO118.out; subst eo9))
   go_loopg [6] k (fun kq v6 w' => ∃ (qa : Int), v6 = .int .i64 qa ∧ Aside0 (spec_l4Ok.l0 kq a1 t116 qa = some r) ∧ Aside0 (kq ≤ k) ∧ Aside0 (Kd.R Kd.string 9 w' w.heap.size (fun _ => True) (.slice Ao9 t116.length co9) t116) ∧ Aside0 (Below w.heap.size w w'))
   case atStart => exact ⟨(0), (by first | rfl | (simp; done) | (simp [*]; done)), H', ⟨Nat.le_refl _⟩, ⟨by (with_reducible repeat (first | apply Kd.R_alloc | apply Kd.R_drewN | apply Kd.R_drew)); exact HO118.out⟩, ⟨by repeat (first | (with_reducible first | exact HB.out | apply below_alloc | apply pw_below_drewN | apply below_drew1) | exact HB.out)⟩⟩
   case round =>
    clear H'; (try clear p2); (try clear c3); (try clear c3b0); (try clear c3b1); (try clear c5); (try clear c5b0); (try clear c5b1); (try clear c7); (try clear c8); obtain ⟨qa, rfl, HA, HK1, HO_5, HB⟩ := hrel
    cases gk with
    | zero => exact absurd HA.out (by simp [spec_l4Ok.l0])
    | succ k1 =>
     have H := HA.out; clear HA; simp only [spec_l4Ok.l0] at H
     by_cases c10 : qa < (t116.length : Int)
     ·rw [if_pos c10] at H
      have c10b0 : decide (qa < (t116.length : Int)) = true := decide_eq_true c10; clear c10
      by_cases c11 : 0 ≤ qa
      ·rw [if_pos c11] at H
       have c11b0 : decide (0 ≤ qa) = true := decide_eq_true c11; clear c11; replace H := Option.bind_eq_some_iff.mp H; obtain ⟨t120, A120, H⟩ := H; replace H : (if t120 = true then (spec_l4Ok.l0 k1 a1 t116 (wrap64 (qa + 1))) else (some false)) = some r := H; have A12 := Aside0.mk A120; clear A120
       by_cases c13 : t120 = true
       ·subst c13
        have H1 : (spec_l4Ok.l0 k1 a1 t116 (wrap64 (qa + 1))) = some r := by rw [if_pos rfl] at H; exact H
        clear H; have H := H1; clear H1; have H' := Aside0.mk H; clear H; have p119 : 0 ≤ (qa : Int) := of_decide_eq_true (by first | (with_reducible assumption) | assumption); have q119 : qa < (t116.length : Int) := of_decide_eq_true (by first | (with_reducible assumption) | assumption); obtain ⟨ad119, e119, hx119_0⟩ := Kd.at_string (Kd.R_reads' HO_5.out).2.2 qa p119 q119
        cases e119
        replace p119 := eq_true p119; replace q119 := eq_true q119
        go_wp2_with (first | ((with_reducible refine gate_callee (f := 92) rfl ?_); refine goesL_ (some 26) rfl rfl Tryd.func92 (by kernel_rfl) rfl #[.string (rdOf ByteArray.empty t116 qa), .bool a1] rfl (by (try simp only [List.map_toArray, List.map_cons, List.map_nil]); first | done | rfl | (simp only [List.length_drop, List.length_take]; rfl)) ?_; (with_reducible refine (spec_l4PartOk.calls k1 (rdOf ByteArray.empty t116 qa) a1 true _ A12.out).mono ?_); rintro e w' ⟨rfl, ⟨nd, rfl⟩⟩; refine ⟨_, rfl, ?_⟩))
        go_roundg k1
        case measure => have := HK1.out; omega
        case rel => exact ⟨(wrap64 (qa + 1)), (by first | rfl | (simp; done) | (simp [*]; done)), H', ⟨by have := HK1.out; omega⟩, ⟨by (with_reducible repeat (first | apply Kd.R_alloc | apply Kd.R_drewN | apply Kd.R_drew)); exact HO_5.out⟩, ⟨by repeat (first | (with_reducible first | exact HB.out | apply below_alloc | apply pw_below_drewN | apply below_drew1) | exact HB.out)⟩⟩
       ·replace c13 := Bool.eq_false_iff.mpr c13; subst c13
        have H1 : (some false) = some r := by rw [if_neg (show ¬ (false = true) by decide)] at H; exact H
        clear H; have H := H1; clear H1; obtain rfl := Option.some.inj H; have p119 : 0 ≤ (qa : Int) := of_decide_eq_true (by first | (with_reducible assumption) | assumption); have q119 : qa < (t116.length : Int) := of_decide_eq_true (by first | (with_reducible assumption) | assumption); obtain ⟨ad119, e119, hx119_0⟩ := Kd.at_string (Kd.R_reads' HO_5.out).2.2 qa p119 q119
        cases e119
        replace p119 := eq_true p119; replace q119 := eq_true q119
        go_wp2_with (first | ((with_reducible refine gate_callee (f := 92) rfl ?_); refine goesL_ (some 26) rfl rfl Tryd.func92 (by kernel_rfl) rfl #[.string (rdOf ByteArray.empty t116 qa), .bool a1] rfl (by (try simp only [List.map_toArray, List.map_cons, List.map_nil]); first | done | rfl | (simp only [List.length_drop, List.length_take]; rfl)) ?_; (with_reducible refine (spec_l4PartOk.calls k1 (rdOf ByteArray.empty t116 qa) a1 false _ A12.out).mono ?_); rintro e w' ⟨rfl, ⟨nd, rfl⟩⟩; refine ⟨_, rfl, ?_⟩))
        go_ret
        exact ⟨by first | rfl | (simp [errW_none, errW_some] <;> rfl) | (simp [*, errW_none, errW_some] <;> rfl), by repeat (first | (with_reducible first | exact HB.out | apply below_alloc | apply pw_below_drewN | apply below_drew1) | exact HB.out)⟩
      ·rw [if_neg c11] at H
       exact absurd H (by simp)
     ·rw [if_neg c10] at H
      have c10b0 : decide (qa < (t116.length : Int)) = false := decide_eq_false c10; clear c10; obtain rfl := Option.some.inj H
      go_wp2
      go_ret
      exact ⟨by first | rfl | (simp [errW_none, errW_some] <;> rfl) | (simp [*, errW_none, errW_some] <;> rfl), by repeat (first | (with_reducible first | exact HB.out | apply below_alloc | apply pw_below_drewN | apply below_drew1) | exact HB.out)⟩

end Go.Proofs.YtkdghhkpmkfjhaaDoor.P


namespace Go.Proofs.YtkdghhkpmkfjhaaDoor.P
open Go.RowKit Go.Proofs.YtkdghhkpmkfjhaaDoorW.PrintWords Go.Proofs.YtkdghhkpmkfjhaaDoorW.PrintLast Go.Proofs.YtkdghhkpmkfjhaaDoorW.PrintMore
attribute [local go_sem] max2_int min2_int max_two min_two max_three min_three max_four min_four
set_option linter.unusedVariables false
set_option linter.unusedSimpArgs false

/-! ### spec_ValidGlob: function 83 -/
def spec_ValidGlob.f (k : Nat) (a0 : ByteArray) : Option (Bool) := (spec_l4Ok.f k a0 true).bind fun t493 => (some t493)
theorem spec_ValidGlob.mono : ∀ a0 k, LeO (spec_ValidGlob.f k a0) (spec_ValidGlob.f (k + 1) a0) := by
 intro a0 k
 unfold spec_ValidGlob.f
 repeat' first
   | (with_reducible exact spec_l4Ok.mono _ _ _)
   | (with_reducible exact LeO.refl _)
   | (with_reducible exact LeO.none _)
   | (with_reducible refine LeO.ite ?_ ?_)
   | (with_reducible refine LeO.bind ?_ (fun _ => ?_))
   | exact spec_l4Ok.mono _ _ _
   | exact LeO.none _
   | refine LeO.ite ?_ ?_
   | refine LeO.bind ?_ (fun _ => ?_)
set_option maxHeartbeats 8000000 in
set_option maxRecDepth 100000 in
theorem spec_ValidGlob.calls (k : Nat) (a0 : ByteArray) (r : Bool) (w : World) (h : spec_ValidGlob.f k a0 = some r) :
  Calls Tryd.prog 83 #[.string a0] w fun e w' => e = .returned (.bool r) ∧ Below w.heap.size w w' := by
 have HB := Aside0.mk (Below.refl w.heap.size w); have H : ((spec_l4Ok.f k a0 true).bind fun t493 => (some t493)) = some r := h; clear h; replace H := Option.bind_eq_some_iff.mp H; obtain ⟨t493, A20, H⟩ := H; replace H : (some t493) = some r := H; have A2 := Aside0.mk A20; clear A20; obtain rfl := Option.some.inj H
 go_enter Tryd.func83, Tryd.ntmps83
 go_wp2_with (first | ((with_reducible refine gate_callee (f := 74) rfl ?_); refine goesL_ (some 4) rfl rfl Tryd.func74 (by kernel_rfl) rfl #[.string a0, .bool true] rfl (by (try simp only [List.map_toArray, List.map_cons, List.map_nil]); first | done | rfl | (simp only [List.length_drop, List.length_take]; rfl)) ?_; (with_reducible refine (spec_l4Ok.calls k a0 true t493 _ A2.out).mono ?_); rintro e w3 ⟨rfl, hb⟩; refine ⟨_, rfl, ?_⟩; have n0_ := Aside0.mk (below_step (by repeat (first | (with_reducible first | exact HB.out | apply below_alloc | apply pw_below_drewN | apply below_drew1) | exact HB.out)) hb); clear HB; have HB := n0_; clear n0_; (try clear hb); (try clear hb2); (try clear hk); (try clear hi)))
 go_ret
 exact ⟨by first | rfl | (simp [errW_none, errW_some] <;> rfl) | (simp [*, errW_none, errW_some] <;> rfl), by repeat (first | (with_reducible first | exact HB.out | apply below_alloc | apply pw_below_drewN | apply below_drew1) | exact HB.out)⟩

end Go.Proofs.YtkdghhkpmkfjhaaDoor.P


namespace Go.Proofs.YtkdghhkpmkfjhaaDoor.P
open Go.RowKit Go.Proofs.YtkdghhkpmkfjhaaDoorW.PrintWords Go.Proofs.YtkdghhkpmkfjhaaDoorW.PrintLast Go.Proofs.YtkdghhkpmkfjhaaDoorW.PrintMore
attribute [local go_sem] max2_int min2_int max_two min_two max_three min_three max_four min_four
set_option linter.unusedVariables false
set_option linter.unusedSimpArgs false

/-! ### spec_ValidPath: function 48 -/
def spec_ValidPath.f (k : Nat) (a0 : ByteArray) : Option (Bool) := (spec_l4Ok.f k a0 false).bind fun t121 => (some t121)
theorem spec_ValidPath.mono : ∀ a0 k, LeO (spec_ValidPath.f k a0) (spec_ValidPath.f (k + 1) a0) := by
 intro a0 k
 unfold spec_ValidPath.f
 repeat' first
   | (with_reducible exact spec_l4Ok.mono _ _ _)
   | (with_reducible exact LeO.refl _)
   | (with_reducible exact LeO.none _)
   | (with_reducible refine LeO.ite ?_ ?_)
   | (with_reducible refine LeO.bind ?_ (fun _ => ?_))
   | exact spec_l4Ok.mono _ _ _
   | exact LeO.none _
   | refine LeO.ite ?_ ?_
   | refine LeO.bind ?_ (fun _ => ?_)
set_option maxHeartbeats 8000000 in
set_option maxRecDepth 100000 in
theorem spec_ValidPath.calls (k : Nat) (a0 : ByteArray) (r : Bool) (w : World) (h : spec_ValidPath.f k a0 = some r) :
  Calls Tryd.prog 48 #[.string a0] w fun e w' => e = .returned (.bool r) ∧ Below w.heap.size w w' := by
 have HB := Aside0.mk (Below.refl w.heap.size w); have H : ((spec_l4Ok.f k a0 false).bind fun t121 => (some t121)) = some r := h; clear h; replace H := Option.bind_eq_some_iff.mp H; obtain ⟨t121, A20, H⟩ := H; replace H : (some t121) = some r := H; have A2 := Aside0.mk A20; clear A20; obtain rfl := Option.some.inj H
 go_enter Tryd.func48, Tryd.ntmps48
 go_wp2_with (first | ((with_reducible refine gate_callee (f := 74) rfl ?_); refine goesL_ (some 4) rfl rfl Tryd.func74 (by kernel_rfl) rfl #[.string a0, .bool false] rfl (by (try simp only [List.map_toArray, List.map_cons, List.map_nil]); first | done | rfl | (simp only [List.length_drop, List.length_take]; rfl)) ?_; (with_reducible refine (spec_l4Ok.calls k a0 false t121 _ A2.out).mono ?_); rintro e w3 ⟨rfl, hb⟩; refine ⟨_, rfl, ?_⟩; have n0_ := Aside0.mk (below_step (by repeat (first | (with_reducible first | exact HB.out | apply below_alloc | apply pw_below_drewN | apply below_drew1) | exact HB.out)) hb); clear HB; have HB := n0_; clear n0_; (try clear hb); (try clear hb2); (try clear hk); (try clear hi)))
 go_ret
 exact ⟨by first | rfl | (simp [errW_none, errW_some] <;> rfl) | (simp [*, errW_none, errW_some] <;> rfl), by repeat (first | (with_reducible first | exact HB.out | apply below_alloc | apply pw_below_drewN | apply below_drew1) | exact HB.out)⟩

end Go.Proofs.YtkdghhkpmkfjhaaDoor.P


namespace Go.Proofs.YtkdghhkpmkfjhaaDoor.P
open Go.RowKit Go.Proofs.YtkdghhkpmkfjhaaDoorW.PrintWords Go.Proofs.YtkdghhkpmkfjhaaDoorW.PrintLast Go.Proofs.YtkdghhkpmkfjhaaDoorW.PrintMore
attribute [local go_sem] max2_int min2_int max_two min_two max_three min_three max_four min_four
set_option linter.unusedVariables false
set_option linter.unusedSimpArgs false

/-! ### spec_Match: function 67 -/
def spec_Match.f (k : Nat) (a0 : ByteArray) (a1 : ByteArray) : Option (Bool) := (spec_ValidGlob.f k a0).bind fun t509 => (if t509 = true then ((spec_ValidPath.f k a1).bind fun t510 => (if t510 = true then ((spec_l4Parts.f k a0).bind fun t511 => ((spec_l4Parts.f k a1).bind fun t514 => ((spec_l4Match.f k t511 t514).bind fun t517 => (some t517)))) else (some false))) else (some false))
theorem spec_Match.mono : ∀ a0 a1 k, LeO (spec_Match.f k a0 a1) (spec_Match.f (k + 1) a0 a1) := by
 intro a0 a1 k
 unfold spec_Match.f
 repeat' first
   | (with_reducible exact spec_ValidGlob.mono _ _)
   | (with_reducible exact spec_ValidPath.mono _ _)
   | (with_reducible exact spec_l4Match.mono _ _ _)
   | (with_reducible exact spec_l4Parts.mono _ _)
   | (with_reducible exact LeO.refl _)
   | (with_reducible exact LeO.none _)
   | (with_reducible refine LeO.ite ?_ ?_)
   | (with_reducible refine LeO.bind ?_ (fun _ => ?_))
   | exact spec_ValidGlob.mono _ _
   | exact spec_ValidPath.mono _ _
   | exact spec_l4Match.mono _ _ _
   | exact spec_l4Parts.mono _ _
   | exact LeO.none _
   | refine LeO.ite ?_ ?_
   | refine LeO.bind ?_ (fun _ => ?_)
set_option maxHeartbeats 8000000 in
set_option maxRecDepth 100000 in
theorem spec_Match.calls (k : Nat) (a0 : ByteArray) (a1 : ByteArray) (r : Bool) (w : World) (h : spec_Match.f k a0 a1 = some r) :
  Calls Tryd.prog 67 #[.string a0, .string a1] w fun e w' => e = .returned (.bool r) ∧ Below w.heap.size w w' := by
 have HB := Aside0.mk (Below.refl w.heap.size w); have H : ((spec_ValidGlob.f k a0).bind fun t509 => (if t509 = true then ((spec_ValidPath.f k a1).bind fun t510 => (if t510 = true then ((spec_l4Parts.f k a0).bind fun t511 => ((spec_l4Parts.f k a1).bind fun t514 => ((spec_l4Match.f k t511 t514).bind fun t517 => (some t517)))) else (some false))) else (some false))) = some r := h; clear h; replace H := Option.bind_eq_some_iff.mp H; obtain ⟨t509, A30, H⟩ := H; replace H : (if t509 = true then ((spec_ValidPath.f k a1).bind fun t510 => (if t510 = true then ((spec_l4Parts.f k a0).bind fun t511 => ((spec_l4Parts.f k a1).bind fun t514 => ((spec_l4Match.f k t511 t514).bind fun t517 => (some t517)))) else (some false))) else (some false)) = some r := H; have A3 := Aside0.mk A30; clear A30
 by_cases c4 : t509 = true
 ·subst c4
  have H1 : ((spec_ValidPath.f k a1).bind fun t510 => (if t510 = true then ((spec_l4Parts.f k a0).bind fun t511 => ((spec_l4Parts.f k a1).bind fun t514 => ((spec_l4Match.f k t511 t514).bind fun t517 => (some t517)))) else (some false))) = some r := by rw [if_pos rfl] at H; exact H
  clear H; have H := H1; clear H1; replace H := Option.bind_eq_some_iff.mp H; obtain ⟨t510, A50, H⟩ := H; replace H : (if t510 = true then ((spec_l4Parts.f k a0).bind fun t511 => ((spec_l4Parts.f k a1).bind fun t514 => ((spec_l4Match.f k t511 t514).bind fun t517 => (some t517)))) else (some false)) = some r := H; have A5 := Aside0.mk A50; clear A50
  by_cases c6 : t510 = true
  ·subst c6
   have H1 : ((spec_l4Parts.f k a0).bind fun t511 => ((spec_l4Parts.f k a1).bind fun t514 => ((spec_l4Match.f k t511 t514).bind fun t517 => (some t517)))) = some r := by rw [if_pos rfl] at H; exact H
   clear H; have H := H1; clear H1; replace H := Option.bind_eq_some_iff.mp H; obtain ⟨t511, A70, H⟩ := H; replace H : ((spec_l4Parts.f k a1).bind fun t514 => ((spec_l4Match.f k t511 t514).bind fun t517 => (some t517))) = some r := H; have A7 := Aside0.mk A70; clear A70; replace H := Option.bind_eq_some_iff.mp H; obtain ⟨t514, A80, H⟩ := H; replace H : ((spec_l4Match.f k t511 t514).bind fun t517 => (some t517)) = some r := H; have A8 := Aside0.mk A80; clear A80; replace H := Option.bind_eq_some_iff.mp H; obtain ⟨t517, A90, H⟩ := H; replace H : (some t517) = some r := H; have A9 := Aside0.mk A90; clear A90; obtain rfl := Option.some.inj H
   go_enter Tryd.func67, Tryd.ntmps67
   go_wp2_with (first | ((with_reducible refine gate_callee (f := 83) rfl ?_); refine goesL_ (some 6) rfl rfl Tryd.func83 (by kernel_rfl) rfl #[.string a0] rfl (by (try simp only [List.map_toArray, List.map_cons, List.map_nil]); first | done | rfl | (simp only [List.length_drop, List.length_take]; rfl)) ?_; (with_reducible refine (spec_ValidGlob.calls k a0 true _ A3.out).mono ?_); rintro e w10 ⟨rfl, hb⟩; refine ⟨_, rfl, ?_⟩; have n0_ := Aside0.mk (below_step (by repeat (first | (with_reducible first | exact HB.out | apply below_alloc | apply pw_below_drewN | apply below_drew1) | exact HB.out)) hb); clear HB; have HB := n0_; clear n0_; (try clear hb); (try clear hb2); (try clear hk); (try clear hi)) | (go_at_call 48; (with_reducible refine (spec_ValidPath.calls k a1 true _ A5.out).mono ?_); rintro e w11 ⟨rfl, hb⟩; have n0_ := Aside0.mk (below_step (by repeat (first | (with_reducible first | exact HB.out | apply below_alloc | apply pw_below_drewN | apply below_drew1) | exact HB.out)) hb); clear HB; have HB := n0_; clear n0_; (try clear hb); (try clear hb2); (try clear hk); (try clear hi)) | (go_at_call 85; (with_reducible refine (spec_l4Parts.calls k a0 t511 _ A7.out).mono ?_); rintro e w12 ⟨v512, rfl, ho0, hb⟩; have n0_ := Aside0.mk (Kd.R_lower ho0 (below_size (by repeat (first | (with_reducible first | exact HB.out | apply below_alloc | apply pw_below_drewN | apply below_drew1) | exact HB.out)))); have n1_ := Aside0.mk (below_step (by repeat (first | (with_reducible first | exact HB.out | apply below_alloc | apply pw_below_drewN | apply below_drew1) | exact HB.out)) hb); clear HB; have HO513 := n0_; have HB := n1_; clear n0_ n1_; (try clear hb); (try clear hb2); (try clear hk); (try clear hi); (try clear ho0)) | (go_at_call 85; (with_reducible refine (spec_l4Parts.calls k a1 t514 _ A8.out).mono ?_); rintro e w13 ⟨v515, rfl, ho0, hb⟩; have n0_ := Aside0.mk (Kd.R_elder' (by (with_reducible repeat (first | apply Kd.R_alloc | apply Kd.R_drewN | apply Kd.R_drew)); exact HO513.out) (Kd.R_base ho0) hb); have n1_ := Aside0.mk (Kd.R_lower (Kd.R_new' ho0 (Kd.R_lt (by (with_reducible repeat (first | apply Kd.R_alloc | apply Kd.R_drewN | apply Kd.R_drew)); exact HO513.out))) (below_size (by repeat (first | (with_reducible first | exact HB.out | apply below_alloc | apply pw_below_drewN | apply below_drew1) | exact HB.out)))); have n2_ := Aside0.mk (below_step (by repeat (first | (with_reducible first | exact HB.out | apply below_alloc | apply pw_below_drewN | apply below_drew1) | exact HB.out)) hb); clear HO513; clear HB; have HO513 := n0_; have HO516 := n1_; have HB := n2_; clear n0_ n1_ n2_; (try clear hb); (try clear hb2); (try clear hk); (try clear hi); (try clear ho0); obtain ⟨Ao14, co14, eo14⟩ := Kd.R_slice HO513.out; subst eo14; obtain ⟨Ao15, co15, eo15⟩ := Kd.R_slice HO516.out; subst eo15) | (go_at_call 84; (with_reducible refine (spec_l4Match.calls k _ _ t511 _ _ t514 t517 _ ?side1 ?side2 ?side3 ?side4 A9.out).mono ?_); (case side1 => repeat (first | exact (Kd.R_reads' HO513.out).2.2 | (with_reducible refine Kd.C_alloc ?_ _) | (with_reducible refine Kd.C_drewN ?_ _) | (with_reducible refine Kd.C_drew ?_))); (case side2 => exact (Kd.R_reads' HO513.out).2.1); (case side3 => repeat (first | exact (Kd.R_reads' HO516.out).2.2 | (with_reducible refine Kd.C_alloc ?_ _) | (with_reducible refine Kd.C_drewN ?_ _) | (with_reducible refine Kd.C_drew ?_))); (case side4 => exact (Kd.R_reads' HO516.out).2.1); rintro e w16 ⟨rfl, hb⟩; have n0_ := Aside0.mk (Kd.R_below (by (with_reducible repeat (first | apply Kd.R_alloc | apply Kd.R_drewN | apply Kd.R_drew)); exact HO513.out) hb); have n1_ := Aside0.mk (Kd.R_below (by (with_reducible repeat (first | apply Kd.R_alloc | apply Kd.R_drewN | apply Kd.R_drew)); exact HO516.out) hb); have n2_ := Aside0.mk (below_step (by repeat (first | (with_reducible first | exact HB.out | apply below_alloc | apply pw_below_drewN | apply below_drew1) | exact HB.out)) hb); clear HO513; clear HO516; clear HB; have HO513 := n0_; have HO516 := n1_; have HB := n2_; clear n0_ n1_ n2_; (try clear hb); (try clear hb2); (try clear hk); (try clear hi)))
   go_ret
   exact ⟨by first | rfl | (simp [errW_none, errW_some] <;> rfl) | (simp [*, errW_none, errW_some] <;> rfl), by repeat (first | (with_reducible first | exact HB.out | apply below_alloc | apply pw_below_drewN | apply below_drew1) | exact HB.out)⟩
  ·replace c6 := Bool.eq_false_iff.mpr c6; subst c6
   have H1 : (some false) = some r := by rw [if_neg (show ¬ (false = true) by decide)] at H; exact H
   clear H; have H := H1; clear H1; obtain rfl := Option.some.inj H
   go_enter Tryd.func67, Tryd.ntmps67
   go_wp2_with (first | ((with_reducible refine gate_callee (f := 83) rfl ?_); refine goesL_ (some 6) rfl rfl Tryd.func83 (by kernel_rfl) rfl #[.string a0] rfl (by (try simp only [List.map_toArray, List.map_cons, List.map_nil]); first | done | rfl | (simp only [List.length_drop, List.length_take]; rfl)) ?_; (with_reducible refine (spec_ValidGlob.calls k a0 true _ A3.out).mono ?_); rintro e w17 ⟨rfl, hb⟩; refine ⟨_, rfl, ?_⟩; have n0_ := Aside0.mk (below_step (by repeat (first | (with_reducible first | exact HB.out | apply below_alloc | apply pw_below_drewN | apply below_drew1) | exact HB.out)) hb); clear HB; have HB := n0_; clear n0_; (try clear hb); (try clear hb2); (try clear hk); (try clear hi)) | (go_at_call 48; (with_reducible refine (spec_ValidPath.calls k a1 false _ A5.out).mono ?_); rintro e w18 ⟨rfl, hb⟩; have n0_ := Aside0.mk (below_step (by repeat (first | (with_reducible first | exact HB.out | apply below_alloc | apply pw_below_drewN | apply below_drew1) | exact HB.out)) hb); clear HB; have HB := n0_; clear n0_; (try clear hb); (try clear hb2); (try clear hk); (try clear hi)))
   go_ret
   exact ⟨by first | rfl | (simp [errW_none, errW_some] <;> rfl) | (simp [*, errW_none, errW_some] <;> rfl), by repeat (first | (with_reducible first | exact HB.out | apply below_alloc | apply pw_below_drewN | apply below_drew1) | exact HB.out)⟩
 ·replace c4 := Bool.eq_false_iff.mpr c4; subst c4
  have H1 : (some false) = some r := by rw [if_neg (show ¬ (false = true) by decide)] at H; exact H
  clear H; have H := H1; clear H1; obtain rfl := Option.some.inj H
  go_enter Tryd.func67, Tryd.ntmps67
  go_wp2_with (first | ((with_reducible refine gate_callee (f := 83) rfl ?_); refine goesL_ (some 6) rfl rfl Tryd.func83 (by kernel_rfl) rfl #[.string a0] rfl (by (try simp only [List.map_toArray, List.map_cons, List.map_nil]); first | done | rfl | (simp only [List.length_drop, List.length_take]; rfl)) ?_; (with_reducible refine (spec_ValidGlob.calls k a0 false _ A3.out).mono ?_); rintro e w19 ⟨rfl, hb⟩; refine ⟨_, rfl, ?_⟩; have n0_ := Aside0.mk (below_step (by repeat (first | (with_reducible first | exact HB.out | apply below_alloc | apply pw_below_drewN | apply below_drew1) | exact HB.out)) hb); clear HB; have HB := n0_; clear n0_; (try clear hb); (try clear hb2); (try clear hk); (try clear hi)))
  go_ret
  exact ⟨by first | rfl | (simp [errW_none, errW_some] <;> rfl) | (simp [*, errW_none, errW_some] <;> rfl), by repeat (first | (with_reducible first | exact HB.out | apply below_alloc | apply pw_below_drewN | apply below_drew1) | exact HB.out)⟩

end Go.Proofs.YtkdghhkpmkfjhaaDoor.P


namespace Go.Proofs.YtkdghhkpmkfjhaaDoor.P
open Go.RowKit Go.Proofs.YtkdghhkpmkfjhaaDoorW.PrintWords Go.Proofs.YtkdghhkpmkfjhaaDoorW.PrintLast Go.Proofs.YtkdghhkpmkfjhaaDoorW.PrintMore
attribute [local go_sem] max2_int min2_int max_two min_two max_three min_three max_four min_four
set_option linter.unusedVariables false
set_option linter.unusedSimpArgs false

/-! ### spec_l5Begins: function 49 -/
def spec_l5Begins.f (a0 : ByteArray) (a1 : ByteArray) : Option (Bool) := if (a1.size : Int) > (a0.size : Int) then (if 0 ≤ (a0.size : Int) then (if (a0.size : Int) ≤ (a1.size : Int) then (if (a1.extract 0 ((a0.size : Int) : Int).toNat).toList = a0.toList then (if (a0.size : Int) < (a1.size : Int) then (some ((bt a1 (a0.size : Int)) == 47)) else (none)) else (some false)) else (none)) else (none)) else (some false)
set_option maxHeartbeats 8000000 in
set_option maxRecDepth 100000 in
theorem spec_l5Begins.calls (a0 : ByteArray) (a1 : ByteArray) (r : Bool) (w : World) (h : spec_l5Begins.f a0 a1 = some r) :
  Calls Tryd.prog 49 #[.string a0, .string a1] w fun e w' => e = .returned (.bool r) ∧ Drawn0 w w' := by
 have H : (if (a1.size : Int) > (a0.size : Int) then (if 0 ≤ (a0.size : Int) then (if (a0.size : Int) ≤ (a1.size : Int) then (if (a1.extract 0 ((a0.size : Int) : Int).toNat).toList = a0.toList then (if (a0.size : Int) < (a1.size : Int) then (some ((bt a1 (a0.size : Int)) == 47)) else (none)) else (some false)) else (none)) else (none)) else (some false)) = some r := h; clear h
 by_cases c3 : (a1.size : Int) > (a0.size : Int)
 ·rw [if_pos c3] at H
  have c3b0 : decide ((a0.size : Int) < (a1.size : Int)) = true := decide_eq_true c3; have c3b1 : decide (a0.size < a1.size) = true := decide_eq_true (Int.ofNat_lt.mp c3); clear c3
  by_cases c4 : 0 ≤ (a0.size : Int)
  ·rw [if_pos c4] at H
   have c4b0 := eq_true c4; have c4b1 : decide (0 ≤ (a0.size : Int)) = true := decide_eq_true c4; clear c4
   by_cases c5 : (a0.size : Int) ≤ (a1.size : Int)
   ·rw [if_pos c5] at H
    have c5b0 := eq_true c5; have c5b1 : decide ((a0.size : Int) ≤ (a1.size : Int)) = true := decide_eq_true c5; clear c5
    by_cases c6 : (a1.extract 0 ((a0.size : Int) : Int).toNat).toList = a0.toList
    ·rw [if_pos c6] at H
     have c6b0 : ((a1.extract 0 ((a0.size : Int) : Int).toNat).toList == a0.toList) = true := beq_iff_eq.mpr c6; have c6b0n := c6b0; (try simp only [Int.toNat_natCast] at c6b0n); have c6b1 : ((a1.extract 0 ((a0.size : Int) : Int).toNat).toList != a0.toList) = false := bne_eq_false_iff_eq.mpr c6; have c6b1n := c6b1; (try simp only [Int.toNat_natCast] at c6b1n); clear c6
     by_cases c7 : (a0.size : Int) < (a1.size : Int)
     ·rw [if_pos c7] at H
      have c7b0 : decide ((a0.size : Int) < (a1.size : Int)) = true := decide_eq_true c7; have c7b1 : decide (a0.size < a1.size) = true := decide_eq_true (Int.ofNat_lt.mp c7); clear c7; obtain rfl := Option.some.inj H; have p8 : 0 ≤ ((a0.size : Int) : Int) := of_decide_eq_true (by first | (with_reducible assumption) | assumption); have q8 : (a0.size : Int) < (a1.size : Int) := of_decide_eq_true (by first | (with_reducible assumption) | assumption); have hx8 := bt_at a1 (a0.size : Int); (try have hx8n := hx8 (by omega)); (try simp only [Int.toNat_natCast] at hx8n); replace p8 := eq_true p8; replace q8 := eq_true q8
      go_enter Tryd.func49, Tryd.ntmps49
      go_wp2
      go_ret
      exact ⟨by first | rfl | (simp; done) | (simp [*]; done), by repeat (first | exact Drawn0.refl _ | apply Drawn0.step)⟩
     ·rw [if_neg c7] at H
      exact absurd H (by simp)
    ·rw [if_neg c6] at H
     have c6b0 : ((a1.extract 0 ((a0.size : Int) : Int).toNat).toList == a0.toList) = false := beq_eq_false_iff_ne.mpr c6; have c6b0n := c6b0; (try simp only [Int.toNat_natCast] at c6b0n); have c6b1 : ((a1.extract 0 ((a0.size : Int) : Int).toNat).toList != a0.toList) = true := bne_iff_ne.mpr c6; have c6b1n := c6b1; (try simp only [Int.toNat_natCast] at c6b1n); obtain rfl := Option.some.inj H
     go_enter Tryd.func49, Tryd.ntmps49
     go_wp2
     go_ret
     exact ⟨by first | rfl | (simp; done) | (simp [*]; done), by repeat (first | exact Drawn0.refl _ | apply Drawn0.step)⟩
   ·rw [if_neg c5] at H
    exact absurd H (by simp)
  ·rw [if_neg c4] at H
   exact absurd H (by simp)
 ·rw [if_neg c3] at H
  have c3b0 : decide ((a0.size : Int) < (a1.size : Int)) = false := decide_eq_false c3; have c3b1 : decide (a0.size < a1.size) = false := decide_eq_false (fun h => c3 (Int.ofNat_lt.mpr h)); clear c3; obtain rfl := Option.some.inj H
  go_enter Tryd.func49, Tryd.ntmps49
  go_wp2
  go_ret
  exact ⟨by first | rfl | (simp; done) | (simp [*]; done), by repeat (first | exact Drawn0.refl _ | apply Drawn0.step)⟩

end Go.Proofs.YtkdghhkpmkfjhaaDoor.P


namespace Go.Proofs.YtkdghhkpmkfjhaaDoor.P
open Go.RowKit Go.Proofs.YtkdghhkpmkfjhaaDoorW.PrintWords Go.Proofs.YtkdghhkpmkfjhaaDoorW.PrintLast Go.Proofs.YtkdghhkpmkfjhaaDoorW.PrintMore
attribute [local go_sem] max2_int min2_int max_two min_two max_three min_three max_four min_four
set_option linter.unusedVariables false
set_option linter.unusedSimpArgs false

abbrev tm60 := true
abbrev fm60 := false
abbrev bm60_0 : Array Bool := #[fm60, fm60, fm60, fm60, fm60, fm60, fm60, fm60, fm60, fm60, fm60, fm60, fm60, fm60, fm60, fm60, fm60, fm60, fm60, fm60, fm60, fm60, fm60, fm60, fm60, fm60]
abbrev bm60_1 : Array Bool := #[tm60, fm60, fm60, fm60, fm60, fm60, fm60, fm60, fm60, fm60, fm60, fm60, fm60, fm60, fm60, fm60, fm60, fm60, fm60, fm60, fm60, fm60, fm60, fm60, fm60, fm60]
abbrev bm60_2 : Array Bool := #[tm60, tm60, fm60, fm60, fm60, fm60, fm60, fm60, fm60, fm60, fm60, fm60, fm60, fm60, fm60, fm60, fm60, fm60, fm60, fm60, fm60, fm60, fm60, fm60, fm60, fm60]
abbrev bm60_3 : Array Bool := #[tm60, tm60, tm60, fm60, fm60, fm60, fm60, fm60, fm60, fm60, fm60, fm60, fm60, fm60, fm60, fm60, fm60, fm60, fm60, fm60, fm60, fm60, fm60, fm60, fm60, fm60]
abbrev bm60_4 : Array Bool := #[tm60, tm60, tm60, tm60, fm60, fm60, fm60, fm60, fm60, fm60, fm60, fm60, fm60, fm60, fm60, fm60, fm60, fm60, fm60, fm60, fm60, fm60, fm60, fm60, fm60, fm60]
abbrev bm60_5 : Array Bool := #[tm60, tm60, tm60, tm60, tm60, fm60, fm60, fm60, fm60, fm60, fm60, fm60, fm60, fm60, fm60, fm60, fm60, fm60, fm60, fm60, fm60, fm60, fm60, fm60, fm60, fm60]
abbrev bm60_6 : Array Bool := #[tm60, tm60, tm60, tm60, tm60, tm60, fm60, fm60, fm60, fm60, fm60, fm60, fm60, fm60, fm60, fm60, fm60, fm60, fm60, fm60, fm60, fm60, fm60, fm60, fm60, fm60]
abbrev bm60_7 : Array Bool := #[tm60, tm60, tm60, tm60, tm60, tm60, tm60, fm60, fm60, fm60, fm60, fm60, fm60, fm60, fm60, fm60, fm60, fm60, fm60, fm60, fm60, fm60, fm60, fm60, fm60, fm60]
abbrev bm60_8 : Array Bool := #[tm60, tm60, tm60, tm60, tm60, tm60, tm60, tm60, fm60, fm60, fm60, fm60, fm60, fm60, fm60, fm60, fm60, fm60, fm60, fm60, fm60, fm60, fm60, fm60, fm60, fm60]
abbrev bm60_9 : Array Bool := #[tm60, tm60, tm60, tm60, tm60, tm60, tm60, tm60, tm60, fm60, fm60, fm60, fm60, fm60, fm60, fm60, fm60, fm60, fm60, fm60, fm60, fm60, fm60, fm60, fm60, fm60]
abbrev bm60_10 : Array Bool := #[tm60, tm60, tm60, tm60, tm60, tm60, tm60, tm60, tm60, tm60, fm60, fm60, fm60, fm60, fm60, fm60, fm60, fm60, fm60, fm60, fm60, fm60, fm60, fm60, fm60, fm60]
abbrev bm60_11 : Array Bool := #[tm60, tm60, tm60, tm60, tm60, tm60, tm60, tm60, tm60, tm60, tm60, fm60, fm60, fm60, fm60, fm60, fm60, fm60, fm60, fm60, fm60, fm60, fm60, fm60, fm60, fm60]
abbrev bm60_12 : Array Bool := #[tm60, tm60, tm60, tm60, tm60, tm60, tm60, tm60, tm60, tm60, tm60, tm60, fm60, fm60, fm60, fm60, fm60, fm60, fm60, fm60, fm60, fm60, fm60, fm60, fm60, fm60]
abbrev bm60_13 : Array Bool := #[tm60, tm60, tm60, tm60, tm60, tm60, tm60, tm60, tm60, tm60, tm60, tm60, tm60, fm60, fm60, fm60, fm60, fm60, fm60, fm60, fm60, fm60, fm60, fm60, fm60, fm60]
abbrev bm60_14 : Array Bool := #[tm60, tm60, tm60, tm60, tm60, tm60, tm60, tm60, tm60, tm60, tm60, tm60, tm60, tm60, fm60, fm60, fm60, fm60, fm60, fm60, fm60, fm60, fm60, fm60, fm60, fm60]
abbrev bm60_15 : Array Bool := #[tm60, tm60, tm60, tm60, tm60, tm60, tm60, tm60, tm60, tm60, tm60, tm60, tm60, tm60, tm60, fm60, fm60, fm60, fm60, fm60, fm60, fm60, fm60, fm60, fm60, fm60]
abbrev bm60_16 : Array Bool := #[tm60, tm60, tm60, tm60, tm60, tm60, tm60, tm60, tm60, tm60, tm60, tm60, tm60, tm60, tm60, tm60, fm60, fm60, fm60, fm60, fm60, fm60, fm60, fm60, fm60, fm60]
abbrev bm60_17 : Array Bool := #[tm60, tm60, tm60, tm60, tm60, tm60, tm60, tm60, tm60, tm60, tm60, tm60, tm60, tm60, tm60, tm60, tm60, fm60, fm60, fm60, fm60, fm60, fm60, fm60, fm60, fm60]
abbrev bm60_18 : Array Bool := #[tm60, tm60, tm60, tm60, tm60, tm60, tm60, tm60, tm60, tm60, tm60, tm60, tm60, tm60, tm60, tm60, tm60, tm60, fm60, fm60, fm60, fm60, fm60, fm60, fm60, fm60]
abbrev bm60_19 : Array Bool := #[tm60, tm60, tm60, tm60, tm60, tm60, tm60, tm60, tm60, tm60, tm60, tm60, tm60, tm60, tm60, tm60, tm60, tm60, tm60, fm60, fm60, fm60, fm60, fm60, fm60, fm60]
abbrev bm60_20 : Array Bool := #[tm60, tm60, tm60, tm60, tm60, tm60, tm60, tm60, tm60, tm60, tm60, tm60, tm60, tm60, tm60, tm60, tm60, tm60, tm60, tm60, fm60, fm60, fm60, fm60, fm60, fm60]
abbrev bm60_21 : Array Bool := #[tm60, tm60, tm60, tm60, tm60, tm60, tm60, tm60, tm60, tm60, tm60, tm60, tm60, tm60, tm60, tm60, tm60, tm60, tm60, tm60, tm60, fm60, fm60, fm60, fm60, fm60]
abbrev bm60_22 : Array Bool := #[tm60, tm60, tm60, tm60, tm60, tm60, tm60, tm60, tm60, tm60, tm60, tm60, tm60, tm60, tm60, tm60, tm60, tm60, tm60, tm60, tm60, tm60, fm60, fm60, fm60, fm60]
abbrev bm60_23 : Array Bool := #[tm60, tm60, tm60, tm60, tm60, tm60, tm60, tm60, tm60, tm60, tm60, tm60, tm60, tm60, tm60, tm60, tm60, tm60, tm60, tm60, tm60, tm60, tm60, fm60, fm60, fm60]
abbrev bm60_24 : Array Bool := #[tm60, tm60, tm60, tm60, tm60, tm60, tm60, tm60, tm60, tm60, tm60, tm60, tm60, tm60, tm60, tm60, tm60, tm60, tm60, tm60, tm60, tm60, tm60, tm60, fm60, fm60]
abbrev bm60_25 : Array Bool := #[tm60, tm60, tm60, tm60, tm60, tm60, tm60, tm60, tm60, tm60, tm60, tm60, tm60, tm60, tm60, tm60, tm60, tm60, tm60, tm60, tm60, tm60, tm60, tm60, tm60, fm60]
abbrev bm60_26 : Array Bool := #[tm60, tm60, tm60, tm60, tm60, tm60, tm60, tm60, tm60, tm60, tm60, tm60, tm60, tm60, tm60, tm60, tm60, tm60, tm60, tm60, tm60, tm60, tm60, tm60, tm60, tm60]
abbrev bm60_27 : Array Bool := #[tm60, tm60, tm60, tm60, tm60, tm60, tm60, tm60, tm60, tm60, tm60, tm60, tm60, tm60, tm60, fm60, tm60, fm60, fm60, fm60, fm60, fm60, fm60, fm60, fm60, fm60]
abbrev bm60_28 : Array Bool := #[tm60, tm60, tm60, tm60, tm60, tm60, tm60, tm60, tm60, tm60, tm60, tm60, tm60, tm60, tm60, fm60, tm60, tm60, fm60, fm60, fm60, fm60, fm60, fm60, fm60, fm60]
abbrev bm60_29 : Array Bool := #[tm60, tm60, tm60, tm60, tm60, tm60, tm60, tm60, tm60, tm60, tm60, tm60, tm60, tm60, tm60, fm60, tm60, tm60, fm60, fm60, fm60, tm60, fm60, fm60, fm60, fm60]
abbrev bm60_30 : Array Bool := #[tm60, tm60, tm60, tm60, tm60, tm60, tm60, tm60, tm60, tm60, tm60, tm60, tm60, tm60, tm60, tm60, tm60, tm60, fm60, fm60, fm60, tm60, fm60, fm60, fm60, fm60]
abbrev bm60_31 : Array Bool := #[tm60, tm60, tm60, tm60, tm60, tm60, tm60, tm60, tm60, tm60, tm60, tm60, tm60, tm60, tm60, tm60, tm60, tm60, tm60, fm60, fm60, tm60, fm60, fm60, fm60, fm60]
abbrev bm60_32 : Array Bool := #[tm60, tm60, tm60, tm60, tm60, tm60, tm60, tm60, tm60, tm60, tm60, tm60, tm60, tm60, tm60, tm60, tm60, tm60, tm60, tm60, fm60, tm60, fm60, fm60, fm60, fm60]
abbrev bm60_33 : Array Bool := #[fm60, fm60, fm60, fm60, fm60, fm60, fm60, fm60, fm60]
abbrev bm60_34 : Array Bool := #[tm60, fm60, fm60, fm60, fm60, fm60, fm60, fm60, fm60]
abbrev bm60_35 : Array Bool := #[tm60, fm60, tm60, fm60, fm60, fm60, fm60, fm60, fm60]
abbrev bm60_36 : Array Bool := #[tm60, fm60, tm60, fm60, fm60, fm60, tm60, fm60, fm60]
abbrev bm60_37 : Array Bool := #[tm60, tm60, tm60, fm60, fm60, fm60, tm60, fm60, fm60]
abbrev bm60_38 : Array Bool := #[tm60, tm60, tm60, tm60, fm60, fm60, tm60, fm60, fm60]
abbrev bm60_39 : Array Bool := #[tm60, tm60, tm60, tm60, tm60, fm60, tm60, fm60, fm60]
abbrev bm60_40 : Array Bool := #[tm60, tm60, tm60, tm60, tm60, tm60, tm60, fm60, fm60]
abbrev bm60_41 : Array Bool := #[tm60, tm60, tm60, tm60, tm60, tm60, tm60, tm60, fm60]
abbrev bm60_42 : Array Bool := #[tm60, tm60, tm60, tm60, tm60, tm60, tm60, tm60, tm60]
theorem um60 : (∀ (a : Act) (d : Tmp) (v : Value), Act.put a (some d) v = { a with tmps := a.tmps.setIfInBounds d v }) ∧ (∀ (l : List Value) (i : Nat) (a : Value), l.toArray.setIfInBounds i a = (l.set i a).toArray) ∧ (∀ (x : Value) (l : List Value) (a : Value), (x :: l).set 0 a = a :: l) ∧ (∀ (x : Value) (l : List Value) (i : Nat) (a : Value), (x :: l).set (i + 1) a = x :: l.set i a) ∧ (∀ n : Int, IntKind.i64.wrap n = wrap64 n) := ⟨fun _ _ _ => rfl, fun l i a => List.setIfInBounds_toArray l i a, fun _ _ _ => rfl, fun _ _ _ _ => rfl, i64_w⟩
/-! ### spec_ValidTree: function 13 -/
mutual
def spec_ValidTree.l0 : Nat → Int → List (S45) → Option (Bool)
 | 0, _, _ => none
 | k + 1, x3, x123000 => if x3 < (x123000.length : Int) then (if 0 ≤ x3 then ((spec_ValidPath.f k ((rd_T45 x123000 x3).f0)).bind fun t125 => (if t125 = true then (if (((rd_T45 x123000 x3).f1).size : Int) > 1500 then (spec_ValidTree.j1 k x3 true x123000 ((rd_T45 x123000 x3).f0) ((rd_T45 x123000 x3).f1) ((rd_T45 x123000 x3).f2)) else (if x3 > 0 then (if 0 ≤ (wrap64 (x3 - 1)) then (if (wrap64 (x3 - 1)) < (x123000.length : Int) then (spec_ValidTree.j1 k x3 (!(Op.bytesLess (((rd_T45 x123000 (wrap64 (x3 - 1))).f0).toList) (((rd_T45 x123000 x3).f0).toList))) x123000 ((rd_T45 x123000 x3).f0) ((rd_T45 x123000 x3).f1) ((rd_T45 x123000 x3).f2)) else (none)) else (none)) else (spec_ValidTree.j1 k x3 false x123000 ((rd_T45 x123000 x3).f0) ((rd_T45 x123000 x3).f1) ((rd_T45 x123000 x3).f2)))) else (spec_ValidTree.j1 k x3 true x123000 ((rd_T45 x123000 x3).f0) ((rd_T45 x123000 x3).f1) ((rd_T45 x123000 x3).f2)))) else (none)) else (some true)
def spec_ValidTree.j1 : Nat → Int → Bool → List (S45) → ByteArray → ByteArray → Bool → Option (Bool)
 | 0, _, _, _, _, _, _ => none
 | k + 1, x3, x47, x123000, x125000, x125001, x125002 => if x47 = true then (some false) else (spec_ValidTree.l1 k x3 0 x123000 x125000 x125001 x125002)
def spec_ValidTree.l1 : Nat → Int → Int → List (S45) → ByteArray → ByteArray → Bool → Option (Bool)
 | 0, _, _, _, _, _, _ => none
 | k + 1, x3, x5, x123000, x125000, x125001, x125002 => if x5 < x3 then (if 0 ≤ x5 then (if x5 < (x123000.length : Int) then ((spec_l5Begins.f ((rd_T45 x123000 x5).f0) x125000).bind fun t128 => (if t128 = true then (some false) else (spec_ValidTree.l1 k x3 (wrap64 (x5 + 1)) x123000 x125000 x125001 x125002))) else (none)) else (none)) else (spec_ValidTree.l0 k (wrap64 (x3 + 1)) x123000)
end
def spec_ValidTree.f (k : Nat) (qa : List (S45)) : Option (Bool) := if (qa.length : Int) > 100 then (some false) else (spec_ValidTree.l0 k 0 qa)
theorem spec_ValidTree.mono_l : ∀ k, (∀ y0 y1, LeO (spec_ValidTree.l0 k y0 y1) (spec_ValidTree.l0 (k + 1) y0 y1)) ∧ (∀ y0 y1 y2 y3 y4 y5, LeO (spec_ValidTree.j1 k y0 y1 y2 y3 y4 y5) (spec_ValidTree.j1 (k + 1) y0 y1 y2 y3 y4 y5)) ∧ (∀ y0 y1 y2 y3 y4 y5, LeO (spec_ValidTree.l1 k y0 y1 y2 y3 y4 y5) (spec_ValidTree.l1 (k + 1) y0 y1 y2 y3 y4 y5))
 | 0 => ⟨fun _ _ r h => by simp [spec_ValidTree.l0] at h, fun _ _ _ _ _ _ r h => by simp [spec_ValidTree.j1] at h, fun _ _ _ _ _ _ r h => by simp [spec_ValidTree.l1] at h⟩
 | k + 1 => by
  obtain ⟨ih0, ih1, ih2⟩ := spec_ValidTree.mono_l k; refine ⟨?_, ?_, ?_⟩
  ·intro y0 y1
   unfold spec_ValidTree.l0
   repeat' first
   | (with_reducible exact ih0 _ _)
   | (with_reducible exact ih1 _ _ _ _ _ _)
   | (with_reducible exact ih2 _ _ _ _ _ _)
   | (with_reducible exact spec_ValidPath.mono _ _)
   | (with_reducible exact LeO.refl _)
   | (with_reducible exact LeO.none _)
   | (with_reducible refine LeO.ite ?_ ?_)
   | (with_reducible refine LeO.bind ?_ (fun _ => ?_))
   | exact ih0 _ _
   | exact ih1 _ _ _ _ _ _
   | exact ih2 _ _ _ _ _ _
   | exact spec_ValidPath.mono _ _
   | exact LeO.none _
   | refine LeO.ite ?_ ?_
   | refine LeO.bind ?_ (fun _ => ?_)
  ·intro y0 y1 y2 y3 y4 y5
   unfold spec_ValidTree.j1
   repeat' first
   | (with_reducible exact ih0 _ _)
   | (with_reducible exact ih1 _ _ _ _ _ _)
   | (with_reducible exact ih2 _ _ _ _ _ _)
   | (with_reducible exact spec_ValidPath.mono _ _)
   | (with_reducible exact LeO.refl _)
   | (with_reducible exact LeO.none _)
   | (with_reducible refine LeO.ite ?_ ?_)
   | (with_reducible refine LeO.bind ?_ (fun _ => ?_))
   | exact ih0 _ _
   | exact ih1 _ _ _ _ _ _
   | exact ih2 _ _ _ _ _ _
   | exact spec_ValidPath.mono _ _
   | exact LeO.none _
   | refine LeO.ite ?_ ?_
   | refine LeO.bind ?_ (fun _ => ?_)
  ·intro y0 y1 y2 y3 y4 y5
   unfold spec_ValidTree.l1
   repeat' first
   | (with_reducible exact ih0 _ _)
   | (with_reducible exact ih1 _ _ _ _ _ _)
   | (with_reducible exact ih2 _ _ _ _ _ _)
   | (with_reducible exact spec_ValidPath.mono _ _)
   | (with_reducible exact LeO.refl _)
   | (with_reducible exact LeO.none _)
   | (with_reducible refine LeO.ite ?_ ?_)
   | (with_reducible refine LeO.bind ?_ (fun _ => ?_))
   | exact ih0 _ _
   | exact ih1 _ _ _ _ _ _
   | exact ih2 _ _ _ _ _ _
   | exact spec_ValidPath.mono _ _
   | exact LeO.none _
   | refine LeO.ite ?_ ?_
   | refine LeO.bind ?_ (fun _ => ?_)
theorem spec_ValidTree.mono : ∀ a0 k, LeO (spec_ValidTree.f k a0) (spec_ValidTree.f (k + 1) a0) := by
 intro a0 k; obtain ⟨ih0, ih1, ih2⟩ := spec_ValidTree.mono_l k
 unfold spec_ValidTree.f
 repeat' first
   | (with_reducible exact ih0 _ _)
   | (with_reducible exact ih1 _ _ _ _ _ _)
   | (with_reducible exact ih2 _ _ _ _ _ _)
   | (with_reducible exact spec_ValidPath.mono _ _)
   | (with_reducible exact LeO.refl _)
   | (with_reducible exact LeO.none _)
   | (with_reducible refine LeO.ite ?_ ?_)
   | (with_reducible refine LeO.bind ?_ (fun _ => ?_))
   | exact ih0 _ _
   | exact ih1 _ _ _ _ _ _
   | exact ih2 _ _ _ _ _ _
   | exact spec_ValidPath.mono _ _
   | exact LeO.none _
   | refine LeO.ite ?_ ?_
   | refine LeO.bind ?_ (fun _ => ?_)
def spec_ValidTree.T7 : Bool × List (List Nat × List Nat) := (true, [([], []), ([0], [0]), ([1], [1]), ([2], [2]), ([3, 2], [3]), ([4], [4]), ([5, 4], [4, 5]), ([6, 4], [4, 6]), ([7, 4], [4, 7]), ([4, 8], [4, 8]), ([9, 4], [9]), ([10], [10]), ([11, 10], [10, 11]), ([12, 10, 10], [10, 12]), ([13], [13]), ([14, 13], [13, 14]), ([13], [13]), ([16, 13], [13, 16]), ([15, 17, 13], [13, 15, 17]), ([18, 13], [13, 18]), ([19, 13], [13, 19]), ([13], [13]), ([21, 13], [13, 21]), ([20, 22, 13], [13, 20, 22]), ([13, 23, 10], [10, 13, 23]), ([10, 24], [10, 24])])
def spec_ValidTree.B7 : List Nat := [0, 1, 3, 7, 15, 31, 63, 127, 255, 511, 1023, 2047, 4095, 8191, 16383, 32767, 16383, 81919, 262143, 524287, 1048575, 16383, 2113535, 8388607, 16777215, 33554431]
theorem spec_ValidTree.tab7 : rtab .any (opsOf Tryd.f13 7) = spec_ValidTree.T7 := by kernel_rfl
theorem spec_ValidTree.bits7 : waitsOk spec_ValidTree.T7.2 spec_ValidTree.B7 = true := by kernel_rfl
def spec_ValidTree.T12 : Bool × List (List Nat × List Nat) := (true, [([], []), ([0], [0]), ([], []), ([1, 2], [1, 2]), ([3], [3]), ([4], [4]), ([], []), ([6], [6]), ([5, 7], [5, 7])])
def spec_ValidTree.B12 : List Nat := [0, 1, 0, 7, 15, 31, 0, 64, 255]
theorem spec_ValidTree.tab12 : rtab .any (opsOf Tryd.f13 12) = spec_ValidTree.T12 := by kernel_rfl
theorem spec_ValidTree.bits12 : waitsOk spec_ValidTree.T12.2 spec_ValidTree.B12 = true := by kernel_rfl
set_option maxHeartbeats 8000000 in
set_option maxRecDepth 100000 in
theorem spec_ValidTree.calls (k : Nat) (A0_0 : Option Addr) (qk : Nat) (qa : List (S45)) (r : Bool) (w : World) (hr0_0 : Kd.C k45 w A0_0 qa.length qa) (hc0_0 : qa.length ≤ qk) (h : spec_ValidTree.f k qa = some r) :
  Calls Tryd.prog 13 #[.agg #[.slice A0_0 qa.length qk]] w fun e w' => e = .returned (.bool r) ∧ Below w.heap.size w w' := by
 have hu29 := Tryd.underlying29; have hu45 := Tryd.underlying45; have HR0_0 := Aside0.mk hr0_0; have HC0_0 := Aside0.mk hc0_0; clear hr0_0 hc0_0; have HB := Aside0.mk (Below.refl w.heap.size w); have H : (if (qa.length : Int) > 100 then (some false) else (spec_ValidTree.l0 k 0 qa)) = some r := h; clear h
 by_cases c2 : (qa.length : Int) > 100
 ·rw [if_pos c2] at H
  have c2b0 : decide (100 < (qa.length : Int)) = true := decide_eq_true c2; have c2b1 : decide (100 < qa.length) = true := decide_eq_true (by omega); clear c2; obtain rfl := Option.some.inj H
  go_enter Tryd.func13, Tryd.ntmps13
  go_wp2_with (first | ((with_reducible refine gate_dst (N := 1) rfl ?_); (try (refine gate_guard (by rfl) ?_; dsimp only)); refine box_event ?hg (N := 1) ?hd (cs := #[.slice A0_0 qa.length qk]) (t := 29) ?hr ?_; (case hd => rfl); (case hg => rfl); (case hr => first | (go_simp; done) | (go_simp; rfl)); intro qj hg w3 hbox hb; have qf := Aside0.mk (below_step (by repeat (first | (with_reducible first | exact HB.out | apply below_alloc | apply pw_below_drewN | apply below_drew1) | exact HB.out)) hb); have qg := Aside0.mk (hbox); have qh := Aside0.mk ((by rw [hg]; exact (below_size (by repeat (first | (with_reducible first | exact HB.out | apply below_alloc | apply pw_below_drewN | apply below_drew1) | exact HB.out))) : w.heap.size ≤ qj)); have n3_ := Aside0.mk ((by rw [hg]; exact (below_size (by repeat (first | (with_reducible first | exact HB.out | apply below_alloc | apply pw_below_drewN | apply below_drew1) | exact HB.out))) : w.heap.size ≤ qj)); clear HB; have HB := qf; have qe := qg; have GW122 := qh; have ql := n3_; clear qf qg qh n3_; clear hb hbox hg; have hcz4_0 : w3.cell? ⟨qj, 0, none⟩ = some (.slice A0_0 qa.length qk) := (blk_cell qe.out 0).trans rfl; have hfz4_0 := blk_frozen qe.out 0))
  go_ret
  exact ⟨by first | rfl | (simp [errW_none, errW_some] <;> rfl) | (simp [*, errW_none, errW_some] <;> rfl), by repeat (first | (with_reducible first | exact HB.out | apply below_alloc | apply pw_below_drewN | apply below_drew1 | refine below_set ?_ ql.out) | exact HB.out)⟩
 ·rw [if_neg c2] at H
  have c2b0 : decide (100 < (qa.length : Int)) = false := decide_eq_false c2; have c2b1 : decide (100 < qa.length) = false := decide_eq_false (by omega); clear c2; have H' := Aside0.mk H; clear H
  go_enter Tryd.func13, Tryd.ntmps13
  go_wp2_with (first | ((with_reducible refine gate_dst (N := 1) rfl ?_); (try (refine gate_guard (by rfl) ?_; dsimp only)); refine box_event ?hg (N := 1) ?hd (cs := #[.slice A0_0 qa.length qk]) (t := 29) ?hr ?_; (case hd => rfl); (case hg => rfl); (case hr => first | (go_simp; done) | (go_simp; rfl)); intro qj hg w5 hbox hb; have qf := Aside0.mk (below_step (by repeat (first | (with_reducible first | exact HB.out | apply below_alloc | apply pw_below_drewN | apply below_drew1) | exact HB.out)) hb); have qg := Aside0.mk (hbox); have qh := Aside0.mk ((by rw [hg]; exact (below_size (by repeat (first | (with_reducible first | exact HB.out | apply below_alloc | apply pw_below_drewN | apply below_drew1) | exact HB.out))) : w.heap.size ≤ qj)); have n3_ := Aside0.mk ((by rw [hg]; exact (below_size (by repeat (first | (with_reducible first | exact HB.out | apply below_alloc | apply pw_below_drewN | apply below_drew1) | exact HB.out))) : w.heap.size ≤ qj)); clear HB; have HB := qf; have qe := qg; have GW122 := qh; have ql := n3_; clear qf qg qh n3_; clear hb hbox hg; have hcz6_0 : w5.cell? ⟨qj, 0, none⟩ = some (.slice A0_0 qa.length qk) := (blk_cell qe.out 0).trans rfl; have hfz6_0 := blk_frozen qe.out 0))
  go_loopg [3] k (fun kq v3 w' => ∃ (qb : Int), v3 = .int .i64 qb ∧ Aside0 (spec_ValidTree.l0 kq qb qa = some r) ∧ Aside0 (kq ≤ k) ∧ Aside0 (w'.heap[qj]? = some (.cells #[(.slice A0_0 qa.length qk)] 29 (0, 0))) ∧ Aside0 (Below w.heap.size w w'))
  case atStart => exact ⟨(0), (by first | rfl | (simp; done) | (simp [*]; done)), H', ⟨Nat.le_refl _⟩, ⟨by (with_reducible repeat (first | apply blk_drewN | apply blk_drew | apply blk_alloc)); exact qe.out⟩, ⟨by repeat (first | (with_reducible first | exact HB.out | apply below_alloc | apply pw_below_drewN | apply below_drew1 | refine below_set ?_ ql.out) | exact HB.out)⟩⟩
  case round =>
   clear H'; (try clear c1); (try clear c2); (try clear c2b0); (try clear c2b1); (try clear p2); (try clear hcz4_0); (try clear hcz6_0); (try clear hfz4_0); (try clear hfz6_0); obtain ⟨qb, rfl, HA, HK1, qe, HB⟩ := hrel
   cases gk with
   | zero => exact absurd HA.out (by simp [spec_ValidTree.l0])
   | succ k1 =>
    have H := HA.out; clear HA; simp only [spec_ValidTree.l0] at H
    by_cases c7 : qb < (qa.length : Int)
    ·rw [if_pos c7] at H
     have c7b0 : decide (qb < (qa.length : Int)) = true := decide_eq_true c7; clear c7
     by_cases c8 : 0 ≤ qb
     ·rw [if_pos c8] at H
      have c8b0 : decide (0 ≤ qb) = true := decide_eq_true c8; clear c8; have HC9 := Aside0.mk H; clear H; have hcz10_0 : wr.cell? ⟨qj, 0, none⟩ = some (.slice A0_0 qa.length qk) := (blk_cell qe.out 0).trans rfl; have hfz10_0 := blk_frozen qe.out 0; have p123 : 0 ≤ (qb : Int) := of_decide_eq_true (by first | (with_reducible assumption) | assumption); have q123 : qb < (qa.length : Int) := of_decide_eq_true (by first | (with_reducible assumption) | assumption); obtain ⟨ad123, e123, hx123_0, hx123_1, hx123_2⟩ := at_T45 HR0_0.out qb p123 q123
      cases e123
      replace hx123_0 := (HB.out.cell (World.block_lt_of_cell? w _ hx123_0)).trans hx123_0; replace hx123_1 := (HB.out.cell (World.block_lt_of_cell? w _ hx123_1)).trans hx123_1; replace hx123_2 := (HB.out.cell (World.block_lt_of_cell? w _ hx123_2)).trans hx123_2; replace p123 := eq_true p123; replace q123 := eq_true q123
      go_upto_region 7 with (first | ((with_reducible refine gate_dst (N := 4) rfl ?_); (try (refine gate_guard (by rfl) ?_; dsimp only)); refine box_event ?hg (N := 4) ?hd (cs := #[.string (⟨#[]⟩ : ByteArray), .string (⟨#[]⟩ : ByteArray), .bool false]) (t := 45) ?hr ?_; (case hd => rfl); (case hg => rfl); (case hr => first | (go_simp; done) | (go_simp; rfl)); intro qd hg w11 hbox hb; have qf := Aside0.mk (blk_below (g := qj) (o := .cells #[.slice (some ad123) qa.length qk] 29 (0, 0)) (by (with_reducible repeat (first | apply blk_drewN | apply blk_drew | apply blk_alloc)); exact qe.out) hb); have qg := Aside0.mk (below_step (by repeat (first | (with_reducible first | exact HB.out | apply below_alloc | apply pw_below_drewN | apply below_drew1 | refine below_set ?_ ql.out) | exact HB.out)) hb); have qh := Aside0.mk (hbox); have n3_ := Aside0.mk ((by rw [hg]; exact (below_size (by repeat (first | (with_reducible first | exact HB.out | apply below_alloc | apply pw_below_drewN | apply below_drew1 | refine below_set ?_ ql.out) | exact HB.out))) : w.heap.size ≤ qd)); have n4_ := Aside0.mk ((by rw [hg]; exact (below_size (by repeat (first | (with_reducible first | exact HB.out | apply below_alloc | apply pw_below_drewN | apply below_drew1 | refine below_set ?_ ql.out) | exact HB.out))) : w.heap.size ≤ qd)); have n5_ := Aside0.mk ((by rw [hg]; exact Nat.ne_of_lt (blk_lt (g := qj) (o := .cells #[.slice (some ad123) qa.length qk] 29 (0, 0)) (by (with_reducible repeat (first | apply blk_drewN | apply blk_drew | apply blk_alloc)); exact qe.out)) : qj ≠ qd)); have n6_ := Aside0.mk ((by rw [hg]; exact Nat.ne_of_gt (blk_lt (g := qj) (o := .cells #[.slice (some ad123) qa.length qk] 29 (0, 0)) (by (with_reducible repeat (first | apply blk_drewN | apply blk_drew | apply blk_alloc)); exact qe.out)) : qd ≠ qj)); clear qe; clear HB; have qe := qf; have HB := qg; have qc := qh; have GW124 := n3_; have qn := n4_; have qo := n5_; have NB124_122 := n6_; clear qf qg qh n3_ n4_ n5_ n6_; clear hb hbox hg; have hnb12 := NB124_122.out; have hnc12 := qo.out; have hcz13_0 : w11.cell? ⟨qd, 0, none⟩ = some (.string (⟨#[]⟩ : ByteArray)) := (blk_cell qc.out 0).trans rfl; have hcz13_1 : w11.cell? ⟨qd, 1, none⟩ = some (.string (⟨#[]⟩ : ByteArray)) := (blk_cell qc.out 1).trans rfl; have hcz13_2 : w11.cell? ⟨qd, 2, none⟩ = some (.bool false) := (blk_cell qc.out 2).trans rfl; have hfz13_0 := blk_frozen qc.out 0; have hfz13_1 := blk_frozen qc.out 1; have hfz13_2 := blk_frozen qc.out 2))
      (try simp only [Act.put, List.setIfInBounds_toArray, List.set_cons_zero, List.set_cons_succ])
      go_cut [47] (fun v47 wc => ∃ (kq : Nat) (x47_8 : Bool), v47 = .bool x47_8 ∧ Aside0 (spec_ValidTree.j1 kq qb x47_8 qa ((rd_T45 qa qb).f0) ((rd_T45 qa qb).f1) ((rd_T45 qa qb).f2) = some r) ∧ Aside0 (kq ≤ k1) ∧ Aside0 (wc.heap[qj]? = some (.cells #[(.slice (some ad123) qa.length qk)] 29 (0, 0))) ∧ Aside0 (wc.heap[qd]? = some (.cells #[.string ((rd_T45 qa qb).f0), .string ((rd_T45 qa qb).f1), .bool ((rd_T45 qa qb).f2)] 45 (0, 0))) ∧ Aside0 (Below w.heap.size w wc))
      case first =>
       have H := HC9.out; clear HC9; replace H := Option.bind_eq_some_iff.mp H; obtain ⟨t125, A140, H⟩ := H; replace H : (if t125 = true then (if (((rd_T45 qa qb).f1).size : Int) > 1500 then (spec_ValidTree.j1 k1 qb true qa ((rd_T45 qa qb).f0) ((rd_T45 qa qb).f1) ((rd_T45 qa qb).f2)) else (if qb > 0 then (if 0 ≤ (wrap64 (qb - 1)) then (if (wrap64 (qb - 1)) < (qa.length : Int) then (spec_ValidTree.j1 k1 qb (!(Op.bytesLess (((rd_T45 qa (wrap64 (qb - 1))).f0).toList) (((rd_T45 qa qb).f0).toList))) qa ((rd_T45 qa qb).f0) ((rd_T45 qa qb).f1) ((rd_T45 qa qb).f2)) else (none)) else (none)) else (spec_ValidTree.j1 k1 qb false qa ((rd_T45 qa qb).f0) ((rd_T45 qa qb).f1) ((rd_T45 qa qb).f2)))) else (spec_ValidTree.j1 k1 qb true qa ((rd_T45 qa qb).f0) ((rd_T45 qa qb).f1) ((rd_T45 qa qb).f2))) = some r := H; have A14 := Aside0.mk A140; clear A140
       by_cases c15 : t125 = true
       ·subst c15
        have H1 : (if (((rd_T45 qa qb).f1).size : Int) > 1500 then (spec_ValidTree.j1 k1 qb true qa ((rd_T45 qa qb).f0) ((rd_T45 qa qb).f1) ((rd_T45 qa qb).f2)) else (if qb > 0 then (if 0 ≤ (wrap64 (qb - 1)) then (if (wrap64 (qb - 1)) < (qa.length : Int) then (spec_ValidTree.j1 k1 qb (!(Op.bytesLess (((rd_T45 qa (wrap64 (qb - 1))).f0).toList) (((rd_T45 qa qb).f0).toList))) qa ((rd_T45 qa qb).f0) ((rd_T45 qa qb).f1) ((rd_T45 qa qb).f2)) else (none)) else (none)) else (spec_ValidTree.j1 k1 qb false qa ((rd_T45 qa qb).f0) ((rd_T45 qa qb).f1) ((rd_T45 qa qb).f2)))) = some r := by rw [if_pos rfl] at H; exact H
        clear H; have H := H1; clear H1
        by_cases c16 : (((rd_T45 qa qb).f1).size : Int) > 1500
        ·rw [if_pos c16] at H
         have c16b0 : decide (1500 < (((rd_T45 qa qb).f1).size : Int)) = true := decide_eq_true c16; have c16b1 : decide (1500 < ((rd_T45 qa qb).f1).size) = true := decide_eq_true (by omega); clear c16; (first | rw [c16b0] | (simp only [i64_w, i32_w]; rw [c16b0]) | skip); have H' := Aside0.mk H; clear H
         try go_wp2
         have qf : Aside0 ((((w11.setCell ⟨qd, 0, none⟩ (.string ((rd_T45 qa qb).f0))).setCell ⟨qd, 1, none⟩ (.string ((rd_T45 qa qb).f1))).setCell ⟨qd, 2, none⟩ (.bool ((rd_T45 qa qb).f2))).heap[qj]? = some (.cells #[.slice (some ad123) qa.length qk] 29 (0, 0))) := ⟨by (with_reducible repeat (first | apply blk_drewN | apply blk_drew | apply blk_alloc)); refine blk_far ?_ qo.out _; (with_reducible repeat (first | apply blk_drewN | apply blk_drew | apply blk_alloc)); refine blk_far ?_ qo.out _; (with_reducible repeat (first | apply blk_drewN | apply blk_drew | apply blk_alloc)); refine blk_far ?_ qo.out _; (with_reducible repeat (first | apply blk_drewN | apply blk_drew | apply blk_alloc)); exact qe.out⟩
         have qg : Aside0 ((((w11.setCell ⟨qd, 0, none⟩ (.string ((rd_T45 qa qb).f0))).setCell ⟨qd, 1, none⟩ (.string ((rd_T45 qa qb).f1))).setCell ⟨qd, 2, none⟩ (.bool ((rd_T45 qa qb).f2))).heap[qd]? = some (.cells #[.string ((rd_T45 qa qb).f0), .string ((rd_T45 qa qb).f1), .bool ((rd_T45 qa qb).f2)] 45 (0, 0))) := ⟨by (with_reducible repeat (first | apply blk_drewN | apply blk_drew | apply blk_alloc)); refine blk_put (cs := #[.string ((rd_T45 qa qb).f0), .string ((rd_T45 qa qb).f1), .bool false]) ?_ 2 _ rfl; (with_reducible repeat (first | apply blk_drewN | apply blk_drew | apply blk_alloc)); refine blk_put (cs := #[.string ((rd_T45 qa qb).f0), .string (⟨#[]⟩ : ByteArray), .bool false]) ?_ 1 _ rfl; (with_reducible repeat (first | apply blk_drewN | apply blk_drew | apply blk_alloc)); refine blk_put (cs := #[.string (⟨#[]⟩ : ByteArray), .string (⟨#[]⟩ : ByteArray), .bool false]) ?_ 0 _ rfl; (with_reducible repeat (first | apply blk_drewN | apply blk_drew | apply blk_alloc)); exact qc.out⟩
         have qh : Aside0 (Below w.heap.size w (((w11.setCell ⟨qd, 0, none⟩ (.string ((rd_T45 qa qb).f0))).setCell ⟨qd, 1, none⟩ (.string ((rd_T45 qa qb).f1))).setCell ⟨qd, 2, none⟩ (.bool ((rd_T45 qa qb).f2)))) := ⟨by repeat (first | (with_reducible first | exact HB.out | apply below_alloc | apply pw_below_drewN | apply below_drew1 | refine below_set ?_ ql.out | refine below_set ?_ qn.out) | exact HB.out)⟩
         (try clear qe); (try clear qc); (try clear HB); generalize (((w11.setCell ⟨qd, 0, none⟩ (.string ((rd_T45 qa qb).f0))).setCell ⟨qd, 1, none⟩ (.string ((rd_T45 qa qb).f1))).setCell ⟨qd, 2, none⟩ (.bool ((rd_T45 qa qb).f2))) = w17 at qf qg qh ⊢; have qe := qf; have qc := qg; have HB := qh; clear qf qg qh; have qf := Aside0.mk (blk_drew qe.out); have qg := Aside0.mk (blk_drew qc.out); have qh := Aside0.mk (below_drew1 HB.out); clear qe; clear qc; clear HB; have qe := qf; have qc := qg; have HB := qh; clear qf qg qh; refine start_ (n := 26) (S := fun w' => w'.cell? ⟨qd, 0, none⟩ = some (.string ((rd_T45 qa qb).f0)) ∧ w'.cell? ⟨qd, 1, none⟩ = some (.string ((rd_T45 qa qb).f1)) ∧ w'.cell? ⟨qd, 2, none⟩ = some (.bool ((rd_T45 qa qb).f2))) (ds := []) bm60_0 (by kernel_rfl) rfl rfl ⟨(blk_cell qc.out 0).trans rfl, (blk_cell qc.out 1).trans rfl, (blk_cell qc.out 2).trans rfl⟩ (fun hHeld => ?_); refine with_tabW spec_ValidTree.tab7 spec_ValidTree.bits7 (fun HT_ HW_ => ?_); generalize w17.drew = w18 at qe qc HB hHeld ⊢; refine pure_ (i := 0) (N := some 22) (v := ?_) (a' := ?_) bm60_1 rfl rfl (any_of HT_.out (by kernel_rfl)) (fun _ _ _ h => h) (Or.inl ⟨by rfl, ?_⟩) ?_ ?_; rotate_left
         ·intro w'; go_simp; (with_reducible rfl)
         rotate_left; (·simp only [um60]; rfl); refine take_ (i := 1) (N := some 23) (v := ?_) (a' := ?_) bm60_2 rfl rfl (take_ofW HT_.out HW_.out (by kernel_rfl)) (fun _ _ _ h => h) (Or.inl ⟨by rfl, ?_⟩) hHeld ?_ ?_; rotate_left
         ·rintro w' ⟨s0, s1, s2⟩; go_simp; (with_reducible rfl)
         rotate_left; (·simp only [um60]; rfl)
         refine one_ (i := 2) (N := some 24) bm60_3 rfl rfl (one_of HT_.out (by kernel_rfl)) (by decide) (fun K hK => ?_); refine goes_ Tryd.func48 (by kernel_rfl) rfl #[.string ((rd_T45 qa qb).f0)] (by rfl) rfl rfl (by (try simp only [List.map_toArray, List.map_cons, List.map_nil]); first | done | rfl | (simp only [List.length_drop, List.length_take]; rfl)) ?_; (with_reducible refine (spec_ValidPath.calls k1 ((rd_T45 qa qb).f0) true _ A14.out).mono ?_); rintro e w19 ⟨rfl, hb⟩; refine ⟨_, rfl, ?_⟩; have qf := Aside0.mk (blk_below (g := qj) (o := .cells #[.slice (some ad123) qa.length qk] 29 (0, 0)) (by (with_reducible repeat (first | apply blk_drewN | apply blk_drew | apply blk_alloc)); exact qe.out) hb); have qg := Aside0.mk (blk_below (g := qd) (o := .cells #[.string ((rd_T45 qa qb).f0), .string ((rd_T45 qa qb).f1), .bool ((rd_T45 qa qb).f2)] 45 (0, 0)) (by (with_reducible repeat (first | apply blk_drewN | apply blk_drew | apply blk_alloc)); exact qc.out) hb); have qh := Aside0.mk (below_step (by repeat (first | (with_reducible first | exact HB.out | apply below_alloc | apply pw_below_drewN | apply below_drew1 | refine below_set ?_ ql.out | refine below_set ?_ qn.out) | exact HB.out)) hb); clear qe; clear qc; clear HB; have qe := qf; have qc := qg; have HB := qh; clear qf qg qh; (try clear hb); (try clear hb2); (try clear hk); (try clear hi); refine hK.out _ _ ⟨(blk_cell qc.out 0).trans rfl, (blk_cell qc.out 1).trans rfl, (blk_cell qc.out 2).trans rfl⟩ (fun hHeld => ?_); clear hK K; refine norm_ (a' := ?_) ?_ ?_; rotate_left
         ·show Act.put _ (some 24) _ = _
          simp only [um60]; rfl
         refine pure_ (i := 3) (N := some 25) (v := ?_) (a' := ?_) bm60_4 rfl rfl (any_of HT_.out (by kernel_rfl)) (fun _ _ _ h => h) (Or.inl ⟨by rfl, ?_⟩) ?_ ?_; rotate_left
         ·intro w'; go_simp; (with_reducible rfl)
         rotate_left; (·simp only [um60]; rfl); refine pure_ (i := 4) (N := some 26) (v := ?_) (a' := ?_) bm60_5 rfl rfl (any_of HT_.out (by kernel_rfl)) (fun _ _ _ h => h) (Or.inl ⟨by rfl, ?_⟩) ?_ ?_; rotate_left
         ·intro w'; go_simp; (with_reducible rfl)
         rotate_left; (·simp only [um60]; rfl); refine pure_ (i := 5) (N := some 27) (v := ?_) (a' := ?_) bm60_6 rfl rfl (any_of HT_.out (by kernel_rfl)) (fun _ _ _ h => h) (Or.inl ⟨by rfl, ?_⟩) ?_ ?_; rotate_left
         ·intro w'; go_simp; (with_reducible rfl)
         rotate_left; (·simp only [um60]; rfl); refine take_ (i := 6) (N := some 28) (v := ?_) (a' := ?_) bm60_7 rfl rfl (take_ofW HT_.out HW_.out (by kernel_rfl)) (fun _ _ _ h => h) (Or.inl ⟨by rfl, ?_⟩) hHeld ?_ ?_; rotate_left
         ·rintro w' ⟨s0, s1, s2⟩; go_simp; (with_reducible rfl)
         rotate_left; (·simp only [um60]; rfl); refine pure_ (i := 7) (N := some 29) (v := ?_) (a' := ?_) bm60_8 rfl rfl (any_of HT_.out (by kernel_rfl)) (fun _ _ _ h => h) (Or.inl ⟨by rfl, ?_⟩) ?_ ?_; rotate_left
         ·intro w'; go_simp; (with_reducible rfl)
         rotate_left; (·simp only [um60]; rfl); refine pure_ (i := 8) (N := some 30) (v := ?_) (a' := ?_) bm60_9 rfl rfl (any_of HT_.out (by kernel_rfl)) (fun _ _ _ h => h) (Or.inl ⟨by rfl, ?_⟩) ?_ ?_; rotate_left
         ·intro w'; go_simp; (with_reducible rfl)
         rotate_left; (·simp only [um60]; rfl); refine pure_ (i := 9) (N := some 31) (v := ?_) (a' := ?_) bm60_10 rfl rfl (any_of HT_.out (by kernel_rfl)) (fun _ _ _ h => h) (Or.inl ⟨by rfl, ?_⟩) ?_ ?_; rotate_left
         ·intro w'; go_simp; (with_reducible rfl)
         rotate_left; (·simp only [um60]; rfl); refine pure_ (i := 10) (N := some 32) (v := ?_) (a' := ?_) bm60_11 rfl rfl (any_of HT_.out (by kernel_rfl)) (fun _ _ _ h => h) (Or.inl ⟨by rfl, ?_⟩) ?_ ?_; rotate_left
         ·intro w'; go_simp; (with_reducible rfl)
         rotate_left; (·simp only [um60]; rfl); refine pure_ (i := 11) (N := some 33) (v := undef) (a' := ?_) bm60_12 rfl rfl (any_of HT_.out (by kernel_rfl)) (fun _ _ _ h => h) (Or.inr ⟨by rfl, rfl⟩) ?_ ?_; rotate_left; (·simp only [um60]; rfl); refine pure_ (i := 12) (N := some 34) (v := undef) (a' := ?_) bm60_13 rfl rfl (any_of HT_.out (by kernel_rfl)) (fun _ _ _ h => h) (Or.inr ⟨by rfl, rfl⟩) ?_ ?_; rotate_left; (·simp only [um60]; rfl); refine pure_ (i := 13) (N := some 35) (v := undef) (a' := ?_) bm60_14 rfl rfl (any_of HT_.out (by kernel_rfl)) (fun _ _ _ h => h) (Or.inr ⟨by rfl, rfl⟩) ?_ ?_; rotate_left; (·simp only [um60]; rfl); refine pure_ (i := 14) (N := some 36) (v := undef) (a' := ?_) bm60_15 rfl rfl (any_of HT_.out (by kernel_rfl)) (fun _ _ _ h => h) (Or.inr ⟨by rfl, rfl⟩) ?_ ?_; rotate_left; (·simp only [um60]; rfl); refine pure_ (i := 15) (N := some 37) (v := undef) (a' := ?_) bm60_16 rfl rfl (any_of HT_.out (by kernel_rfl)) (fun _ _ _ h => h) (Or.inr ⟨by rfl, rfl⟩) ?_ ?_; rotate_left; (·simp only [um60]; rfl); refine pure_ (i := 16) (N := some 38) (v := undef) (a' := ?_) bm60_17 rfl rfl (any_of HT_.out (by kernel_rfl)) (fun _ _ _ h => h) (Or.inr ⟨by rfl, rfl⟩) ?_ ?_; rotate_left; (·simp only [um60]; rfl); refine pure_ (i := 17) (N := some 39) (v := undef) (a' := ?_) bm60_18 rfl rfl (any_of HT_.out (by kernel_rfl)) (fun _ _ _ h => h) (Or.inr ⟨by rfl, rfl⟩) ?_ ?_; rotate_left; (·simp only [um60]; rfl); refine pure_ (i := 18) (N := some 40) (v := undef) (a' := ?_) bm60_19 rfl rfl (any_of HT_.out (by kernel_rfl)) (fun _ _ _ h => h) (Or.inr ⟨by rfl, rfl⟩) ?_ ?_; rotate_left; (·simp only [um60]; rfl); refine pure_ (i := 19) (N := some 41) (v := undef) (a' := ?_) bm60_20 rfl rfl (any_of HT_.out (by kernel_rfl)) (fun _ _ _ h => h) (Or.inr ⟨by rfl, rfl⟩) ?_ ?_; rotate_left; (·simp only [um60]; rfl); refine pure_ (i := 20) (N := some 42) (v := undef) (a' := ?_) bm60_21 rfl rfl (any_of HT_.out (by kernel_rfl)) (fun _ _ _ h => h) (Or.inr ⟨by rfl, rfl⟩) ?_ ?_; rotate_left; (·simp only [um60]; rfl); refine pure_ (i := 21) (N := some 43) (v := undef) (a' := ?_) bm60_22 rfl rfl (any_of HT_.out (by kernel_rfl)) (fun _ _ _ h => h) (Or.inr ⟨by rfl, rfl⟩) ?_ ?_; rotate_left; (·simp only [um60]; rfl); refine pure_ (i := 22) (N := some 44) (v := undef) (a' := ?_) bm60_23 rfl rfl (any_of HT_.out (by kernel_rfl)) (fun _ _ _ h => h) (Or.inr ⟨by rfl, rfl⟩) ?_ ?_; rotate_left; (·simp only [um60]; rfl); refine pure_ (i := 23) (N := some 45) (v := undef) (a' := ?_) bm60_24 rfl rfl (any_of HT_.out (by kernel_rfl)) (fun _ _ _ h => h) (Or.inr ⟨by rfl, rfl⟩) ?_ ?_; rotate_left; (·simp only [um60]; rfl); refine pure_ (i := 24) (N := some 46) (v := undef) (a' := ?_) bm60_25 rfl rfl (any_of HT_.out (by kernel_rfl)) (fun _ _ _ h => h) (Or.inr ⟨by rfl, rfl⟩) ?_ ?_; rotate_left; (·simp only [um60]; rfl); refine pure_ (i := 25) (N := some 47) (v := ?_) (a' := ?_) bm60_26 rfl rfl (any_of HT_.out (by kernel_rfl)) (fun _ _ _ h => h) (Or.inl ⟨by rfl, ?_⟩) ?_ ?_; rotate_left
         ·intro w'; go_simp; (with_reducible rfl)
         rotate_left; (·simp only [um60]; rfl)
         refine done_ (done_of HT_.out (by kernel_rfl)) ?_
         try go_wp2
         go_meet
         case rel => exact ⟨_, (true), (by first | rfl | (simp; done) | (simp [*]; done)), H', ⟨by have := HK1.out; first | omega | exact Nat.le_refl _⟩, ⟨by (with_reducible repeat (first | apply blk_drewN | apply blk_drew | apply blk_alloc)); exact qe.out⟩, ⟨by (with_reducible repeat (first | apply blk_drewN | apply blk_drew | apply blk_alloc)); exact qc.out⟩, ⟨by repeat (first | (with_reducible first | exact HB.out | apply below_alloc | apply pw_below_drewN | apply below_drew1 | refine below_set ?_ ql.out | refine below_set ?_ qn.out) | exact HB.out)⟩⟩
        ·rw [if_neg c16] at H
         have c16b0 : decide (1500 < (((rd_T45 qa qb).f1).size : Int)) = false := decide_eq_false c16; have c16b1 : decide (1500 < ((rd_T45 qa qb).f1).size) = false := decide_eq_false (by omega); clear c16; (first | rw [c16b0] | (simp only [i64_w, i32_w]; rw [c16b0]) | skip)
         by_cases c20 : qb > 0
         ·rw [if_pos c20] at H
          have c20b0 : decide (0 < qb) = true := decide_eq_true c20; clear c20
          obtain ⟨qm, hji21⟩ : ∃ j_ : Int, (wrap64 (qb - 1)) = j_ := ⟨_, rfl⟩
          replace H : (if 0 ≤ (qm) then (if (qm) < (qa.length : Int) then (spec_ValidTree.j1 k1 qb (!(Op.bytesLess (((rd_T45 qa (qm)).f0).toList) (((rd_T45 qa qb).f0).toList))) qa ((rd_T45 qa qb).f0) ((rd_T45 qa qb).f1) ((rd_T45 qa qb).f2)) else (none)) else (none)) = some r := by first | (rw [hji21] at H; exact H) | (simp only [hji21] at H ⊢; exact H)
          (try rw [hji21] at A14); have hji21w : (IntKind.i64.wrap (qb - 1)) = qm := (i64_w _).trans hji21
          by_cases c22 : 0 ≤ (qm)
          ·rw [if_pos c22] at H
           have c22b0 : decide (0 ≤ (qm)) = true := decide_eq_true c22; clear c22
           by_cases c23 : (qm) < (qa.length : Int)
           ·rw [if_pos c23] at H
            have c23b0 : decide ((qm) < (qa.length : Int)) = true := decide_eq_true c23; clear c23; have H' := Aside0.mk H; clear H
            try go_wp2
            have qf : Aside0 ((((w11.setCell ⟨qd, 0, none⟩ (.string ((rd_T45 qa qb).f0))).setCell ⟨qd, 1, none⟩ (.string ((rd_T45 qa qb).f1))).setCell ⟨qd, 2, none⟩ (.bool ((rd_T45 qa qb).f2))).heap[qj]? = some (.cells #[.slice (some ad123) qa.length qk] 29 (0, 0))) := ⟨by (with_reducible repeat (first | apply blk_drewN | apply blk_drew | apply blk_alloc)); refine blk_far ?_ qo.out _; (with_reducible repeat (first | apply blk_drewN | apply blk_drew | apply blk_alloc)); refine blk_far ?_ qo.out _; (with_reducible repeat (first | apply blk_drewN | apply blk_drew | apply blk_alloc)); refine blk_far ?_ qo.out _; (with_reducible repeat (first | apply blk_drewN | apply blk_drew | apply blk_alloc)); exact qe.out⟩
            have qg : Aside0 ((((w11.setCell ⟨qd, 0, none⟩ (.string ((rd_T45 qa qb).f0))).setCell ⟨qd, 1, none⟩ (.string ((rd_T45 qa qb).f1))).setCell ⟨qd, 2, none⟩ (.bool ((rd_T45 qa qb).f2))).heap[qd]? = some (.cells #[.string ((rd_T45 qa qb).f0), .string ((rd_T45 qa qb).f1), .bool ((rd_T45 qa qb).f2)] 45 (0, 0))) := ⟨by (with_reducible repeat (first | apply blk_drewN | apply blk_drew | apply blk_alloc)); refine blk_put (cs := #[.string ((rd_T45 qa qb).f0), .string ((rd_T45 qa qb).f1), .bool false]) ?_ 2 _ rfl; (with_reducible repeat (first | apply blk_drewN | apply blk_drew | apply blk_alloc)); refine blk_put (cs := #[.string ((rd_T45 qa qb).f0), .string (⟨#[]⟩ : ByteArray), .bool false]) ?_ 1 _ rfl; (with_reducible repeat (first | apply blk_drewN | apply blk_drew | apply blk_alloc)); refine blk_put (cs := #[.string (⟨#[]⟩ : ByteArray), .string (⟨#[]⟩ : ByteArray), .bool false]) ?_ 0 _ rfl; (with_reducible repeat (first | apply blk_drewN | apply blk_drew | apply blk_alloc)); exact qc.out⟩
            have qh : Aside0 (Below w.heap.size w (((w11.setCell ⟨qd, 0, none⟩ (.string ((rd_T45 qa qb).f0))).setCell ⟨qd, 1, none⟩ (.string ((rd_T45 qa qb).f1))).setCell ⟨qd, 2, none⟩ (.bool ((rd_T45 qa qb).f2)))) := ⟨by repeat (first | (with_reducible first | exact HB.out | apply below_alloc | apply pw_below_drewN | apply below_drew1 | refine below_set ?_ ql.out | refine below_set ?_ qn.out) | exact HB.out)⟩
            (try clear qe); (try clear qc); (try clear HB); generalize (((w11.setCell ⟨qd, 0, none⟩ (.string ((rd_T45 qa qb).f0))).setCell ⟨qd, 1, none⟩ (.string ((rd_T45 qa qb).f1))).setCell ⟨qd, 2, none⟩ (.bool ((rd_T45 qa qb).f2))) = w24 at qf qg qh ⊢; have qe := qf; have qc := qg; have HB := qh; clear qf qg qh; have qf := Aside0.mk (blk_drew qe.out); have qg := Aside0.mk (blk_drew qc.out); have qh := Aside0.mk (below_drew1 HB.out); clear qe; clear qc; clear HB; have qe := qf; have qc := qg; have HB := qh; clear qf qg qh; have p126 : 0 ≤ ((qm) : Int) := of_decide_eq_true (by first | (with_reducible assumption) | assumption); have q126 : (qm) < (qa.length : Int) := of_decide_eq_true (by first | (with_reducible assumption) | assumption); obtain ⟨ad126, e126, hx126_0, hx126_1, hx126_2⟩ := at_T45 HR0_0.out (qm) p126 q126; have hw126_2 := hx126_2; have hw126_1 := hx126_1; have hw126_0 := hx126_0
            obtain rfl : ad123 = ad126 := (by injection e126)
            replace hx126_0 := (HB.out.cell (World.block_lt_of_cell? w _ hx126_0)).trans hx126_0; replace hx126_1 := (HB.out.cell (World.block_lt_of_cell? w _ hx126_1)).trans hx126_1; replace hx126_2 := (HB.out.cell (World.block_lt_of_cell? w _ hx126_2)).trans hx126_2; replace p126 := eq_true p126; replace q126 := eq_true q126; refine start_ (n := 26) (S := fun w' => w'.cell? ⟨qd, 0, none⟩ = some (.string ((rd_T45 qa qb).f0)) ∧ w'.cell? ⟨qd, 1, none⟩ = some (.string ((rd_T45 qa qb).f1)) ∧ w'.cell? ⟨qd, 2, none⟩ = some (.bool ((rd_T45 qa qb).f2)) ∧ w'.cell? ⟨qj, 0, none⟩ = some (.slice (some ad123) qa.length qk) ∧ w'.cell? (ad123.add (((qm)).toNat * 3)) = some (.string ((rd_T45 qa (qm)).f0)) ∧ w'.cell? ⟨(ad123.add (((qm)).toNat * 3)).block, (ad123.add (((qm)).toNat * 3)).off + 1, none⟩ = some (.string ((rd_T45 qa (qm)).f1)) ∧ w'.cell? ⟨(ad123.add (((qm)).toNat * 3)).block, (ad123.add (((qm)).toNat * 3)).off + 2, none⟩ = some (.bool ((rd_T45 qa (qm)).f2))) (ds := []) bm60_0 (by kernel_rfl) rfl rfl ⟨(blk_cell qc.out 0).trans rfl, (blk_cell qc.out 1).trans rfl, (blk_cell qc.out 2).trans rfl, (blk_cell qe.out 0).trans rfl, ((HB.out.cell (World.block_lt_of_cell? w _ hw126_0)).trans hw126_0), ((HB.out.cell (World.block_lt_of_cell? w _ hw126_1)).trans hw126_1), ((HB.out.cell (World.block_lt_of_cell? w _ hw126_2)).trans hw126_2)⟩ (fun hHeld => ?_); refine with_tabW spec_ValidTree.tab7 spec_ValidTree.bits7 (fun HT_ HW_ => ?_); generalize w24.drew = w25 at qe qc HB hx126_0 hx126_1 hx126_2 hHeld ⊢; refine pure_ (i := 0) (N := some 22) (v := ?_) (a' := ?_) bm60_1 rfl rfl (any_of HT_.out (by kernel_rfl)) (fun _ _ _ h => h) (Or.inl ⟨by rfl, ?_⟩) ?_ ?_; rotate_left
            ·intro w'; go_simp; (with_reducible rfl)
            rotate_left; (·simp only [um60]; rfl); refine take_ (i := 1) (N := some 23) (v := ?_) (a' := ?_) bm60_2 rfl rfl (take_ofW HT_.out HW_.out (by kernel_rfl)) (fun _ _ _ h => h) (Or.inl ⟨by rfl, ?_⟩) hHeld ?_ ?_; rotate_left
            ·rintro w' ⟨s0, s1, s2, s3, s4, s5, s6⟩; go_simp; (with_reducible rfl)
            rotate_left; (·simp only [um60]; rfl)
            refine one_ (i := 2) (N := some 24) bm60_3 rfl rfl (one_of HT_.out (by kernel_rfl)) (by decide) (fun K hK => ?_); refine goes_ Tryd.func48 (by kernel_rfl) rfl #[.string ((rd_T45 qa qb).f0)] (by rfl) rfl rfl (by (try simp only [List.map_toArray, List.map_cons, List.map_nil]); first | done | rfl | (simp only [List.length_drop, List.length_take]; rfl)) ?_; (with_reducible refine (spec_ValidPath.calls k1 ((rd_T45 qa qb).f0) true _ A14.out).mono ?_); rintro e w26 ⟨rfl, hb⟩; refine ⟨_, rfl, ?_⟩; have qf := Aside0.mk (blk_below (g := qj) (o := .cells #[.slice (some ad123) qa.length qk] 29 (0, 0)) (by (with_reducible repeat (first | apply blk_drewN | apply blk_drew | apply blk_alloc)); exact qe.out) hb); have qg := Aside0.mk (blk_below (g := qd) (o := .cells #[.string ((rd_T45 qa qb).f0), .string ((rd_T45 qa qb).f1), .bool ((rd_T45 qa qb).f2)] 45 (0, 0)) (by (with_reducible repeat (first | apply blk_drewN | apply blk_drew | apply blk_alloc)); exact qc.out) hb); have qh := Aside0.mk (below_step (by repeat (first | (with_reducible first | exact HB.out | apply below_alloc | apply pw_below_drewN | apply below_drew1 | refine below_set ?_ ql.out | refine below_set ?_ qn.out) | exact HB.out)) hb); clear qe; clear qc; clear HB; have qe := qf; have qc := qg; have HB := qh; clear qf qg qh; (try clear hb); (try clear hb2); (try clear hk); (try clear hi); refine hK.out _ _ ⟨(blk_cell qc.out 0).trans rfl, (blk_cell qc.out 1).trans rfl, (blk_cell qc.out 2).trans rfl, (blk_cell qe.out 0).trans rfl, ((HB.out.cell (World.block_lt_of_cell? w _ hw126_0)).trans hw126_0), ((HB.out.cell (World.block_lt_of_cell? w _ hw126_1)).trans hw126_1), ((HB.out.cell (World.block_lt_of_cell? w _ hw126_2)).trans hw126_2)⟩ (fun hHeld => ?_); clear hK K; refine norm_ (a' := ?_) ?_ ?_; rotate_left
            ·show Act.put _ (some 24) _ = _
             simp only [um60]; rfl
            refine pure_ (i := 3) (N := some 25) (v := ?_) (a' := ?_) bm60_4 rfl rfl (any_of HT_.out (by kernel_rfl)) (fun _ _ _ h => h) (Or.inl ⟨by rfl, ?_⟩) ?_ ?_; rotate_left
            ·intro w'; go_simp; (with_reducible rfl)
            rotate_left; (·simp only [um60]; rfl); refine pure_ (i := 4) (N := some 26) (v := ?_) (a' := ?_) bm60_5 rfl rfl (any_of HT_.out (by kernel_rfl)) (fun _ _ _ h => h) (Or.inl ⟨by rfl, ?_⟩) ?_ ?_; rotate_left
            ·intro w'; go_simp; (with_reducible rfl)
            rotate_left; (·simp only [um60]; rfl); refine pure_ (i := 5) (N := some 27) (v := ?_) (a' := ?_) bm60_6 rfl rfl (any_of HT_.out (by kernel_rfl)) (fun _ _ _ h => h) (Or.inl ⟨by rfl, ?_⟩) ?_ ?_; rotate_left
            ·intro w'; go_simp; (with_reducible rfl)
            rotate_left; (·simp only [um60]; rfl); refine take_ (i := 6) (N := some 28) (v := ?_) (a' := ?_) bm60_7 rfl rfl (take_ofW HT_.out HW_.out (by kernel_rfl)) (fun _ _ _ h => h) (Or.inl ⟨by rfl, ?_⟩) hHeld ?_ ?_; rotate_left
            ·rintro w' ⟨s0, s1, s2, s3, s4, s5, s6⟩; go_simp; (with_reducible rfl)
            rotate_left; (·simp only [um60]; rfl); refine pure_ (i := 7) (N := some 29) (v := ?_) (a' := ?_) bm60_8 rfl rfl (any_of HT_.out (by kernel_rfl)) (fun _ _ _ h => h) (Or.inl ⟨by rfl, ?_⟩) ?_ ?_; rotate_left
            ·intro w'; go_simp; (with_reducible rfl)
            rotate_left; (·simp only [um60]; rfl); refine pure_ (i := 8) (N := some 30) (v := ?_) (a' := ?_) bm60_9 rfl rfl (any_of HT_.out (by kernel_rfl)) (fun _ _ _ h => h) (Or.inl ⟨by rfl, ?_⟩) ?_ ?_; rotate_left
            ·intro w'; go_simp; (with_reducible rfl)
            rotate_left; (·simp only [um60]; rfl); refine pure_ (i := 9) (N := some 31) (v := ?_) (a' := ?_) bm60_10 rfl rfl (any_of HT_.out (by kernel_rfl)) (fun _ _ _ h => h) (Or.inl ⟨by rfl, ?_⟩) ?_ ?_; rotate_left
            ·intro w'; go_simp; (with_reducible rfl)
            rotate_left; (·simp only [um60]; rfl); refine pure_ (i := 10) (N := some 32) (v := ?_) (a' := ?_) bm60_11 rfl rfl (any_of HT_.out (by kernel_rfl)) (fun _ _ _ h => h) (Or.inl ⟨by rfl, ?_⟩) ?_ ?_; rotate_left
            ·intro w'; go_simp; (with_reducible rfl)
            rotate_left; (·simp only [um60]; rfl); refine pure_ (i := 11) (N := some 33) (v := ?_) (a' := ?_) bm60_12 rfl rfl (any_of HT_.out (by kernel_rfl)) (fun _ _ _ h => h) (Or.inl ⟨by rfl, ?_⟩) ?_ ?_; rotate_left
            ·intro w'; go_simp; (with_reducible rfl)
            rotate_left; (·simp only [um60]; rfl); refine pure_ (i := 12) (N := some 34) (v := ?_) (a' := ?_) bm60_13 rfl rfl (any_of HT_.out (by kernel_rfl)) (fun _ _ _ h => h) (Or.inl ⟨by rfl, ?_⟩) ?_ ?_; rotate_left
            ·intro w'; go_simp; (with_reducible rfl)
            rotate_left; (·simp only [um60]; rfl); refine pure_ (i := 13) (N := some 35) (v := ?_) (a' := ?_) bm60_14 rfl rfl (any_of HT_.out (by kernel_rfl)) (fun _ _ _ h => h) (Or.inl ⟨by rfl, ?_⟩) ?_ ?_; rotate_left
            ·intro w'; go_simp; (with_reducible rfl)
            rotate_left; (·simp only [um60]; rfl); refine pure_ (i := 14) (N := some 36) (v := ?_) (a' := ?_) bm60_15 rfl rfl (any_of HT_.out (by kernel_rfl)) (fun _ _ _ h => h) (Or.inl ⟨by rfl, ?_⟩) ?_ ?_; rotate_left
            ·intro w'; go_simp; (with_reducible rfl)
            rotate_left; (·simp only [um60]; rfl); refine pure_ (i := 16) (N := some 38) (v := ?_) (a' := ?_) bm60_27 rfl rfl (any_of HT_.out (by kernel_rfl)) (fun _ _ _ h => h) (Or.inl ⟨by rfl, ?_⟩) ?_ ?_; rotate_left
            ·intro w'; go_simp; (with_reducible rfl)
            rotate_left; (·simp only [um60]; rfl); refine pure_ (i := 17) (N := some 39) (v := ?_) (a' := ?_) bm60_28 rfl rfl (any_of HT_.out (by kernel_rfl)) (fun _ _ _ h => h) (Or.inl ⟨by rfl, ?_⟩) ?_ ?_; rotate_left
            ·intro w'; go_simp; (with_reducible rfl)
            rotate_left; (·simp only [um60]; rfl); refine pure_ (i := 21) (N := some 43) (v := ?_) (a' := ?_) bm60_29 rfl rfl (any_of HT_.out (by kernel_rfl)) (fun _ _ _ h => h) (Or.inl ⟨by rfl, ?_⟩) ?_ ?_; rotate_left
            ·intro w'; go_simp; (with_reducible rfl)
            rotate_left; (·simp only [um60]; rfl); refine take_ (i := 15) (N := some 37) (v := ?_) (a' := ?_) bm60_30 rfl rfl (take_ofW HT_.out HW_.out (by kernel_rfl)) (fun _ _ _ h => h) (Or.inl ⟨by rfl, ?_⟩) hHeld ?_ ?_; rotate_left
            ·rintro w' ⟨s0, s1, s2, s3, s4, s5, s6⟩; go_simp; (with_reducible rfl)
            rotate_left; (·simp only [um60]; rfl); refine pure_ (i := 18) (N := some 40) (v := ?_) (a' := ?_) bm60_31 rfl rfl (any_of HT_.out (by kernel_rfl)) (fun _ _ _ h => h) (Or.inl ⟨by rfl, ?_⟩) ?_ ?_; rotate_left
            ·intro w'; go_simp; (with_reducible rfl)
            rotate_left; (·simp only [um60]; rfl); refine pure_ (i := 19) (N := some 41) (v := ?_) (a' := ?_) bm60_32 rfl rfl (any_of HT_.out (by kernel_rfl)) (fun _ _ _ h => h) (Or.inl ⟨by rfl, ?_⟩) ?_ ?_; rotate_left
            ·intro w'; go_simp; (with_reducible rfl)
            rotate_left; (·simp only [um60]; rfl); refine take_ (i := 20) (N := some 42) (v := ?_) (a' := ?_) bm60_22 rfl rfl (take_ofW HT_.out HW_.out (by kernel_rfl)) (fun _ _ _ h => h) (Or.inl ⟨by rfl, ?_⟩) hHeld ?_ ?_; rotate_left
            ·rintro w' ⟨s0, s1, s2, s3, s4, s5, s6⟩; go_simp; (with_reducible rfl)
            rotate_left; (·simp only [um60]; rfl); refine take_ (i := 22) (N := some 44) (v := ?_) (a' := ?_) bm60_23 rfl rfl (take_ofW HT_.out HW_.out (by kernel_rfl)) (fun _ _ _ h => h) (Or.inl ⟨by rfl, ?_⟩) hHeld ?_ ?_; rotate_left
            ·rintro w' ⟨s0, s1, s2, s3, s4, s5, s6⟩; go_simp; (with_reducible rfl)
            rotate_left; (·simp only [um60]; rfl); refine pure_ (i := 23) (N := some 45) (v := ?_) (a' := ?_) bm60_24 rfl rfl (any_of HT_.out (by kernel_rfl)) (fun _ _ _ h => h) (Or.inl ⟨by rfl, ?_⟩) ?_ ?_; rotate_left
            ·intro w'; go_simp; (with_reducible rfl)
            rotate_left; (·simp only [um60]; rfl); refine pure_ (i := 24) (N := some 46) (v := ?_) (a' := ?_) bm60_25 rfl rfl (any_of HT_.out (by kernel_rfl)) (fun _ _ _ h => h) (Or.inl ⟨by rfl, ?_⟩) ?_ ?_; rotate_left
            ·intro w'; go_simp; (with_reducible rfl)
            rotate_left; (·simp only [um60]; rfl); refine pure_ (i := 25) (N := some 47) (v := ?_) (a' := ?_) bm60_26 rfl rfl (any_of HT_.out (by kernel_rfl)) (fun _ _ _ h => h) (Or.inl ⟨by rfl, ?_⟩) ?_ ?_; rotate_left
            ·intro w'; go_simp; (with_reducible rfl)
            rotate_left; (·simp only [um60]; rfl)
            refine done_ (done_of HT_.out (by kernel_rfl)) ?_
            try go_wp2
            go_meet
            case rel => exact ⟨_, (!(Op.bytesLess (((rd_T45 qa (qm)).f0).toList) (((rd_T45 qa qb).f0).toList))), (by first | rfl | (simp; done) | (simp only [← hji21] <;> (first | rfl | simp)) | (simp [*]; done)), (by first | exact H' | (subst hji21; exact H') | (simp only [← hji21] at H' ⊢; exact H')), ⟨by have := HK1.out; first | omega | exact Nat.le_refl _⟩, ⟨by (with_reducible repeat (first | apply blk_drewN | apply blk_drew | apply blk_alloc)); exact qe.out⟩, ⟨by (with_reducible repeat (first | apply blk_drewN | apply blk_drew | apply blk_alloc)); exact qc.out⟩, ⟨by repeat (first | (with_reducible first | exact HB.out | apply below_alloc | apply pw_below_drewN | apply below_drew1 | refine below_set ?_ ql.out | refine below_set ?_ qn.out) | exact HB.out)⟩⟩
           ·rw [if_neg c23] at H
            exact absurd H (by simp)
          ·rw [if_neg c22] at H
           exact absurd H (by simp)
         ·rw [if_neg c20] at H
          have c20b0 : decide (0 < qb) = false := decide_eq_false c20; clear c20; have H' := Aside0.mk H; clear H
          try go_wp2
          have qf : Aside0 ((((w11.setCell ⟨qd, 0, none⟩ (.string ((rd_T45 qa qb).f0))).setCell ⟨qd, 1, none⟩ (.string ((rd_T45 qa qb).f1))).setCell ⟨qd, 2, none⟩ (.bool ((rd_T45 qa qb).f2))).heap[qj]? = some (.cells #[.slice (some ad123) qa.length qk] 29 (0, 0))) := ⟨by (with_reducible repeat (first | apply blk_drewN | apply blk_drew | apply blk_alloc)); refine blk_far ?_ qo.out _; (with_reducible repeat (first | apply blk_drewN | apply blk_drew | apply blk_alloc)); refine blk_far ?_ qo.out _; (with_reducible repeat (first | apply blk_drewN | apply blk_drew | apply blk_alloc)); refine blk_far ?_ qo.out _; (with_reducible repeat (first | apply blk_drewN | apply blk_drew | apply blk_alloc)); exact qe.out⟩
          have qg : Aside0 ((((w11.setCell ⟨qd, 0, none⟩ (.string ((rd_T45 qa qb).f0))).setCell ⟨qd, 1, none⟩ (.string ((rd_T45 qa qb).f1))).setCell ⟨qd, 2, none⟩ (.bool ((rd_T45 qa qb).f2))).heap[qd]? = some (.cells #[.string ((rd_T45 qa qb).f0), .string ((rd_T45 qa qb).f1), .bool ((rd_T45 qa qb).f2)] 45 (0, 0))) := ⟨by (with_reducible repeat (first | apply blk_drewN | apply blk_drew | apply blk_alloc)); refine blk_put (cs := #[.string ((rd_T45 qa qb).f0), .string ((rd_T45 qa qb).f1), .bool false]) ?_ 2 _ rfl; (with_reducible repeat (first | apply blk_drewN | apply blk_drew | apply blk_alloc)); refine blk_put (cs := #[.string ((rd_T45 qa qb).f0), .string (⟨#[]⟩ : ByteArray), .bool false]) ?_ 1 _ rfl; (with_reducible repeat (first | apply blk_drewN | apply blk_drew | apply blk_alloc)); refine blk_put (cs := #[.string (⟨#[]⟩ : ByteArray), .string (⟨#[]⟩ : ByteArray), .bool false]) ?_ 0 _ rfl; (with_reducible repeat (first | apply blk_drewN | apply blk_drew | apply blk_alloc)); exact qc.out⟩
          have qh : Aside0 (Below w.heap.size w (((w11.setCell ⟨qd, 0, none⟩ (.string ((rd_T45 qa qb).f0))).setCell ⟨qd, 1, none⟩ (.string ((rd_T45 qa qb).f1))).setCell ⟨qd, 2, none⟩ (.bool ((rd_T45 qa qb).f2)))) := ⟨by repeat (first | (with_reducible first | exact HB.out | apply below_alloc | apply pw_below_drewN | apply below_drew1 | refine below_set ?_ ql.out | refine below_set ?_ qn.out) | exact HB.out)⟩
          (try clear qe); (try clear qc); (try clear HB); generalize (((w11.setCell ⟨qd, 0, none⟩ (.string ((rd_T45 qa qb).f0))).setCell ⟨qd, 1, none⟩ (.string ((rd_T45 qa qb).f1))).setCell ⟨qd, 2, none⟩ (.bool ((rd_T45 qa qb).f2))) = w27 at qf qg qh ⊢; have qe := qf; have qc := qg; have HB := qh; clear qf qg qh; have qf := Aside0.mk (blk_drew qe.out); have qg := Aside0.mk (blk_drew qc.out); have qh := Aside0.mk (below_drew1 HB.out); clear qe; clear qc; clear HB; have qe := qf; have qc := qg; have HB := qh; clear qf qg qh; refine start_ (n := 26) (S := fun w' => w'.cell? ⟨qd, 0, none⟩ = some (.string ((rd_T45 qa qb).f0)) ∧ w'.cell? ⟨qd, 1, none⟩ = some (.string ((rd_T45 qa qb).f1)) ∧ w'.cell? ⟨qd, 2, none⟩ = some (.bool ((rd_T45 qa qb).f2))) (ds := []) bm60_0 (by kernel_rfl) rfl rfl ⟨(blk_cell qc.out 0).trans rfl, (blk_cell qc.out 1).trans rfl, (blk_cell qc.out 2).trans rfl⟩ (fun hHeld => ?_); refine with_tabW spec_ValidTree.tab7 spec_ValidTree.bits7 (fun HT_ HW_ => ?_); generalize w27.drew = w28 at qe qc HB hHeld ⊢; refine pure_ (i := 0) (N := some 22) (v := ?_) (a' := ?_) bm60_1 rfl rfl (any_of HT_.out (by kernel_rfl)) (fun _ _ _ h => h) (Or.inl ⟨by rfl, ?_⟩) ?_ ?_; rotate_left
          ·intro w'; go_simp; (with_reducible rfl)
          rotate_left; (·simp only [um60]; rfl); refine take_ (i := 1) (N := some 23) (v := ?_) (a' := ?_) bm60_2 rfl rfl (take_ofW HT_.out HW_.out (by kernel_rfl)) (fun _ _ _ h => h) (Or.inl ⟨by rfl, ?_⟩) hHeld ?_ ?_; rotate_left
          ·rintro w' ⟨s0, s1, s2⟩; go_simp; (with_reducible rfl)
          rotate_left; (·simp only [um60]; rfl)
          refine one_ (i := 2) (N := some 24) bm60_3 rfl rfl (one_of HT_.out (by kernel_rfl)) (by decide) (fun K hK => ?_); refine goes_ Tryd.func48 (by kernel_rfl) rfl #[.string ((rd_T45 qa qb).f0)] (by rfl) rfl rfl (by (try simp only [List.map_toArray, List.map_cons, List.map_nil]); first | done | rfl | (simp only [List.length_drop, List.length_take]; rfl)) ?_; (with_reducible refine (spec_ValidPath.calls k1 ((rd_T45 qa qb).f0) true _ A14.out).mono ?_); rintro e w29 ⟨rfl, hb⟩; refine ⟨_, rfl, ?_⟩; have qf := Aside0.mk (blk_below (g := qj) (o := .cells #[.slice (some ad123) qa.length qk] 29 (0, 0)) (by (with_reducible repeat (first | apply blk_drewN | apply blk_drew | apply blk_alloc)); exact qe.out) hb); have qg := Aside0.mk (blk_below (g := qd) (o := .cells #[.string ((rd_T45 qa qb).f0), .string ((rd_T45 qa qb).f1), .bool ((rd_T45 qa qb).f2)] 45 (0, 0)) (by (with_reducible repeat (first | apply blk_drewN | apply blk_drew | apply blk_alloc)); exact qc.out) hb); have qh := Aside0.mk (below_step (by repeat (first | (with_reducible first | exact HB.out | apply below_alloc | apply pw_below_drewN | apply below_drew1 | refine below_set ?_ ql.out | refine below_set ?_ qn.out) | exact HB.out)) hb); clear qe; clear qc; clear HB; have qe := qf; have qc := qg; have HB := qh; clear qf qg qh; (try clear hb); (try clear hb2); (try clear hk); (try clear hi); refine hK.out _ _ ⟨(blk_cell qc.out 0).trans rfl, (blk_cell qc.out 1).trans rfl, (blk_cell qc.out 2).trans rfl⟩ (fun hHeld => ?_); clear hK K; refine norm_ (a' := ?_) ?_ ?_; rotate_left
          ·show Act.put _ (some 24) _ = _
           simp only [um60]; rfl
          refine pure_ (i := 3) (N := some 25) (v := ?_) (a' := ?_) bm60_4 rfl rfl (any_of HT_.out (by kernel_rfl)) (fun _ _ _ h => h) (Or.inl ⟨by rfl, ?_⟩) ?_ ?_; rotate_left
          ·intro w'; go_simp; (with_reducible rfl)
          rotate_left; (·simp only [um60]; rfl); refine pure_ (i := 4) (N := some 26) (v := ?_) (a' := ?_) bm60_5 rfl rfl (any_of HT_.out (by kernel_rfl)) (fun _ _ _ h => h) (Or.inl ⟨by rfl, ?_⟩) ?_ ?_; rotate_left
          ·intro w'; go_simp; (with_reducible rfl)
          rotate_left; (·simp only [um60]; rfl); refine pure_ (i := 5) (N := some 27) (v := ?_) (a' := ?_) bm60_6 rfl rfl (any_of HT_.out (by kernel_rfl)) (fun _ _ _ h => h) (Or.inl ⟨by rfl, ?_⟩) ?_ ?_; rotate_left
          ·intro w'; go_simp; (with_reducible rfl)
          rotate_left; (·simp only [um60]; rfl); refine take_ (i := 6) (N := some 28) (v := ?_) (a' := ?_) bm60_7 rfl rfl (take_ofW HT_.out HW_.out (by kernel_rfl)) (fun _ _ _ h => h) (Or.inl ⟨by rfl, ?_⟩) hHeld ?_ ?_; rotate_left
          ·rintro w' ⟨s0, s1, s2⟩; go_simp; (with_reducible rfl)
          rotate_left; (·simp only [um60]; rfl); refine pure_ (i := 7) (N := some 29) (v := ?_) (a' := ?_) bm60_8 rfl rfl (any_of HT_.out (by kernel_rfl)) (fun _ _ _ h => h) (Or.inl ⟨by rfl, ?_⟩) ?_ ?_; rotate_left
          ·intro w'; go_simp; (with_reducible rfl)
          rotate_left; (·simp only [um60]; rfl); refine pure_ (i := 8) (N := some 30) (v := ?_) (a' := ?_) bm60_9 rfl rfl (any_of HT_.out (by kernel_rfl)) (fun _ _ _ h => h) (Or.inl ⟨by rfl, ?_⟩) ?_ ?_; rotate_left
          ·intro w'; go_simp; (with_reducible rfl)
          rotate_left; (·simp only [um60]; rfl); refine pure_ (i := 9) (N := some 31) (v := ?_) (a' := ?_) bm60_10 rfl rfl (any_of HT_.out (by kernel_rfl)) (fun _ _ _ h => h) (Or.inl ⟨by rfl, ?_⟩) ?_ ?_; rotate_left
          ·intro w'; go_simp; (with_reducible rfl)
          rotate_left; (·simp only [um60]; rfl); refine pure_ (i := 10) (N := some 32) (v := ?_) (a' := ?_) bm60_11 rfl rfl (any_of HT_.out (by kernel_rfl)) (fun _ _ _ h => h) (Or.inl ⟨by rfl, ?_⟩) ?_ ?_; rotate_left
          ·intro w'; go_simp; (with_reducible rfl)
          rotate_left; (·simp only [um60]; rfl); refine pure_ (i := 11) (N := some 33) (v := ?_) (a' := ?_) bm60_12 rfl rfl (any_of HT_.out (by kernel_rfl)) (fun _ _ _ h => h) (Or.inl ⟨by rfl, ?_⟩) ?_ ?_; rotate_left
          ·intro w'; go_simp; (with_reducible rfl)
          rotate_left; (·simp only [um60]; rfl); refine pure_ (i := 12) (N := some 34) (v := ?_) (a' := ?_) bm60_13 rfl rfl (any_of HT_.out (by kernel_rfl)) (fun _ _ _ h => h) (Or.inl ⟨by rfl, ?_⟩) ?_ ?_; rotate_left
          ·intro w'; go_simp; (with_reducible rfl)
          rotate_left; (·simp only [um60]; rfl); refine pure_ (i := 13) (N := some 35) (v := ?_) (a' := ?_) bm60_14 rfl rfl (any_of HT_.out (by kernel_rfl)) (fun _ _ _ h => h) (Or.inl ⟨by rfl, ?_⟩) ?_ ?_; rotate_left
          ·intro w'; go_simp; (with_reducible rfl)
          rotate_left; (·simp only [um60]; rfl); refine pure_ (i := 14) (N := some 36) (v := undef) (a' := ?_) bm60_15 rfl rfl (any_of HT_.out (by kernel_rfl)) (fun _ _ _ h => h) (Or.inr ⟨by rfl, rfl⟩) ?_ ?_; rotate_left; (·simp only [um60]; rfl); refine pure_ (i := 15) (N := some 37) (v := undef) (a' := ?_) bm60_16 rfl rfl (any_of HT_.out (by kernel_rfl)) (fun _ _ _ h => h) (Or.inr ⟨by rfl, rfl⟩) ?_ ?_; rotate_left; (·simp only [um60]; rfl); refine pure_ (i := 16) (N := some 38) (v := undef) (a' := ?_) bm60_17 rfl rfl (any_of HT_.out (by kernel_rfl)) (fun _ _ _ h => h) (Or.inr ⟨by rfl, rfl⟩) ?_ ?_; rotate_left; (·simp only [um60]; rfl); refine pure_ (i := 17) (N := some 39) (v := undef) (a' := ?_) bm60_18 rfl rfl (any_of HT_.out (by kernel_rfl)) (fun _ _ _ h => h) (Or.inr ⟨by rfl, rfl⟩) ?_ ?_; rotate_left; (·simp only [um60]; rfl); refine pure_ (i := 18) (N := some 40) (v := undef) (a' := ?_) bm60_19 rfl rfl (any_of HT_.out (by kernel_rfl)) (fun _ _ _ h => h) (Or.inr ⟨by rfl, rfl⟩) ?_ ?_; rotate_left; (·simp only [um60]; rfl); refine pure_ (i := 19) (N := some 41) (v := undef) (a' := ?_) bm60_20 rfl rfl (any_of HT_.out (by kernel_rfl)) (fun _ _ _ h => h) (Or.inr ⟨by rfl, rfl⟩) ?_ ?_; rotate_left; (·simp only [um60]; rfl); refine pure_ (i := 20) (N := some 42) (v := undef) (a' := ?_) bm60_21 rfl rfl (any_of HT_.out (by kernel_rfl)) (fun _ _ _ h => h) (Or.inr ⟨by rfl, rfl⟩) ?_ ?_; rotate_left; (·simp only [um60]; rfl); refine pure_ (i := 21) (N := some 43) (v := undef) (a' := ?_) bm60_22 rfl rfl (any_of HT_.out (by kernel_rfl)) (fun _ _ _ h => h) (Or.inr ⟨by rfl, rfl⟩) ?_ ?_; rotate_left; (·simp only [um60]; rfl); refine pure_ (i := 22) (N := some 44) (v := undef) (a' := ?_) bm60_23 rfl rfl (any_of HT_.out (by kernel_rfl)) (fun _ _ _ h => h) (Or.inr ⟨by rfl, rfl⟩) ?_ ?_; rotate_left; (·simp only [um60]; rfl); refine pure_ (i := 23) (N := some 45) (v := undef) (a' := ?_) bm60_24 rfl rfl (any_of HT_.out (by kernel_rfl)) (fun _ _ _ h => h) (Or.inr ⟨by rfl, rfl⟩) ?_ ?_; rotate_left; (·simp only [um60]; rfl); refine pure_ (i := 24) (N := some 46) (v := ?_) (a' := ?_) bm60_25 rfl rfl (any_of HT_.out (by kernel_rfl)) (fun _ _ _ h => h) (Or.inl ⟨by rfl, ?_⟩) ?_ ?_; rotate_left
          ·intro w'; go_simp; (with_reducible rfl)
          rotate_left; (·simp only [um60]; rfl); refine pure_ (i := 25) (N := some 47) (v := ?_) (a' := ?_) bm60_26 rfl rfl (any_of HT_.out (by kernel_rfl)) (fun _ _ _ h => h) (Or.inl ⟨by rfl, ?_⟩) ?_ ?_; rotate_left
          ·intro w'; go_simp; (with_reducible rfl)
          rotate_left; (·simp only [um60]; rfl)
          refine done_ (done_of HT_.out (by kernel_rfl)) ?_
          try go_wp2
          go_meet
          case rel => exact ⟨_, (false), (by first | rfl | (simp; done) | (simp [*]; done)), H', ⟨by have := HK1.out; first | omega | exact Nat.le_refl _⟩, ⟨by (with_reducible repeat (first | apply blk_drewN | apply blk_drew | apply blk_alloc)); exact qe.out⟩, ⟨by (with_reducible repeat (first | apply blk_drewN | apply blk_drew | apply blk_alloc)); exact qc.out⟩, ⟨by repeat (first | (with_reducible first | exact HB.out | apply below_alloc | apply pw_below_drewN | apply below_drew1 | refine below_set ?_ ql.out | refine below_set ?_ qn.out) | exact HB.out)⟩⟩
       ·replace c15 := Bool.eq_false_iff.mpr c15; subst c15
        have H1 : (spec_ValidTree.j1 k1 qb true qa ((rd_T45 qa qb).f0) ((rd_T45 qa qb).f1) ((rd_T45 qa qb).f2)) = some r := by rw [if_neg (show ¬ (false = true) by decide)] at H; exact H
        clear H; have H := H1; clear H1; have H' := Aside0.mk H; clear H
        try go_wp2
        have qf : Aside0 ((((w11.setCell ⟨qd, 0, none⟩ (.string ((rd_T45 qa qb).f0))).setCell ⟨qd, 1, none⟩ (.string ((rd_T45 qa qb).f1))).setCell ⟨qd, 2, none⟩ (.bool ((rd_T45 qa qb).f2))).heap[qj]? = some (.cells #[.slice (some ad123) qa.length qk] 29 (0, 0))) := ⟨by (with_reducible repeat (first | apply blk_drewN | apply blk_drew | apply blk_alloc)); refine blk_far ?_ qo.out _; (with_reducible repeat (first | apply blk_drewN | apply blk_drew | apply blk_alloc)); refine blk_far ?_ qo.out _; (with_reducible repeat (first | apply blk_drewN | apply blk_drew | apply blk_alloc)); refine blk_far ?_ qo.out _; (with_reducible repeat (first | apply blk_drewN | apply blk_drew | apply blk_alloc)); exact qe.out⟩
        have qg : Aside0 ((((w11.setCell ⟨qd, 0, none⟩ (.string ((rd_T45 qa qb).f0))).setCell ⟨qd, 1, none⟩ (.string ((rd_T45 qa qb).f1))).setCell ⟨qd, 2, none⟩ (.bool ((rd_T45 qa qb).f2))).heap[qd]? = some (.cells #[.string ((rd_T45 qa qb).f0), .string ((rd_T45 qa qb).f1), .bool ((rd_T45 qa qb).f2)] 45 (0, 0))) := ⟨by (with_reducible repeat (first | apply blk_drewN | apply blk_drew | apply blk_alloc)); refine blk_put (cs := #[.string ((rd_T45 qa qb).f0), .string ((rd_T45 qa qb).f1), .bool false]) ?_ 2 _ rfl; (with_reducible repeat (first | apply blk_drewN | apply blk_drew | apply blk_alloc)); refine blk_put (cs := #[.string ((rd_T45 qa qb).f0), .string (⟨#[]⟩ : ByteArray), .bool false]) ?_ 1 _ rfl; (with_reducible repeat (first | apply blk_drewN | apply blk_drew | apply blk_alloc)); refine blk_put (cs := #[.string (⟨#[]⟩ : ByteArray), .string (⟨#[]⟩ : ByteArray), .bool false]) ?_ 0 _ rfl; (with_reducible repeat (first | apply blk_drewN | apply blk_drew | apply blk_alloc)); exact qc.out⟩
        have qh : Aside0 (Below w.heap.size w (((w11.setCell ⟨qd, 0, none⟩ (.string ((rd_T45 qa qb).f0))).setCell ⟨qd, 1, none⟩ (.string ((rd_T45 qa qb).f1))).setCell ⟨qd, 2, none⟩ (.bool ((rd_T45 qa qb).f2)))) := ⟨by repeat (first | (with_reducible first | exact HB.out | apply below_alloc | apply pw_below_drewN | apply below_drew1 | refine below_set ?_ ql.out | refine below_set ?_ qn.out) | exact HB.out)⟩
        (try clear qe); (try clear qc); (try clear HB); generalize (((w11.setCell ⟨qd, 0, none⟩ (.string ((rd_T45 qa qb).f0))).setCell ⟨qd, 1, none⟩ (.string ((rd_T45 qa qb).f1))).setCell ⟨qd, 2, none⟩ (.bool ((rd_T45 qa qb).f2))) = w30 at qf qg qh ⊢; have qe := qf; have qc := qg; have HB := qh; clear qf qg qh; have qf := Aside0.mk (blk_drew qe.out); have qg := Aside0.mk (blk_drew qc.out); have qh := Aside0.mk (below_drew1 HB.out); clear qe; clear qc; clear HB; have qe := qf; have qc := qg; have HB := qh; clear qf qg qh; refine start_ (n := 26) (S := fun w' => w'.cell? ⟨qd, 0, none⟩ = some (.string ((rd_T45 qa qb).f0)) ∧ w'.cell? ⟨qd, 1, none⟩ = some (.string ((rd_T45 qa qb).f1)) ∧ w'.cell? ⟨qd, 2, none⟩ = some (.bool ((rd_T45 qa qb).f2))) (ds := []) bm60_0 (by kernel_rfl) rfl rfl ⟨(blk_cell qc.out 0).trans rfl, (blk_cell qc.out 1).trans rfl, (blk_cell qc.out 2).trans rfl⟩ (fun hHeld => ?_); refine with_tabW spec_ValidTree.tab7 spec_ValidTree.bits7 (fun HT_ HW_ => ?_); generalize w30.drew = w31 at qe qc HB hHeld ⊢; refine pure_ (i := 0) (N := some 22) (v := ?_) (a' := ?_) bm60_1 rfl rfl (any_of HT_.out (by kernel_rfl)) (fun _ _ _ h => h) (Or.inl ⟨by rfl, ?_⟩) ?_ ?_; rotate_left
        ·intro w'; go_simp; (with_reducible rfl)
        rotate_left; (·simp only [um60]; rfl); refine take_ (i := 1) (N := some 23) (v := ?_) (a' := ?_) bm60_2 rfl rfl (take_ofW HT_.out HW_.out (by kernel_rfl)) (fun _ _ _ h => h) (Or.inl ⟨by rfl, ?_⟩) hHeld ?_ ?_; rotate_left
        ·rintro w' ⟨s0, s1, s2⟩; go_simp; (with_reducible rfl)
        rotate_left; (·simp only [um60]; rfl)
        refine one_ (i := 2) (N := some 24) bm60_3 rfl rfl (one_of HT_.out (by kernel_rfl)) (by decide) (fun K hK => ?_); refine goes_ Tryd.func48 (by kernel_rfl) rfl #[.string ((rd_T45 qa qb).f0)] (by rfl) rfl rfl (by (try simp only [List.map_toArray, List.map_cons, List.map_nil]); first | done | rfl | (simp only [List.length_drop, List.length_take]; rfl)) ?_; (with_reducible refine (spec_ValidPath.calls k1 ((rd_T45 qa qb).f0) false _ A14.out).mono ?_); rintro e w32 ⟨rfl, hb⟩; refine ⟨_, rfl, ?_⟩; have qf := Aside0.mk (blk_below (g := qj) (o := .cells #[.slice (some ad123) qa.length qk] 29 (0, 0)) (by (with_reducible repeat (first | apply blk_drewN | apply blk_drew | apply blk_alloc)); exact qe.out) hb); have qg := Aside0.mk (blk_below (g := qd) (o := .cells #[.string ((rd_T45 qa qb).f0), .string ((rd_T45 qa qb).f1), .bool ((rd_T45 qa qb).f2)] 45 (0, 0)) (by (with_reducible repeat (first | apply blk_drewN | apply blk_drew | apply blk_alloc)); exact qc.out) hb); have qh := Aside0.mk (below_step (by repeat (first | (with_reducible first | exact HB.out | apply below_alloc | apply pw_below_drewN | apply below_drew1 | refine below_set ?_ ql.out | refine below_set ?_ qn.out) | exact HB.out)) hb); clear qe; clear qc; clear HB; have qe := qf; have qc := qg; have HB := qh; clear qf qg qh; (try clear hb); (try clear hb2); (try clear hk); (try clear hi); refine hK.out _ _ ⟨(blk_cell qc.out 0).trans rfl, (blk_cell qc.out 1).trans rfl, (blk_cell qc.out 2).trans rfl⟩ (fun hHeld => ?_); clear hK K; refine norm_ (a' := ?_) ?_ ?_; rotate_left
        ·show Act.put _ (some 24) _ = _
         simp only [um60]; rfl
        refine pure_ (i := 3) (N := some 25) (v := ?_) (a' := ?_) bm60_4 rfl rfl (any_of HT_.out (by kernel_rfl)) (fun _ _ _ h => h) (Or.inl ⟨by rfl, ?_⟩) ?_ ?_; rotate_left
        ·intro w'; go_simp; (with_reducible rfl)
        rotate_left; (·simp only [um60]; rfl); refine pure_ (i := 4) (N := some 26) (v := ?_) (a' := ?_) bm60_5 rfl rfl (any_of HT_.out (by kernel_rfl)) (fun _ _ _ h => h) (Or.inl ⟨by rfl, ?_⟩) ?_ ?_; rotate_left
        ·intro w'; go_simp; (with_reducible rfl)
        rotate_left; (·simp only [um60]; rfl); refine pure_ (i := 5) (N := some 27) (v := undef) (a' := ?_) bm60_6 rfl rfl (any_of HT_.out (by kernel_rfl)) (fun _ _ _ h => h) (Or.inr ⟨by rfl, rfl⟩) ?_ ?_; rotate_left; (·simp only [um60]; rfl); refine pure_ (i := 6) (N := some 28) (v := undef) (a' := ?_) bm60_7 rfl rfl (any_of HT_.out (by kernel_rfl)) (fun _ _ _ h => h) (Or.inr ⟨by rfl, rfl⟩) ?_ ?_; rotate_left; (·simp only [um60]; rfl); refine pure_ (i := 7) (N := some 29) (v := undef) (a' := ?_) bm60_8 rfl rfl (any_of HT_.out (by kernel_rfl)) (fun _ _ _ h => h) (Or.inr ⟨by rfl, rfl⟩) ?_ ?_; rotate_left; (·simp only [um60]; rfl); refine pure_ (i := 8) (N := some 30) (v := undef) (a' := ?_) bm60_9 rfl rfl (any_of HT_.out (by kernel_rfl)) (fun _ _ _ h => h) (Or.inr ⟨by rfl, rfl⟩) ?_ ?_; rotate_left; (·simp only [um60]; rfl); refine pure_ (i := 9) (N := some 31) (v := ?_) (a' := ?_) bm60_10 rfl rfl (any_of HT_.out (by kernel_rfl)) (fun _ _ _ h => h) (Or.inl ⟨by rfl, ?_⟩) ?_ ?_; rotate_left
        ·intro w'; go_simp; (with_reducible rfl)
        rotate_left; (·simp only [um60]; rfl); refine pure_ (i := 10) (N := some 32) (v := ?_) (a' := ?_) bm60_11 rfl rfl (any_of HT_.out (by kernel_rfl)) (fun _ _ _ h => h) (Or.inl ⟨by rfl, ?_⟩) ?_ ?_; rotate_left
        ·intro w'; go_simp; (with_reducible rfl)
        rotate_left; (·simp only [um60]; rfl); refine pure_ (i := 11) (N := some 33) (v := undef) (a' := ?_) bm60_12 rfl rfl (any_of HT_.out (by kernel_rfl)) (fun _ _ _ h => h) (Or.inr ⟨by rfl, rfl⟩) ?_ ?_; rotate_left; (·simp only [um60]; rfl); refine pure_ (i := 12) (N := some 34) (v := undef) (a' := ?_) bm60_13 rfl rfl (any_of HT_.out (by kernel_rfl)) (fun _ _ _ h => h) (Or.inr ⟨by rfl, rfl⟩) ?_ ?_; rotate_left; (·simp only [um60]; rfl); refine pure_ (i := 13) (N := some 35) (v := undef) (a' := ?_) bm60_14 rfl rfl (any_of HT_.out (by kernel_rfl)) (fun _ _ _ h => h) (Or.inr ⟨by rfl, rfl⟩) ?_ ?_; rotate_left; (·simp only [um60]; rfl); refine pure_ (i := 14) (N := some 36) (v := undef) (a' := ?_) bm60_15 rfl rfl (any_of HT_.out (by kernel_rfl)) (fun _ _ _ h => h) (Or.inr ⟨by rfl, rfl⟩) ?_ ?_; rotate_left; (·simp only [um60]; rfl); refine pure_ (i := 15) (N := some 37) (v := undef) (a' := ?_) bm60_16 rfl rfl (any_of HT_.out (by kernel_rfl)) (fun _ _ _ h => h) (Or.inr ⟨by rfl, rfl⟩) ?_ ?_; rotate_left; (·simp only [um60]; rfl); refine pure_ (i := 16) (N := some 38) (v := undef) (a' := ?_) bm60_17 rfl rfl (any_of HT_.out (by kernel_rfl)) (fun _ _ _ h => h) (Or.inr ⟨by rfl, rfl⟩) ?_ ?_; rotate_left; (·simp only [um60]; rfl); refine pure_ (i := 17) (N := some 39) (v := undef) (a' := ?_) bm60_18 rfl rfl (any_of HT_.out (by kernel_rfl)) (fun _ _ _ h => h) (Or.inr ⟨by rfl, rfl⟩) ?_ ?_; rotate_left; (·simp only [um60]; rfl); refine pure_ (i := 18) (N := some 40) (v := undef) (a' := ?_) bm60_19 rfl rfl (any_of HT_.out (by kernel_rfl)) (fun _ _ _ h => h) (Or.inr ⟨by rfl, rfl⟩) ?_ ?_; rotate_left; (·simp only [um60]; rfl); refine pure_ (i := 19) (N := some 41) (v := undef) (a' := ?_) bm60_20 rfl rfl (any_of HT_.out (by kernel_rfl)) (fun _ _ _ h => h) (Or.inr ⟨by rfl, rfl⟩) ?_ ?_; rotate_left; (·simp only [um60]; rfl); refine pure_ (i := 20) (N := some 42) (v := undef) (a' := ?_) bm60_21 rfl rfl (any_of HT_.out (by kernel_rfl)) (fun _ _ _ h => h) (Or.inr ⟨by rfl, rfl⟩) ?_ ?_; rotate_left; (·simp only [um60]; rfl); refine pure_ (i := 21) (N := some 43) (v := undef) (a' := ?_) bm60_22 rfl rfl (any_of HT_.out (by kernel_rfl)) (fun _ _ _ h => h) (Or.inr ⟨by rfl, rfl⟩) ?_ ?_; rotate_left; (·simp only [um60]; rfl); refine pure_ (i := 22) (N := some 44) (v := undef) (a' := ?_) bm60_23 rfl rfl (any_of HT_.out (by kernel_rfl)) (fun _ _ _ h => h) (Or.inr ⟨by rfl, rfl⟩) ?_ ?_; rotate_left; (·simp only [um60]; rfl); refine pure_ (i := 23) (N := some 45) (v := undef) (a' := ?_) bm60_24 rfl rfl (any_of HT_.out (by kernel_rfl)) (fun _ _ _ h => h) (Or.inr ⟨by rfl, rfl⟩) ?_ ?_; rotate_left; (·simp only [um60]; rfl); refine pure_ (i := 24) (N := some 46) (v := undef) (a' := ?_) bm60_25 rfl rfl (any_of HT_.out (by kernel_rfl)) (fun _ _ _ h => h) (Or.inr ⟨by rfl, rfl⟩) ?_ ?_; rotate_left; (·simp only [um60]; rfl); refine pure_ (i := 25) (N := some 47) (v := ?_) (a' := ?_) bm60_26 rfl rfl (any_of HT_.out (by kernel_rfl)) (fun _ _ _ h => h) (Or.inl ⟨by rfl, ?_⟩) ?_ ?_; rotate_left
        ·intro w'; go_simp; (with_reducible rfl)
        rotate_left; (·simp only [um60]; rfl)
        refine done_ (done_of HT_.out (by kernel_rfl)) ?_
        try go_wp2
        go_meet
        case rel => exact ⟨_, (true), (by first | rfl | (simp; done) | (simp [*]; done)), H', ⟨by have := HK1.out; first | omega | exact Nat.le_refl _⟩, ⟨by (with_reducible repeat (first | apply blk_drewN | apply blk_drew | apply blk_alloc)); exact qe.out⟩, ⟨by (with_reducible repeat (first | apply blk_drewN | apply blk_drew | apply blk_alloc)); exact qc.out⟩, ⟨by repeat (first | (with_reducible first | exact HB.out | apply below_alloc | apply pw_below_drewN | apply below_drew1 | refine below_set ?_ ql.out | refine below_set ?_ qn.out) | exact HB.out)⟩⟩
      case rest =>
       clear HC9; (try clear c1); (try clear c2); (try clear p2); (try clear c4); (try clear c15); (try clear c20); (try clear c20b0); (try clear c22); (try clear c23); obtain ⟨kq, x47_8, rfl, HA, HJ8, qe, qc, HB⟩ := hcut
       cases kq with
       | zero => exact absurd HA.out (by simp [spec_ValidTree.j1])
       | succ kj8 =>
        have H := HA.out; clear HA; simp only [spec_ValidTree.j1] at H
        by_cases c33 : x47_8 = true
        ·subst c33
         have H1 : (some false) = some r := by rw [if_pos rfl] at H; exact H
         clear H; have H := H1; clear H1; obtain rfl := Option.some.inj H
         go_wp2
         go_ret
         exact ⟨by first | rfl | (simp [errW_none, errW_some] <;> rfl) | (simp [*, errW_none, errW_some] <;> rfl), by repeat (first | (with_reducible first | exact HB.out | apply below_alloc | apply pw_below_drewN | apply below_drew1 | refine below_set ?_ ql.out | refine below_set ?_ qn.out) | exact HB.out)⟩
        ·replace c33 := Bool.eq_false_iff.mpr c33; subst c33
         have H1 : (spec_ValidTree.l1 kj8 qb 0 qa ((rd_T45 qa qb).f0) ((rd_T45 qa qb).f1) ((rd_T45 qa qb).f2)) = some r := by rw [if_neg (show ¬ (false = true) by decide)] at H; exact H
         clear H; have H := H1; clear H1; have H' := Aside0.mk H; clear H
         go_wp2
         go_loopg [5] kj8 (fun kq v5 w' => ∃ (qi : Int), v5 = .int .i64 qi ∧ Aside0 (spec_ValidTree.l1 kq qb qi qa ((rd_T45 qa qb).f0) ((rd_T45 qa qb).f1) ((rd_T45 qa qb).f2) = some r) ∧ Aside0 (kq ≤ kj8) ∧ Aside0 (w'.heap[qj]? = some (.cells #[(.slice (some ad123) qa.length qk)] 29 (0, 0))) ∧ Aside0 (w'.heap[qd]? = some (.cells #[.string ((rd_T45 qa qb).f0), .string ((rd_T45 qa qb).f1), .bool ((rd_T45 qa qb).f2)] 45 (0, 0))) ∧ Aside0 (Below w.heap.size w w'))
         case atStart => exact ⟨(0), (by first | rfl | (simp; done) | (simp [*]; done)), H', ⟨Nat.le_refl _⟩, ⟨by (with_reducible repeat (first | apply blk_drewN | apply blk_drew | apply blk_alloc)); exact qe.out⟩, ⟨by (with_reducible repeat (first | apply blk_drewN | apply blk_drew | apply blk_alloc)); exact qc.out⟩, ⟨by repeat (first | (with_reducible first | exact HB.out | apply below_alloc | apply pw_below_drewN | apply below_drew1 | refine below_set ?_ ql.out | refine below_set ?_ qn.out) | exact HB.out)⟩⟩
         case round =>
          clear H'; (try clear c1); (try clear c2); (try clear p2); (try clear c3); (try clear c4); (try clear c15); (try clear c20); (try clear c20b0); (try clear c22); (try clear c23); (try clear c33); (try clear p2); obtain ⟨qi, rfl, HA, HK3, qe, qc, HB⟩ := hrel
          cases gk with
          | zero => exact absurd HA.out (by simp [spec_ValidTree.l1])
          | succ k3 =>
           have H := HA.out; clear HA; simp only [spec_ValidTree.l1] at H
           by_cases c34 : qi < qb
           ·rw [if_pos c34] at H
            have c34b0 : decide (qi < qb) = true := decide_eq_true c34; clear c34
            by_cases c35 : 0 ≤ qi
            ·rw [if_pos c35] at H
             have c35b0 : decide (0 ≤ qi) = true := decide_eq_true c35; clear c35
             by_cases c36 : qi < (qa.length : Int)
             ·rw [if_pos c36] at H
              have c36b0 : decide (qi < (qa.length : Int)) = true := decide_eq_true c36; clear c36; replace H := Option.bind_eq_some_iff.mp H; obtain ⟨t128, A370, H⟩ := H; replace H : (if t128 = true then (some false) else (spec_ValidTree.l1 k3 qb (wrap64 (qi + 1)) qa ((rd_T45 qa qb).f0) ((rd_T45 qa qb).f1) ((rd_T45 qa qb).f2))) = some r := H; have A37 := Aside0.mk A370; clear A370
              by_cases c38 : t128 = true
              ·subst c38
               have H1 : (some false) = some r := by rw [if_pos rfl] at H; exact H
               clear H; have H := H1; clear H1; obtain rfl := Option.some.inj H
               try go_wp2
               have qf := Aside0.mk (blk_drew qe.out); have qg := Aside0.mk (blk_drew qc.out); have qh := Aside0.mk (below_drew1 HB.out); clear qe; clear qc; clear HB; have qe := qf; have qc := qg; have HB := qh; clear qf qg qh; have p127 : 0 ≤ (qi : Int) := of_decide_eq_true (by first | (with_reducible assumption) | assumption); have q127 : qi < (qa.length : Int) := of_decide_eq_true (by first | (with_reducible assumption) | assumption); obtain ⟨ad127, e127, hx127_0, hx127_1, hx127_2⟩ := at_T45 HR0_0.out qi p127 q127; have hw127_2 := hx127_2; have hw127_1 := hx127_1; have hw127_0 := hx127_0
               obtain rfl : ad123 = ad127 := (by injection e127)
               replace hx127_0 := (HB.out.cell (World.block_lt_of_cell? w _ hx127_0)).trans hx127_0; replace hx127_1 := (HB.out.cell (World.block_lt_of_cell? w _ hx127_1)).trans hx127_1; replace hx127_2 := (HB.out.cell (World.block_lt_of_cell? w _ hx127_2)).trans hx127_2; replace p127 := eq_true p127; replace q127 := eq_true q127; refine start_ (n := 9) (S := fun w' => w'.cell? ⟨qj, 0, none⟩ = some (.slice (some ad123) qa.length qk) ∧ w'.cell? ⟨qd, 0, none⟩ = some (.string ((rd_T45 qa qb).f0)) ∧ w'.cell? ⟨qd, 1, none⟩ = some (.string ((rd_T45 qa qb).f1)) ∧ w'.cell? ⟨qd, 2, none⟩ = some (.bool ((rd_T45 qa qb).f2)) ∧ w'.cell? (ad123.add ((qi).toNat * 3)) = some (.string ((rd_T45 qa qi).f0)) ∧ w'.cell? ⟨(ad123.add ((qi).toNat * 3)).block, (ad123.add ((qi).toNat * 3)).off + 1, none⟩ = some (.string ((rd_T45 qa qi).f1)) ∧ w'.cell? ⟨(ad123.add ((qi).toNat * 3)).block, (ad123.add ((qi).toNat * 3)).off + 2, none⟩ = some (.bool ((rd_T45 qa qi).f2))) (ds := []) bm60_33 (by kernel_rfl) rfl rfl ⟨(blk_cell qe.out 0).trans rfl, (blk_cell qc.out 0).trans rfl, (blk_cell qc.out 1).trans rfl, (blk_cell qc.out 2).trans rfl, ((HB.out.cell (World.block_lt_of_cell? w _ hw127_0)).trans hw127_0), ((HB.out.cell (World.block_lt_of_cell? w _ hw127_1)).trans hw127_1), ((HB.out.cell (World.block_lt_of_cell? w _ hw127_2)).trans hw127_2)⟩ (fun hHeld => ?_); refine with_tabW spec_ValidTree.tab12 spec_ValidTree.bits12 (fun HT_ HW_ => ?_); generalize wr.drew = w39 at qe qc HB hx127_0 hx127_1 hx127_2 hHeld ⊢; refine pure_ (i := 0) (N := some 53) (v := ?_) (a' := ?_) bm60_34 rfl rfl (any_of HT_.out (by kernel_rfl)) (fun _ _ _ h => h) (Or.inl ⟨by rfl, ?_⟩) ?_ ?_; rotate_left
               ·intro w'; go_simp; (with_reducible rfl)
               rotate_left; (·simp only [um60]; rfl); refine pure_ (i := 2) (N := some 55) (v := ?_) (a' := ?_) bm60_35 rfl rfl (any_of HT_.out (by kernel_rfl)) (fun _ _ _ h => h) (Or.inl ⟨by rfl, ?_⟩) ?_ ?_; rotate_left
               ·intro w'; go_simp; (with_reducible rfl)
               rotate_left; (·simp only [um60]; rfl); refine pure_ (i := 6) (N := some 59) (v := ?_) (a' := ?_) bm60_36 rfl rfl (any_of HT_.out (by kernel_rfl)) (fun _ _ _ h => h) (Or.inl ⟨by rfl, ?_⟩) ?_ ?_; rotate_left
               ·intro w'; go_simp; (with_reducible rfl)
               rotate_left; (·simp only [um60]; rfl); refine take_ (i := 1) (N := some 54) (v := ?_) (a' := ?_) bm60_37 rfl rfl (take_ofW HT_.out HW_.out (by kernel_rfl)) (fun _ _ _ h => h) (Or.inl ⟨by rfl, ?_⟩) hHeld ?_ ?_; rotate_left
               ·rintro w' ⟨s0, s1, s2, s3, s4, s5, s6⟩; go_simp; (with_reducible rfl)
               rotate_left; (·simp only [um60]; rfl); refine pure_ (i := 3) (N := some 56) (v := ?_) (a' := ?_) bm60_38 rfl rfl (any_of HT_.out (by kernel_rfl)) (fun _ _ _ h => h) (Or.inl ⟨by rfl, ?_⟩) ?_ ?_; rotate_left
               ·intro w'; go_simp; (with_reducible rfl)
               rotate_left; (·simp only [um60]; rfl); refine pure_ (i := 4) (N := some 57) (v := ?_) (a' := ?_) bm60_39 rfl rfl (any_of HT_.out (by kernel_rfl)) (fun _ _ _ h => h) (Or.inl ⟨by rfl, ?_⟩) ?_ ?_; rotate_left
               ·intro w'; go_simp; (with_reducible rfl)
               rotate_left; (·simp only [um60]; rfl); refine take_ (i := 5) (N := some 58) (v := ?_) (a' := ?_) bm60_40 rfl rfl (take_ofW HT_.out HW_.out (by kernel_rfl)) (fun _ _ _ h => h) (Or.inl ⟨by rfl, ?_⟩) hHeld ?_ ?_; rotate_left
               ·rintro w' ⟨s0, s1, s2, s3, s4, s5, s6⟩; go_simp; (with_reducible rfl)
               rotate_left; (·simp only [um60]; rfl); refine take_ (i := 7) (N := some 60) (v := ?_) (a' := ?_) bm60_41 rfl rfl (take_ofW HT_.out HW_.out (by kernel_rfl)) (fun _ _ _ h => h) (Or.inl ⟨by rfl, ?_⟩) hHeld ?_ ?_; rotate_left
               ·rintro w' ⟨s0, s1, s2, s3, s4, s5, s6⟩; go_simp; (with_reducible rfl)
               rotate_left; (·simp only [um60]; rfl)
               refine one_ (i := 8) (N := some 61) bm60_42 rfl rfl (one_of HT_.out (by kernel_rfl)) (by decide) (fun K hK => ?_); refine goes_ Tryd.func49 (by kernel_rfl) rfl #[.string ((rd_T45 qa qi).f0), .string ((rd_T45 qa qb).f0)] (by rfl) rfl rfl (by (try simp only [List.map_toArray, List.map_cons, List.map_nil]); first | done | rfl | (simp only [List.length_drop, List.length_take]; rfl)) ?_; (with_reducible refine (spec_l5Begins.calls ((rd_T45 qa qi).f0) ((rd_T45 qa qb).f0) true _ A37.out).mono ?_); rintro e w' ⟨rfl, ⟨nd, rfl⟩⟩; refine ⟨_, rfl, ?_⟩; refine hK.out _ _ ⟨(blk_cell qe.out 0).trans rfl, (blk_cell qc.out 0).trans rfl, (blk_cell qc.out 1).trans rfl, (blk_cell qc.out 2).trans rfl, ((HB.out.cell (World.block_lt_of_cell? w _ hw127_0)).trans hw127_0), ((HB.out.cell (World.block_lt_of_cell? w _ hw127_1)).trans hw127_1), ((HB.out.cell (World.block_lt_of_cell? w _ hw127_2)).trans hw127_2)⟩ (fun hHeld => ?_); clear hK K; refine norm_ (a' := ?_) ?_ ?_; rotate_left
               ·show Act.put _ (some 61) _ = _
                simp only [um60]; rfl
               refine done_ (done_of HT_.out (by kernel_rfl)) ?_
               try go_wp2
               go_ret
               exact ⟨by first | rfl | (simp [errW_none, errW_some] <;> rfl) | (simp [*, errW_none, errW_some] <;> rfl), by repeat (first | (with_reducible first | exact HB.out | apply below_alloc | apply pw_below_drewN | apply below_drew1 | refine below_set ?_ ql.out | refine below_set ?_ qn.out) | exact HB.out)⟩
              ·replace c38 := Bool.eq_false_iff.mpr c38; subst c38
               have H1 : (spec_ValidTree.l1 k3 qb (wrap64 (qi + 1)) qa ((rd_T45 qa qb).f0) ((rd_T45 qa qb).f1) ((rd_T45 qa qb).f2)) = some r := by rw [if_neg (show ¬ (false = true) by decide)] at H; exact H
               clear H; have H := H1; clear H1; have H' := Aside0.mk H; clear H
               try go_wp2
               have qf := Aside0.mk (blk_drew qe.out); have qg := Aside0.mk (blk_drew qc.out); have qh := Aside0.mk (below_drew1 HB.out); clear qe; clear qc; clear HB; have qe := qf; have qc := qg; have HB := qh; clear qf qg qh; have p127 : 0 ≤ (qi : Int) := of_decide_eq_true (by first | (with_reducible assumption) | assumption); have q127 : qi < (qa.length : Int) := of_decide_eq_true (by first | (with_reducible assumption) | assumption); obtain ⟨ad127, e127, hx127_0, hx127_1, hx127_2⟩ := at_T45 HR0_0.out qi p127 q127; have hw127_2 := hx127_2; have hw127_1 := hx127_1; have hw127_0 := hx127_0
               obtain rfl : ad123 = ad127 := (by injection e127)
               replace hx127_0 := (HB.out.cell (World.block_lt_of_cell? w _ hx127_0)).trans hx127_0; replace hx127_1 := (HB.out.cell (World.block_lt_of_cell? w _ hx127_1)).trans hx127_1; replace hx127_2 := (HB.out.cell (World.block_lt_of_cell? w _ hx127_2)).trans hx127_2; replace p127 := eq_true p127; replace q127 := eq_true q127; refine start_ (n := 9) (S := fun w' => w'.cell? ⟨qj, 0, none⟩ = some (.slice (some ad123) qa.length qk) ∧ w'.cell? ⟨qd, 0, none⟩ = some (.string ((rd_T45 qa qb).f0)) ∧ w'.cell? ⟨qd, 1, none⟩ = some (.string ((rd_T45 qa qb).f1)) ∧ w'.cell? ⟨qd, 2, none⟩ = some (.bool ((rd_T45 qa qb).f2)) ∧ w'.cell? (ad123.add ((qi).toNat * 3)) = some (.string ((rd_T45 qa qi).f0)) ∧ w'.cell? ⟨(ad123.add ((qi).toNat * 3)).block, (ad123.add ((qi).toNat * 3)).off + 1, none⟩ = some (.string ((rd_T45 qa qi).f1)) ∧ w'.cell? ⟨(ad123.add ((qi).toNat * 3)).block, (ad123.add ((qi).toNat * 3)).off + 2, none⟩ = some (.bool ((rd_T45 qa qi).f2))) (ds := []) bm60_33 (by kernel_rfl) rfl rfl ⟨(blk_cell qe.out 0).trans rfl, (blk_cell qc.out 0).trans rfl, (blk_cell qc.out 1).trans rfl, (blk_cell qc.out 2).trans rfl, ((HB.out.cell (World.block_lt_of_cell? w _ hw127_0)).trans hw127_0), ((HB.out.cell (World.block_lt_of_cell? w _ hw127_1)).trans hw127_1), ((HB.out.cell (World.block_lt_of_cell? w _ hw127_2)).trans hw127_2)⟩ (fun hHeld => ?_); refine with_tabW spec_ValidTree.tab12 spec_ValidTree.bits12 (fun HT_ HW_ => ?_); generalize wr.drew = w40 at qe qc HB hx127_0 hx127_1 hx127_2 hHeld ⊢; refine pure_ (i := 0) (N := some 53) (v := ?_) (a' := ?_) bm60_34 rfl rfl (any_of HT_.out (by kernel_rfl)) (fun _ _ _ h => h) (Or.inl ⟨by rfl, ?_⟩) ?_ ?_; rotate_left
               ·intro w'; go_simp; (with_reducible rfl)
               rotate_left; (·simp only [um60]; rfl); refine pure_ (i := 2) (N := some 55) (v := ?_) (a' := ?_) bm60_35 rfl rfl (any_of HT_.out (by kernel_rfl)) (fun _ _ _ h => h) (Or.inl ⟨by rfl, ?_⟩) ?_ ?_; rotate_left
               ·intro w'; go_simp; (with_reducible rfl)
               rotate_left; (·simp only [um60]; rfl); refine pure_ (i := 6) (N := some 59) (v := ?_) (a' := ?_) bm60_36 rfl rfl (any_of HT_.out (by kernel_rfl)) (fun _ _ _ h => h) (Or.inl ⟨by rfl, ?_⟩) ?_ ?_; rotate_left
               ·intro w'; go_simp; (with_reducible rfl)
               rotate_left; (·simp only [um60]; rfl); refine take_ (i := 1) (N := some 54) (v := ?_) (a' := ?_) bm60_37 rfl rfl (take_ofW HT_.out HW_.out (by kernel_rfl)) (fun _ _ _ h => h) (Or.inl ⟨by rfl, ?_⟩) hHeld ?_ ?_; rotate_left
               ·rintro w' ⟨s0, s1, s2, s3, s4, s5, s6⟩; go_simp; (with_reducible rfl)
               rotate_left; (·simp only [um60]; rfl); refine pure_ (i := 3) (N := some 56) (v := ?_) (a' := ?_) bm60_38 rfl rfl (any_of HT_.out (by kernel_rfl)) (fun _ _ _ h => h) (Or.inl ⟨by rfl, ?_⟩) ?_ ?_; rotate_left
               ·intro w'; go_simp; (with_reducible rfl)
               rotate_left; (·simp only [um60]; rfl); refine pure_ (i := 4) (N := some 57) (v := ?_) (a' := ?_) bm60_39 rfl rfl (any_of HT_.out (by kernel_rfl)) (fun _ _ _ h => h) (Or.inl ⟨by rfl, ?_⟩) ?_ ?_; rotate_left
               ·intro w'; go_simp; (with_reducible rfl)
               rotate_left; (·simp only [um60]; rfl); refine take_ (i := 5) (N := some 58) (v := ?_) (a' := ?_) bm60_40 rfl rfl (take_ofW HT_.out HW_.out (by kernel_rfl)) (fun _ _ _ h => h) (Or.inl ⟨by rfl, ?_⟩) hHeld ?_ ?_; rotate_left
               ·rintro w' ⟨s0, s1, s2, s3, s4, s5, s6⟩; go_simp; (with_reducible rfl)
               rotate_left; (·simp only [um60]; rfl); refine take_ (i := 7) (N := some 60) (v := ?_) (a' := ?_) bm60_41 rfl rfl (take_ofW HT_.out HW_.out (by kernel_rfl)) (fun _ _ _ h => h) (Or.inl ⟨by rfl, ?_⟩) hHeld ?_ ?_; rotate_left
               ·rintro w' ⟨s0, s1, s2, s3, s4, s5, s6⟩; go_simp; (with_reducible rfl)
               rotate_left; (·simp only [um60]; rfl)
               refine one_ (i := 8) (N := some 61) bm60_42 rfl rfl (one_of HT_.out (by kernel_rfl)) (by decide) (fun K hK => ?_); refine goes_ Tryd.func49 (by kernel_rfl) rfl #[.string ((rd_T45 qa qi).f0), .string ((rd_T45 qa qb).f0)] (by rfl) rfl rfl (by (try simp only [List.map_toArray, List.map_cons, List.map_nil]); first | done | rfl | (simp only [List.length_drop, List.length_take]; rfl)) ?_; (with_reducible refine (spec_l5Begins.calls ((rd_T45 qa qi).f0) ((rd_T45 qa qb).f0) false _ A37.out).mono ?_); rintro e w' ⟨rfl, ⟨nd, rfl⟩⟩; refine ⟨_, rfl, ?_⟩; refine hK.out _ _ ⟨(blk_cell qe.out 0).trans rfl, (blk_cell qc.out 0).trans rfl, (blk_cell qc.out 1).trans rfl, (blk_cell qc.out 2).trans rfl, ((HB.out.cell (World.block_lt_of_cell? w _ hw127_0)).trans hw127_0), ((HB.out.cell (World.block_lt_of_cell? w _ hw127_1)).trans hw127_1), ((HB.out.cell (World.block_lt_of_cell? w _ hw127_2)).trans hw127_2)⟩ (fun hHeld => ?_); clear hK K; refine norm_ (a' := ?_) ?_ ?_; rotate_left
               ·show Act.put _ (some 61) _ = _
                simp only [um60]; rfl
               refine done_ (done_of HT_.out (by kernel_rfl)) ?_
               try go_wp2
               go_roundg k3
               case measure => have := HK1.out; have := HJ8.out; have := HK3.out; omega
               case rel => exact ⟨(wrap64 (qi + 1)), (by first | rfl | (simp; done) | (simp [*]; done)), H', ⟨by have := HK1.out; have := HJ8.out; have := HK3.out; omega⟩, ⟨by (with_reducible repeat (first | apply blk_drewN | apply blk_drew | apply blk_alloc)); exact qe.out⟩, ⟨by (with_reducible repeat (first | apply blk_drewN | apply blk_drew | apply blk_alloc)); exact qc.out⟩, ⟨by repeat (first | (with_reducible first | exact HB.out | apply below_alloc | apply pw_below_drewN | apply below_drew1 | refine below_set ?_ ql.out | refine below_set ?_ qn.out) | exact HB.out)⟩⟩
             ·rw [if_neg c36] at H
              exact absurd H (by simp)
            ·rw [if_neg c35] at H
             exact absurd H (by simp)
           ·rw [if_neg c34] at H
            have c34b0 : decide (qi < qb) = false := decide_eq_false c34; clear c34; have H' := Aside0.mk H; clear H
            go_wp2
            go_roundg k3
            case measure => have := HK1.out; have := HJ8.out; have := HK3.out; omega
            case rel => exact ⟨(wrap64 (qb + 1)), (by first | rfl | (simp; done) | (simp [*]; done)), H', ⟨by have := HK1.out; have := HJ8.out; have := HK3.out; omega⟩, ⟨by (with_reducible repeat (first | apply blk_drewN | apply blk_drew | apply blk_alloc)); exact qe.out⟩, ⟨by repeat (first | (with_reducible first | exact HB.out | apply below_alloc | apply pw_below_drewN | apply below_drew1 | refine below_set ?_ ql.out | refine below_set ?_ qn.out) | exact HB.out)⟩⟩
     ·rw [if_neg c8] at H
      exact absurd H (by simp)
    ·rw [if_neg c7] at H
     have c7b0 : decide (qb < (qa.length : Int)) = false := decide_eq_false c7; clear c7; obtain rfl := Option.some.inj H; have hcz41_0 : wr.cell? ⟨qj, 0, none⟩ = some (.slice A0_0 qa.length qk) := (blk_cell qe.out 0).trans rfl; have hfz41_0 := blk_frozen qe.out 0
     go_wp2
     go_ret
     exact ⟨by first | rfl | (simp [errW_none, errW_some] <;> rfl) | (simp [*, errW_none, errW_some] <;> rfl), by repeat (first | (with_reducible first | exact HB.out | apply below_alloc | apply pw_below_drewN | apply below_drew1 | refine below_set ?_ ql.out) | exact HB.out)⟩

end Go.Proofs.YtkdghhkpmkfjhaaDoor.P


namespace Go.Proofs.YtkdghhkpmkfjhaaDoor.P
open Go.RowKit Go.Proofs.YtkdghhkpmkfjhaaDoorW.PrintWords Go.Proofs.YtkdghhkpmkfjhaaDoorW.PrintLast Go.Proofs.YtkdghhkpmkfjhaaDoorW.PrintMore
attribute [local go_sem] max2_int min2_int max_two min_two max_three min_three max_four min_four
set_option linter.unusedVariables false
set_option linter.unusedSimpArgs false

abbrev tm61 := true
abbrev fm61 := false
abbrev bm61_0 : Array Bool := #[fm61, fm61, fm61, fm61, fm61, fm61, fm61, fm61, fm61, fm61, fm61, fm61, fm61, fm61, fm61]
abbrev bm61_1 : Array Bool := #[tm61, fm61, fm61, fm61, fm61, fm61, fm61, fm61, fm61, fm61, fm61, fm61, fm61, fm61, fm61]
abbrev bm61_2 : Array Bool := #[tm61, tm61, fm61, fm61, fm61, fm61, fm61, fm61, fm61, fm61, fm61, fm61, fm61, fm61, fm61]
abbrev bm61_3 : Array Bool := #[tm61, tm61, tm61, fm61, fm61, fm61, fm61, fm61, fm61, fm61, fm61, fm61, fm61, fm61, fm61]
abbrev bm61_4 : Array Bool := #[tm61, tm61, tm61, tm61, fm61, fm61, fm61, fm61, fm61, fm61, fm61, fm61, fm61, fm61, fm61]
abbrev bm61_5 : Array Bool := #[tm61, tm61, tm61, tm61, tm61, fm61, fm61, fm61, fm61, fm61, fm61, fm61, fm61, fm61, fm61]
abbrev bm61_6 : Array Bool := #[tm61, tm61, tm61, tm61, tm61, tm61, fm61, fm61, fm61, fm61, fm61, fm61, fm61, fm61, fm61]
abbrev bm61_7 : Array Bool := #[tm61, tm61, tm61, tm61, tm61, tm61, tm61, fm61, fm61, fm61, fm61, fm61, fm61, fm61, fm61]
abbrev bm61_8 : Array Bool := #[tm61, tm61, tm61, tm61, tm61, tm61, tm61, tm61, fm61, fm61, fm61, fm61, fm61, fm61, fm61]
abbrev bm61_9 : Array Bool := #[tm61, tm61, tm61, tm61, tm61, tm61, tm61, tm61, tm61, fm61, fm61, fm61, fm61, fm61, fm61]
abbrev bm61_10 : Array Bool := #[tm61, tm61, tm61, tm61, tm61, tm61, tm61, tm61, tm61, tm61, fm61, fm61, fm61, fm61, fm61]
abbrev bm61_11 : Array Bool := #[tm61, tm61, tm61, tm61, tm61, tm61, tm61, tm61, tm61, tm61, tm61, fm61, fm61, fm61, fm61]
abbrev bm61_12 : Array Bool := #[tm61, tm61, tm61, tm61, tm61, tm61, tm61, tm61, tm61, tm61, tm61, tm61, fm61, fm61, fm61]
abbrev bm61_13 : Array Bool := #[tm61, tm61, tm61, tm61, tm61, tm61, tm61, tm61, tm61, tm61, tm61, tm61, tm61, fm61, fm61]
abbrev bm61_14 : Array Bool := #[tm61, tm61, tm61, tm61, tm61, tm61, tm61, tm61, tm61, tm61, tm61, tm61, tm61, tm61, fm61]
abbrev bm61_15 : Array Bool := #[tm61, tm61, tm61, tm61, tm61, tm61, tm61, tm61, tm61, tm61, tm61, tm61, tm61, tm61, tm61]
abbrev bm61_16 : Array Bool := #[tm61, tm61, tm61, tm61, tm61, fm61, tm61, fm61, fm61, fm61, fm61, fm61, fm61, fm61, fm61]
abbrev bm61_17 : Array Bool := #[tm61, tm61, tm61, tm61, tm61, fm61, tm61, fm61, tm61, fm61, fm61, fm61, fm61, fm61, fm61]
abbrev bm61_18 : Array Bool := #[tm61, tm61, tm61, tm61, tm61, tm61, tm61, fm61, tm61, fm61, fm61, fm61, fm61, fm61, fm61]
abbrev bm61_19 : Array Bool := #[fm61, fm61, fm61, fm61, fm61, fm61, fm61, fm61, fm61, fm61, fm61]
abbrev bm61_20 : Array Bool := #[tm61, fm61, fm61, fm61, fm61, fm61, fm61, fm61, fm61, fm61, fm61]
abbrev bm61_21 : Array Bool := #[tm61, fm61, tm61, fm61, fm61, fm61, fm61, fm61, fm61, fm61, fm61]
abbrev bm61_22 : Array Bool := #[tm61, fm61, tm61, fm61, tm61, fm61, fm61, fm61, fm61, fm61, fm61]
abbrev bm61_23 : Array Bool := #[tm61, tm61, tm61, fm61, tm61, fm61, fm61, fm61, fm61, fm61, fm61]
abbrev bm61_24 : Array Bool := #[tm61, tm61, tm61, tm61, tm61, fm61, fm61, fm61, fm61, fm61, fm61]
abbrev bm61_25 : Array Bool := #[tm61, tm61, tm61, tm61, tm61, tm61, fm61, fm61, fm61, fm61, fm61]
abbrev bm61_26 : Array Bool := #[tm61, tm61, tm61, tm61, tm61, tm61, tm61, fm61, fm61, fm61, fm61]
abbrev bm61_27 : Array Bool := #[tm61, tm61, tm61, tm61, tm61, tm61, tm61, tm61, fm61, fm61, fm61]
abbrev bm61_28 : Array Bool := #[tm61, tm61, tm61, tm61, tm61, tm61, tm61, tm61, tm61, fm61, fm61]
abbrev bm61_29 : Array Bool := #[tm61, tm61, tm61, tm61, tm61, tm61, tm61, tm61, tm61, tm61, fm61]
abbrev bm61_30 : Array Bool := #[tm61, tm61, tm61, tm61, tm61, tm61, tm61, tm61, tm61, tm61, tm61]
theorem um61 : (∀ (a : Act) (d : Tmp) (v : Value), Act.put a (some d) v = { a with tmps := a.tmps.setIfInBounds d v }) ∧ (∀ (l : List Value) (i : Nat) (a : Value), l.toArray.setIfInBounds i a = (l.set i a).toArray) ∧ (∀ (x : Value) (l : List Value) (a : Value), (x :: l).set 0 a = a :: l) ∧ (∀ (x : Value) (l : List Value) (i : Nat) (a : Value), (x :: l).set (i + 1) a = x :: l.set i a) ∧ (∀ n : Int, IntKind.i64.wrap n = wrap64 n) := ⟨fun _ _ _ => rfl, fun l i a => List.setIfInBounds_toArray l i a, fun _ _ _ => rfl, fun _ _ _ _ => rfl, i64_w⟩
/-! ### spec_Pick: function 36 -/
mutual
def spec_Pick.j0 : Nat → List ByteArray → Bool → List (S45) → Option ((List (S45)))
 | 0, _, _, _ => none
 | k + 1, x1, x17, x519000 => if x17 = true then (some ([] : List (S45))) else (spec_Pick.l0 k x1 0 x519000 ([] : List (S45)))
def spec_Pick.l0 : Nat → List ByteArray → Int → List (S45) → List (S45) → Option ((List (S45)))
 | 0, _, _, _, _ => none
 | k + 1, x1, x6, x519000, x521000 => if x6 < (x519000.length : Int) then (spec_Pick.l1 k x1 x6 false 0 x519000 x521000) else (some x521000)
def spec_Pick.l1 : Nat → List ByteArray → Int → Bool → Int → List (S45) → List (S45) → Option ((List (S45)))
 | 0, _, _, _, _, _, _ => none
 | k + 1, x1, x6, x7, x8, x519000, x521000 => if x8 < (x1.length : Int) then (if x7 = true then (spec_Pick.l1 k x1 x6 true (wrap64 (x8 + 1)) x519000 x521000) else (if 0 ≤ x8 then (if 0 ≤ x6 then (if x6 < (x519000.length : Int) then ((spec_Match.f k (rdOf ByteArray.empty x1 x8) ((rd_T45 x519000 x6).f0)).bind fun t524 => (spec_Pick.l1 k x1 x6 t524 (wrap64 (x8 + 1)) x519000 x521000)) else (none)) else (none)) else (none))) else (if x7 = true then (if 0 ≤ x6 then (if x6 < (x519000.length : Int) then (if x521000.length < 3518437208883 then (spec_Pick.l0 k x1 (wrap64 (x6 + 1)) x519000 (x521000 ++ [(⟨(rd_T45 x519000 x6).f0, (rd_T45 x519000 x6).f1, (rd_T45 x519000 x6).f2⟩ : S45)])) else (none)) else (none)) else (none)) else (spec_Pick.l0 k x1 (wrap64 (x6 + 1)) x519000 x521000))
end
def spec_Pick.f (k : Nat) (qa : List (S45)) (l1 : List ByteArray) : Option ((List (S45))) := (spec_ValidTree.f k qa).bind fun t521 => (if t521 = true then (spec_Pick.j0 k l1 (decide ((l1.length : Int) > 20)) qa) else (spec_Pick.j0 k l1 true qa))
theorem spec_Pick.mono_l : ∀ k, (∀ y0 y1 y2, LeO (spec_Pick.j0 k y0 y1 y2) (spec_Pick.j0 (k + 1) y0 y1 y2)) ∧ (∀ y0 y1 y2 y3, LeO (spec_Pick.l0 k y0 y1 y2 y3) (spec_Pick.l0 (k + 1) y0 y1 y2 y3)) ∧ (∀ y0 y1 y2 y3 y4 y5, LeO (spec_Pick.l1 k y0 y1 y2 y3 y4 y5) (spec_Pick.l1 (k + 1) y0 y1 y2 y3 y4 y5))
 | 0 => ⟨fun _ _ _ r h => by simp [spec_Pick.j0] at h, fun _ _ _ _ r h => by simp [spec_Pick.l0] at h, fun _ _ _ _ _ _ r h => by simp [spec_Pick.l1] at h⟩
 | k + 1 => by
  obtain ⟨ih0, ih1, ih2⟩ := spec_Pick.mono_l k; refine ⟨?_, ?_, ?_⟩
  ·intro y0 y1 y2
   unfold spec_Pick.j0
   repeat' first
   | (with_reducible exact ih0 _ _ _)
   | (with_reducible exact ih1 _ _ _ _)
   | (with_reducible exact ih2 _ _ _ _ _ _)
   | (with_reducible exact spec_Match.mono _ _ _)
   | (with_reducible exact spec_ValidTree.mono _ _)
   | (with_reducible exact LeO.refl _)
   | (with_reducible exact LeO.none _)
   | (with_reducible refine LeO.ite ?_ ?_)
   | (with_reducible refine LeO.bind ?_ (fun _ => ?_))
   | exact ih0 _ _ _
   | exact ih1 _ _ _ _
   | exact ih2 _ _ _ _ _ _
   | exact spec_Match.mono _ _ _
   | exact spec_ValidTree.mono _ _
   | exact LeO.none _
   | refine LeO.ite ?_ ?_
   | refine LeO.bind ?_ (fun _ => ?_)
  ·intro y0 y1 y2 y3
   unfold spec_Pick.l0
   repeat' first
   | (with_reducible exact ih0 _ _ _)
   | (with_reducible exact ih1 _ _ _ _)
   | (with_reducible exact ih2 _ _ _ _ _ _)
   | (with_reducible exact spec_Match.mono _ _ _)
   | (with_reducible exact spec_ValidTree.mono _ _)
   | (with_reducible exact LeO.refl _)
   | (with_reducible exact LeO.none _)
   | (with_reducible refine LeO.ite ?_ ?_)
   | (with_reducible refine LeO.bind ?_ (fun _ => ?_))
   | exact ih0 _ _ _
   | exact ih1 _ _ _ _
   | exact ih2 _ _ _ _ _ _
   | exact spec_Match.mono _ _ _
   | exact spec_ValidTree.mono _ _
   | exact LeO.none _
   | refine LeO.ite ?_ ?_
   | refine LeO.bind ?_ (fun _ => ?_)
  ·intro y0 y1 y2 y3 y4 y5
   unfold spec_Pick.l1
   repeat' first
   | (with_reducible exact ih0 _ _ _)
   | (with_reducible exact ih1 _ _ _ _)
   | (with_reducible exact ih2 _ _ _ _ _ _)
   | (with_reducible exact spec_Match.mono _ _ _)
   | (with_reducible exact spec_ValidTree.mono _ _)
   | (with_reducible exact LeO.refl _)
   | (with_reducible exact LeO.none _)
   | (with_reducible refine LeO.ite ?_ ?_)
   | (with_reducible refine LeO.bind ?_ (fun _ => ?_))
   | exact ih0 _ _ _
   | exact ih1 _ _ _ _
   | exact ih2 _ _ _ _ _ _
   | exact spec_Match.mono _ _ _
   | exact spec_ValidTree.mono _ _
   | exact LeO.none _
   | refine LeO.ite ?_ ?_
   | refine LeO.bind ?_ (fun _ => ?_)
theorem spec_Pick.mono : ∀ a0 a1 k, LeO (spec_Pick.f k a0 a1) (spec_Pick.f (k + 1) a0 a1) := by
 intro a0 a1 k; obtain ⟨ih0, ih1, ih2⟩ := spec_Pick.mono_l k
 unfold spec_Pick.f
 repeat' first
   | (with_reducible exact ih0 _ _ _)
   | (with_reducible exact ih1 _ _ _ _)
   | (with_reducible exact ih2 _ _ _ _ _ _)
   | (with_reducible exact spec_Match.mono _ _ _)
   | (with_reducible exact spec_ValidTree.mono _ _)
   | (with_reducible exact LeO.refl _)
   | (with_reducible exact LeO.none _)
   | (with_reducible refine LeO.ite ?_ ?_)
   | (with_reducible refine LeO.bind ?_ (fun _ => ?_))
   | exact ih0 _ _ _
   | exact ih1 _ _ _ _
   | exact ih2 _ _ _ _ _ _
   | exact spec_Match.mono _ _ _
   | exact spec_ValidTree.mono _ _
   | exact LeO.none _
   | refine LeO.ite ?_ ?_
   | refine LeO.bind ?_ (fun _ => ?_)
def spec_Pick.T11 : Bool × List (List Nat × List Nat) := (true, [([], []), ([0], [0]), ([1], [1]), ([1], [1]), ([2, 3, 1], [1, 2, 3]), ([4, 1], [1, 4]), ([1], [1]), ([6, 1], [1, 6]), ([1], [1]), ([7, 8, 1], [1, 7, 8]), ([9, 1], [1, 9]), ([10, 1], [1, 10]), ([5, 11, 1, 1], [1, 5, 11]), ([1, 12], [1, 12]), ([13, 12, 0, 1, 2, 3, 4, 5, 6, 7, 8, 9, 10, 11, 12, 13], [0, 13])])
def spec_Pick.B11 : List Nat := [0, 1, 3, 3, 15, 31, 3, 67, 3, 451, 963, 1987, 4095, 8191, 16383]
theorem spec_Pick.tab11 : rtab .any (opsOf Tryd.f36 11) = spec_Pick.T11 := by kernel_rfl
theorem spec_Pick.bits11 : waitsOk spec_Pick.T11.2 spec_Pick.B11 = true := by kernel_rfl
def spec_Pick.T13 : Bool × List (List Nat × List Nat) := (true, [([], []), ([0], [0]), ([], []), ([2], [2]), ([], []), ([3, 4], [3, 4]), ([5], [5]), ([6], [6]), ([1, 7], [1, 7]), ([0, 1, 2, 3, 4, 5, 6, 7, 8], []), ([9, 8, 8, 0, 1, 2, 3, 4, 5, 6, 7, 8], [8, 9])])
def spec_Pick.B13 : List Nat := [0, 1, 0, 4, 0, 28, 60, 124, 255, 511, 1023]
theorem spec_Pick.tab13 : rtab .any (opsOf Tryd.f36 13) = spec_Pick.T13 := by kernel_rfl
theorem spec_Pick.bits13 : waitsOk spec_Pick.T13.2 spec_Pick.B13 = true := by kernel_rfl
set_option maxHeartbeats 8000000 in
set_option maxRecDepth 100000 in
theorem spec_Pick.calls (k : Nat) (ql : Option Addr) (qh : Nat) (qa : List (S45)) (A1 : Option Addr) (c1 : Nat) (l1 : List ByteArray) (r : List (S45)) (w : World) (hr0_0 : Kd.C k45 w ql qa.length qa) (hc0_0 : qa.length ≤ qh) (hr1 : Kd.C Kd.string w A1 l1.length l1) (hc1 : l1.length ≤ c1) (h : spec_Pick.f k qa l1 = some r) :
  Calls Tryd.prog 36 #[.agg #[.slice ql qa.length qh], .slice A1 l1.length c1] w fun e w' => ∃ v0_ : Value, e = .returned (.agg #[v0_]) ∧ Kd.R k45 45 w' w.heap.size (fun _ => True) v0_ r ∧ Below w.heap.size w w' := by
 have hu29 := Tryd.underlying29; have hu45 := Tryd.underlying45; have HR0_0 := Aside0.mk hr0_0; have HC0_0 := Aside0.mk hc0_0; clear hr0_0 hc0_0; have HR1 := Aside0.mk hr1; have HC1 := Aside0.mk hc1; clear hr1 hc1; have HB := Aside0.mk (Below.refl w.heap.size w); have H : ((spec_ValidTree.f k qa).bind fun t521 => (if t521 = true then (spec_Pick.j0 k l1 (decide ((l1.length : Int) > 20)) qa) else (spec_Pick.j0 k l1 true qa))) = some r := h; clear h; have HC3 := Aside0.mk H; clear H
 go_enter Tryd.func36, Tryd.ntmps36
 go_upto_region 2 with (first | ((with_reducible refine gate_dst (N := 2) rfl ?_); (try (refine gate_guard (by rfl) ?_; dsimp only)); refine box_event ?hg (N := 2) ?hd (cs := #[.slice ql qa.length qh]) (t := 29) ?hr ?_; (case hd => rfl); (case hg => rfl); (case hr => first | (go_simp; done) | (go_simp; rfl)); intro qg hg w4 hbox hb; have n0_ := Aside0.mk (below_step (by repeat (first | (with_reducible first | exact HB.out | apply below_alloc | apply pw_below_drewN | apply below_drew1) | exact HB.out)) hb); have n1_ := Aside0.mk (hbox); have n2_ := Aside0.mk ((by rw [hg]; exact (below_size (by repeat (first | (with_reducible first | exact HB.out | apply below_alloc | apply pw_below_drewN | apply below_drew1) | exact HB.out))) : w.heap.size ≤ qg)); have n3_ := Aside0.mk ((by rw [hg]; exact (below_size (by repeat (first | (with_reducible first | exact HB.out | apply below_alloc | apply pw_below_drewN | apply below_drew1) | exact HB.out))) : w.heap.size ≤ qg)); clear HB; have HB := n0_; have qc := n1_; have GW518 := n2_; have qi := n3_; clear n0_ n1_ n2_ n3_; clear hb hbox hg) | ((with_reducible refine gate_dst (N := 4) rfl ?_); (try (refine gate_guard (by rfl) ?_; dsimp only)); refine box_event ?hg (N := 4) ?hd (cs := #[.slice none 0 0]) (t := 29) ?hr ?_; (case hd => rfl); (case hg => rfl); (case hr => first | (go_simp; done) | (go_simp; rfl)); intro qk hg w5 hbox hb; have n0_ := Aside0.mk (blk_below (g := qg) (o := .cells #[.slice ql qa.length qh] 29 (0, 0)) (by (with_reducible repeat (first | apply blk_drewN | apply blk_drew | apply blk_alloc)); exact qc.out) hb); have n1_ := Aside0.mk (below_step (by repeat (first | (with_reducible first | exact HB.out | apply below_alloc | apply pw_below_drewN | apply below_drew1 | refine below_set ?_ qi.out) | exact HB.out)) hb); have n2_ := Aside0.mk (hbox); have n3_ := Aside0.mk ((by rw [hg]; exact (below_size (by repeat (first | (with_reducible first | exact HB.out | apply below_alloc | apply pw_below_drewN | apply below_drew1 | refine below_set ?_ qi.out) | exact HB.out))) : w.heap.size ≤ qk)); have n4_ := Aside0.mk ((by rw [hg]; exact (below_size (by repeat (first | (with_reducible first | exact HB.out | apply below_alloc | apply pw_below_drewN | apply below_drew1 | refine below_set ?_ qi.out) | exact HB.out))) : w.heap.size ≤ qk)); have n5_ := Aside0.mk ((by rw [hg]; exact Nat.ne_of_lt (blk_lt (g := qg) (o := .cells #[.slice ql qa.length qh] 29 (0, 0)) (by (with_reducible repeat (first | apply blk_drewN | apply blk_drew | apply blk_alloc)); exact qc.out)) : qg ≠ qk)); have n6_ := Aside0.mk ((by rw [hg]; exact Nat.ne_of_gt (blk_lt (g := qg) (o := .cells #[.slice ql qa.length qh] 29 (0, 0)) (by (with_reducible repeat (first | apply blk_drewN | apply blk_drew | apply blk_alloc)); exact qc.out)) : qk ≠ qg)); clear qc; clear HB; have qc := n0_; have HB := n1_; have qd := n2_; have GW519 := n3_; have qm := n4_; have qv := n5_; have qw := n6_; clear n0_ n1_ n2_ n3_ n4_ n5_ n6_; clear hb hbox hg) | ((with_reducible refine gate_dst (N := 5) rfl ?_); (try (refine gate_guard (by rfl) ?_; dsimp only)); refine box_event ?hg (N := 5) ?hd (cs := #[.slice none 0 0]) (t := 29) ?hr ?_; (case hd => rfl); (case hg => rfl); (case hr => first | (go_simp; done) | (go_simp; rfl)); intro qn hg w6 hbox hb; have n0_ := Aside0.mk (blk_below (g := qg) (o := .cells #[.slice ql qa.length qh] 29 (0, 0)) (by (with_reducible repeat (first | apply blk_drewN | apply blk_drew | apply blk_alloc)); exact qc.out) hb); have n1_ := Aside0.mk (blk_below (g := qk) (o := .cells #[.slice none 0 0] 29 (0, 0)) (by (with_reducible repeat (first | apply blk_drewN | apply blk_drew | apply blk_alloc)); exact qd.out) hb); have n2_ := Aside0.mk (below_step (by repeat (first | (with_reducible first | exact HB.out | apply below_alloc | apply pw_below_drewN | apply below_drew1 | refine below_set ?_ qi.out | refine below_set ?_ qm.out) | exact HB.out)) hb); have n3_ := Aside0.mk (hbox); have n4_ := Aside0.mk ((by rw [hg]; exact (below_size (by repeat (first | (with_reducible first | exact HB.out | apply below_alloc | apply pw_below_drewN | apply below_drew1 | refine below_set ?_ qi.out | refine below_set ?_ qm.out) | exact HB.out))) : w.heap.size ≤ qn)); have n5_ := Aside0.mk ((by rw [hg]; exact (below_size (by repeat (first | (with_reducible first | exact HB.out | apply below_alloc | apply pw_below_drewN | apply below_drew1 | refine below_set ?_ qi.out | refine below_set ?_ qm.out) | exact HB.out))) : w.heap.size ≤ qn)); have n6_ := Aside0.mk ((by rw [hg]; exact Nat.ne_of_lt (blk_lt (g := qg) (o := .cells #[.slice ql qa.length qh] 29 (0, 0)) (by (with_reducible repeat (first | apply blk_drewN | apply blk_drew | apply blk_alloc)); exact qc.out)) : qg ≠ qn)); have n7_ := Aside0.mk ((by rw [hg]; exact Nat.ne_of_gt (blk_lt (g := qg) (o := .cells #[.slice ql qa.length qh] 29 (0, 0)) (by (with_reducible repeat (first | apply blk_drewN | apply blk_drew | apply blk_alloc)); exact qc.out)) : qn ≠ qg)); have n8_ := Aside0.mk ((by rw [hg]; exact Nat.ne_of_lt (blk_lt (g := qk) (o := .cells #[.slice none 0 0] 29 (0, 0)) (by (with_reducible repeat (first | apply blk_drewN | apply blk_drew | apply blk_alloc)); exact qd.out)) : qk ≠ qn)); have n9_ := Aside0.mk ((by rw [hg]; exact Nat.ne_of_gt (blk_lt (g := qk) (o := .cells #[.slice none 0 0] 29 (0, 0)) (by (with_reducible repeat (first | apply blk_drewN | apply blk_drew | apply blk_alloc)); exact qd.out)) : qn ≠ qk)); clear qc; clear qd; clear HB; have qc := n0_; have qd := n1_; have HB := n2_; have qe := n3_; have GW520 := n4_; have qo := n5_; have qr := n6_; have qt := n7_; have qu := n8_; have NB520_519 := n9_; clear n0_ n1_ n2_ n3_ n4_ n5_ n6_ n7_ n8_ n9_; clear hb hbox hg; have hnb7 := qt.out; have hnc7 := qr.out; have hnb8 := NB520_519.out; have hnc8 := qu.out; have hcz9_0 : w6.cell? ⟨qn, 0, none⟩ = some (.slice none 0 0) := (blk_cell qe.out 0).trans rfl; have hfz9_0 := blk_frozen qe.out 0))
 (try simp only [Act.put, List.setIfInBounds_toArray, List.set_cons_zero, List.set_cons_succ])
 go_cut [17] (fun v17 wc => ∃ (kq : Nat) (x17_2 : Bool), v17 = .bool x17_2 ∧ Aside0 (spec_Pick.j0 kq l1 x17_2 qa = some r) ∧ Aside0 (kq ≤ k) ∧ Aside0 (wc.heap[qg]? = some (.cells #[(.slice ql qa.length qh)] 29 (0, 0))) ∧ Aside0 (wc.heap[qk]? = some (.cells #[(.slice none 0 0)] 29 (0, 0))) ∧ Aside0 (wc.heap[qn]? = some (.cells #[(.slice none 0 0)] 29 (0, 0))) ∧ Aside0 (Below w.heap.size w wc))
 case first =>
  have H := HC3.out; clear HC3; replace H := Option.bind_eq_some_iff.mp H; obtain ⟨t521, A100, H⟩ := H; replace H : (if t521 = true then (spec_Pick.j0 k l1 (decide ((l1.length : Int) > 20)) qa) else (spec_Pick.j0 k l1 true qa)) = some r := H; have A10 := Aside0.mk A100; clear A100
  by_cases c11 : t521 = true
  ·subst c11
   have H1 : (spec_Pick.j0 k l1 (decide ((l1.length : Int) > 20)) qa) = some r := by rw [if_pos rfl] at H; exact H
   clear H; have H := H1; clear H1; have H' := Aside0.mk H; clear H; have hnb12 := qv.out; have hnc12 := qw.out; have hnb13 := qr.out; have hnc13 := qt.out; have hcz14_0 : w6.cell? ⟨qg, 0, none⟩ = some (.slice ql qa.length qh) := (blk_cell qc.out 0).trans rfl; have hfz14_0 := blk_frozen qc.out 0
   go_wp2_with (first | ((with_reducible refine gate_callee (f := 13) rfl ?_); refine goesL_ (some 11) rfl rfl Tryd.func13 (by kernel_rfl) rfl #[.agg #[.slice ql qa.length qh]] rfl (by (try simp only [List.map_toArray, List.map_cons, List.map_nil]); first | done | rfl | (simp only [List.length_drop, List.length_take]; rfl)) ?_; (with_reducible refine (spec_ValidTree.calls k _ _ qa true _ ?side1 ?side2 A10.out).mono ?_); (case side1 => exact Kd.C_below HR0_0.out (by repeat (first | (with_reducible first | exact HB.out | apply below_alloc | apply pw_below_drewN | apply below_drew1 | refine below_set ?_ qi.out | refine below_set ?_ qm.out | refine below_set ?_ qo.out) | exact HB.out))); (case side2 => exact HC0_0.out); rintro e w15 ⟨rfl, hb⟩; refine ⟨_, rfl, ?_⟩; have n0_ := Aside0.mk (blk_below (g := qg) (o := .cells #[.slice ql qa.length qh] 29 (0, 0)) (by (with_reducible repeat (first | apply blk_drewN | apply blk_drew | apply blk_alloc)); refine blk_far ?_ qr.out _; (with_reducible repeat (first | apply blk_drewN | apply blk_drew | apply blk_alloc)); exact qc.out) hb); have n1_ := Aside0.mk (blk_below (g := qk) (o := .cells #[.slice none 0 0] 29 (0, 0)) (by (with_reducible repeat (first | apply blk_drewN | apply blk_drew | apply blk_alloc)); refine blk_far ?_ qu.out _; (with_reducible repeat (first | apply blk_drewN | apply blk_drew | apply blk_alloc)); exact qd.out) hb); have n2_ := Aside0.mk (blk_below (g := qn) (o := .cells #[.slice none 0 0] 29 (0, 0)) (by (with_reducible repeat (first | apply blk_drewN | apply blk_drew | apply blk_alloc)); refine blk_put (cs := #[.slice none 0 0]) ?_ 0 _ rfl; (with_reducible repeat (first | apply blk_drewN | apply blk_drew | apply blk_alloc)); exact qe.out) hb); have n3_ := Aside0.mk (below_step (by repeat (first | (with_reducible first | exact HB.out | apply below_alloc | apply pw_below_drewN | apply below_drew1 | refine below_set ?_ qi.out | refine below_set ?_ qm.out | refine below_set ?_ qo.out) | exact HB.out)) hb); clear qc; clear qd; clear qe; clear HB; have qc := n0_; have qd := n1_; have qe := n2_; have HB := n3_; clear n0_ n1_ n2_ n3_; (try clear hb); (try clear hb2); (try clear hk); (try clear hi)))
   go_meet
   case rel => exact ⟨_, (decide ((l1.length : Int) > 20)), (by first | rfl | (simp; done) | (simp [*]; done)), H', ⟨by first | omega | exact Nat.le_refl _⟩, ⟨by (with_reducible repeat (first | apply blk_drewN | apply blk_drew | apply blk_alloc)); exact qc.out⟩, ⟨by (with_reducible repeat (first | apply blk_drewN | apply blk_drew | apply blk_alloc)); exact qd.out⟩, ⟨by (with_reducible repeat (first | apply blk_drewN | apply blk_drew | apply blk_alloc)); exact qe.out⟩, ⟨by repeat (first | (with_reducible first | exact HB.out | apply below_alloc | apply pw_below_drewN | apply below_drew1 | refine below_set ?_ qi.out | refine below_set ?_ qm.out | refine below_set ?_ qo.out) | exact HB.out)⟩⟩
  ·replace c11 := Bool.eq_false_iff.mpr c11; subst c11
   have H1 : (spec_Pick.j0 k l1 true qa) = some r := by rw [if_neg (show ¬ (false = true) by decide)] at H; exact H
   clear H; have H := H1; clear H1; have H' := Aside0.mk H; clear H; have hnb16 := qv.out; have hnc16 := qw.out; have hnb17 := qr.out; have hnc17 := qt.out; have hcz18_0 : w6.cell? ⟨qg, 0, none⟩ = some (.slice ql qa.length qh) := (blk_cell qc.out 0).trans rfl; have hfz18_0 := blk_frozen qc.out 0
   go_wp2_with (first | ((with_reducible refine gate_callee (f := 13) rfl ?_); refine goesL_ (some 11) rfl rfl Tryd.func13 (by kernel_rfl) rfl #[.agg #[.slice ql qa.length qh]] rfl (by (try simp only [List.map_toArray, List.map_cons, List.map_nil]); first | done | rfl | (simp only [List.length_drop, List.length_take]; rfl)) ?_; (with_reducible refine (spec_ValidTree.calls k _ _ qa false _ ?side1 ?side2 A10.out).mono ?_); (case side1 => exact Kd.C_below HR0_0.out (by repeat (first | (with_reducible first | exact HB.out | apply below_alloc | apply pw_below_drewN | apply below_drew1 | refine below_set ?_ qi.out | refine below_set ?_ qm.out | refine below_set ?_ qo.out) | exact HB.out))); (case side2 => exact HC0_0.out); rintro e w19 ⟨rfl, hb⟩; refine ⟨_, rfl, ?_⟩; have n0_ := Aside0.mk (blk_below (g := qg) (o := .cells #[.slice ql qa.length qh] 29 (0, 0)) (by (with_reducible repeat (first | apply blk_drewN | apply blk_drew | apply blk_alloc)); refine blk_far ?_ qr.out _; (with_reducible repeat (first | apply blk_drewN | apply blk_drew | apply blk_alloc)); exact qc.out) hb); have n1_ := Aside0.mk (blk_below (g := qk) (o := .cells #[.slice none 0 0] 29 (0, 0)) (by (with_reducible repeat (first | apply blk_drewN | apply blk_drew | apply blk_alloc)); refine blk_far ?_ qu.out _; (with_reducible repeat (first | apply blk_drewN | apply blk_drew | apply blk_alloc)); exact qd.out) hb); have n2_ := Aside0.mk (blk_below (g := qn) (o := .cells #[.slice none 0 0] 29 (0, 0)) (by (with_reducible repeat (first | apply blk_drewN | apply blk_drew | apply blk_alloc)); refine blk_put (cs := #[.slice none 0 0]) ?_ 0 _ rfl; (with_reducible repeat (first | apply blk_drewN | apply blk_drew | apply blk_alloc)); exact qe.out) hb); have n3_ := Aside0.mk (below_step (by repeat (first | (with_reducible first | exact HB.out | apply below_alloc | apply pw_below_drewN | apply below_drew1 | refine below_set ?_ qi.out | refine below_set ?_ qm.out | refine below_set ?_ qo.out) | exact HB.out)) hb); clear qc; clear qd; clear qe; clear HB; have qc := n0_; have qd := n1_; have qe := n2_; have HB := n3_; clear n0_ n1_ n2_ n3_; (try clear hb); (try clear hb2); (try clear hk); (try clear hi)))
   go_meet
   case rel => exact ⟨_, (true), (by first | rfl | (simp; done) | (simp [*]; done)), H', ⟨by first | omega | exact Nat.le_refl _⟩, ⟨by (with_reducible repeat (first | apply blk_drewN | apply blk_drew | apply blk_alloc)); exact qc.out⟩, ⟨by (with_reducible repeat (first | apply blk_drewN | apply blk_drew | apply blk_alloc)); exact qd.out⟩, ⟨by (with_reducible repeat (first | apply blk_drewN | apply blk_drew | apply blk_alloc)); exact qe.out⟩, ⟨by repeat (first | (with_reducible first | exact HB.out | apply below_alloc | apply pw_below_drewN | apply below_drew1 | refine below_set ?_ qi.out | refine below_set ?_ qm.out | refine below_set ?_ qo.out) | exact HB.out)⟩⟩
 case rest =>
  clear HC3; (try clear c1); (try clear p2); (try clear c3); (try clear c7); (try clear c8); (try clear c11); (try clear c12); (try clear c13); (try clear c16); (try clear c17); (try clear hcz14_0); (try clear hcz18_0); (try clear hcz9_0); (try clear hfz14_0); (try clear hfz18_0); (try clear hfz9_0); obtain ⟨kq, x17_2, rfl, HA, HJ2, qc, qd, qe, HB⟩ := hcut
  cases kq with
  | zero => exact absurd HA.out (by simp [spec_Pick.j0])
  | succ kj2 =>
   have H := HA.out; clear HA; simp only [spec_Pick.j0] at H
   by_cases c20 : x17_2 = true
   ·subst c20
    have H1 : (some ([] : List (S45))) = some r := by rw [if_pos rfl] at H; exact H
    clear H; have H := H1; clear H1; obtain rfl := Option.some.inj H; have hnb21 := qt.out; have hnc21 := qr.out; have hnb22 := NB520_519.out; have hnc22 := qu.out; have hcz23_0 : wc.cell? ⟨qn, 0, none⟩ = some (.slice none 0 0) := (blk_cell qe.out 0).trans rfl; have hfz23_0 := blk_frozen qe.out 0; have hnb24 := qw.out; have hnc24 := qv.out; have hcz25_0 : wc.cell? ⟨qk, 0, none⟩ = some (.slice none 0 0) := (blk_cell qd.out 0).trans rfl; have hfz25_0 := blk_frozen qd.out 0
    go_wp2
    refine bodyPost_ret (results_cell_row rfl _ _ qk 29 #[.slice none 0 0] (0, 0) _ rfl (by (with_reducible repeat (first | apply blk_drewN | apply blk_drew | apply blk_alloc)); refine blk_put (cs := #[.slice none 0 0]) ?_ 0 _ rfl; (with_reducible repeat (first | apply blk_drewN | apply blk_drew | apply blk_alloc)); exact qd.out) Tryd.underlying29 rfl (by kernel_rfl)) rfl ?_; exact ⟨_, by first | rfl | (simp [errW_none, errW_some] <;> rfl) | (simp [*, errW_none, errW_some] <;> rfl), by first | exact Kd.R_nil _ _ _ _ _ | exact Kd.N_nil _ _ _ _ _ | exact Kd.V_nil _ _ _ _ _ | exact Kd.Q_nil _ _ _ _ _ | exact Kd.S_nil _ _ _ _ _, by repeat (first | (with_reducible first | exact HB.out | apply below_alloc | apply pw_below_drewN | apply below_drew1 | refine below_set ?_ qi.out | refine below_set ?_ qm.out | refine below_set ?_ qo.out) | exact HB.out)⟩
   ·replace c20 := Bool.eq_false_iff.mpr c20; subst c20
    have H1 : (spec_Pick.l0 kj2 l1 0 qa ([] : List (S45))) = some r := by rw [if_neg (show ¬ (false = true) by decide)] at H; exact H
    clear H; have H := H1; clear H1; have H' := Aside0.mk H; clear H
    go_wp2
    go_loopg [6] kj2 (fun kq v6 w' => ∃ (qb : Int) (qp : List (S45)) (u521000 : Value), v6 = .int .i64 qb ∧ Aside0 (spec_Pick.l0 kq l1 qb qa qp = some r) ∧ Aside0 (kq ≤ kj2) ∧ Aside0 (Kd.R k45 45 w' w.heap.size (fun _ => True) u521000 qp) ∧ Aside0 (w'.heap[qg]? = some (.cells #[(.slice ql qa.length qh)] 29 (0, 0))) ∧ Aside0 (w'.heap[qk]? = some (.cells #[(.slice none 0 0)] 29 (0, 0))) ∧ Aside0 (w'.heap[qn]? = some (.cells #[u521000] 29 (0, 0))) ∧ Aside0 (Below w.heap.size w w'))
    case atStart => exact ⟨(0), (([] : List (S45))), (.slice none 0 0), (by first | rfl | (simp; done) | (simp [*]; done)), H', ⟨Nat.le_refl _⟩, ⟨by first | exact Kd.R_nil _ _ _ _ _ | exact Kd.N_nil _ _ _ _ _ | exact Kd.V_nil _ _ _ _ _ | exact Kd.Q_nil _ _ _ _ _ | exact Kd.S_nil _ _ _ _ _⟩, ⟨by (with_reducible repeat (first | apply blk_drewN | apply blk_drew | apply blk_alloc)); exact qc.out⟩, ⟨by (with_reducible repeat (first | apply blk_drewN | apply blk_drew | apply blk_alloc)); exact qd.out⟩, ⟨by (with_reducible repeat (first | apply blk_drewN | apply blk_drew | apply blk_alloc)); exact qe.out⟩, ⟨by repeat (first | (with_reducible first | exact HB.out | apply below_alloc | apply pw_below_drewN | apply below_drew1 | refine below_set ?_ qi.out | refine below_set ?_ qm.out | refine below_set ?_ qo.out) | exact HB.out)⟩⟩
    case round =>
     clear H'; (try clear c1); (try clear c2); (try clear p2); (try clear c3); (try clear c7); (try clear c8); (try clear c11); (try clear c12); (try clear c13); (try clear c16); (try clear c17); (try clear c20); (try clear c21); (try clear c22); (try clear c24); (try clear hcz14_0); (try clear hcz18_0); (try clear hcz23_0); (try clear hcz25_0); (try clear hcz9_0); (try clear hfz14_0); (try clear hfz18_0); (try clear hfz23_0); (try clear hfz25_0); (try clear hfz9_0); (try clear p2); obtain ⟨qb, qp, u521000, rfl, HA, HK2, qf, qc, qd, qe, HB⟩ := hrel
     cases gk with
     | zero => exact absurd HA.out (by simp [spec_Pick.l0])
     | succ k2 =>
      have H := HA.out; clear HA; simp only [spec_Pick.l0] at H
      by_cases c26 : qb < (qa.length : Int)
      ·rw [if_pos c26] at H
       have c26b0 : decide (qb < (qa.length : Int)) = true := decide_eq_true c26; clear c26; have H' := Aside0.mk H; clear H; have hnb27 := qv.out; have hnc27 := qw.out; have hnb28 := qr.out; have hnc28 := qt.out; have hcz29_0 : wr.cell? ⟨qg, 0, none⟩ = some (.slice ql qa.length qh) := (blk_cell qc.out 0).trans rfl; have hfz29_0 := blk_frozen qc.out 0
       go_wp2
       go_loopg [7, 8] k2 (fun kq v7 v8 w' => ∃ (x7_3 : Bool) (qj : Int), v7 = .bool x7_3 ∧ v8 = .int .i64 qj ∧ Aside0 (spec_Pick.l1 kq l1 qb x7_3 qj qa qp = some r) ∧ Aside0 (kq ≤ k2) ∧ Aside0 (Kd.R k45 45 w' w.heap.size (fun _ => True) u521000 qp) ∧ Aside0 (w'.heap[qg]? = some (.cells #[(.slice ql qa.length qh)] 29 (0, 0))) ∧ Aside0 (w'.heap[qk]? = some (.cells #[(.slice none 0 0)] 29 (0, 0))) ∧ Aside0 (w'.heap[qn]? = some (.cells #[u521000] 29 (0, 0))) ∧ Aside0 (Below w.heap.size w w'))
       case atStart => exact ⟨(false), (0), (by first | rfl | (simp; done) | (simp [*]; done)), (by first | rfl | (simp; done) | (simp [*]; done)), H', ⟨Nat.le_refl _⟩, ⟨by (with_reducible repeat (first | apply Kd.R_alloc | apply Kd.R_drewN | apply Kd.R_drew)); exact qf.out⟩, ⟨by (with_reducible repeat (first | apply blk_drewN | apply blk_drew | apply blk_alloc)); exact qc.out⟩, ⟨by (with_reducible repeat (first | apply blk_drewN | apply blk_drew | apply blk_alloc)); exact qd.out⟩, ⟨by (with_reducible repeat (first | apply blk_drewN | apply blk_drew | apply blk_alloc)); exact qe.out⟩, ⟨by repeat (first | (with_reducible first | exact HB.out | apply below_alloc | apply pw_below_drewN | apply below_drew1 | refine below_set ?_ qi.out | refine below_set ?_ qm.out | refine below_set ?_ qo.out) | exact HB.out)⟩⟩
       case round =>
        clear H'; (try clear c1); (try clear c2); (try clear p2); (try clear c3); (try clear c7); (try clear c8); (try clear c11); (try clear c12); (try clear c13); (try clear c16); (try clear c17); (try clear c20); (try clear c21); (try clear c22); (try clear c24); (try clear c26); (try clear c26b0); (try clear c27); (try clear c28); (try clear hcz14_0); (try clear hcz18_0); (try clear hcz23_0); (try clear hcz25_0); (try clear hcz29_0); (try clear hcz9_0); (try clear hfz14_0); (try clear hfz18_0); (try clear hfz23_0); (try clear hfz25_0); (try clear hfz29_0); (try clear hfz9_0); (try clear p2); obtain ⟨x7_3, qj, rfl, rfl, HA, HK3, qf, qc, qd, qe, HB⟩ := hrel
        cases gk with
        | zero => exact absurd HA.out (by simp [spec_Pick.l1])
        | succ k3 =>
         have H := HA.out; clear HA; simp only [spec_Pick.l1] at H
         by_cases c30 : qj < (l1.length : Int)
         ·rw [if_pos c30] at H
          have c30b0 : decide (qj < (l1.length : Int)) = true := decide_eq_true c30; clear c30
          by_cases c31 : x7_3 = true
          ·subst c31
           have H1 : (spec_Pick.l1 k3 l1 qb true (wrap64 (qj + 1)) qa qp) = some r := by rw [if_pos rfl] at H; exact H
           clear H; have H := H1; clear H1; have H' := Aside0.mk H; clear H
           try go_wp2
           have n0_ := Aside0.mk (Kd.R_drew qf.out); have n1_ := Aside0.mk (blk_drew qc.out); have n2_ := Aside0.mk (blk_drew qd.out); have n3_ := Aside0.mk (blk_drew qe.out); have n4_ := Aside0.mk (below_drew1 HB.out); clear qf; clear qc; clear qd; clear qe; clear HB; have qf := n0_; have qc := n1_; have qd := n2_; have qe := n3_; have HB := n4_; clear n0_ n1_ n2_ n3_ n4_; refine start_ (n := 15) (S := fun w' => True) (ds := []) bm61_0 (by kernel_rfl) rfl rfl trivial (fun hHeld => ?_); refine with_tabW spec_Pick.tab11 spec_Pick.bits11 (fun HT_ HW_ => ?_); generalize wr.drew = w32 at qf qc qd qe HB hHeld ⊢; refine pure_ (i := 0) (N := some 32) (v := ?_) (a' := ?_) bm61_1 rfl rfl (any_of HT_.out (by kernel_rfl)) (fun _ _ _ h => h) (Or.inl ⟨by rfl, ?_⟩) ?_ ?_; rotate_left
           ·intro w'; go_simp; (with_reducible rfl)
           rotate_left; (·simp only [um61]; rfl); refine pure_ (i := 1) (N := some 33) (v := ?_) (a' := ?_) bm61_2 rfl rfl (any_of HT_.out (by kernel_rfl)) (fun _ _ _ h => h) (Or.inl ⟨by rfl, ?_⟩) ?_ ?_; rotate_left
           ·intro w'; go_simp; (with_reducible rfl)
           rotate_left; (·simp only [um61]; rfl); refine pure_ (i := 2) (N := some 34) (v := undef) (a' := ?_) bm61_3 rfl rfl (any_of HT_.out (by kernel_rfl)) (fun _ _ _ h => h) (Or.inr ⟨by rfl, rfl⟩) ?_ ?_; rotate_left; (·simp only [um61]; rfl); refine pure_ (i := 3) (N := some 35) (v := undef) (a' := ?_) bm61_4 rfl rfl (any_of HT_.out (by kernel_rfl)) (fun _ _ _ h => h) (Or.inr ⟨by rfl, rfl⟩) ?_ ?_; rotate_left; (·simp only [um61]; rfl); refine pure_ (i := 4) (N := some 36) (v := undef) (a' := ?_) bm61_5 rfl rfl (any_of HT_.out (by kernel_rfl)) (fun _ _ _ h => h) (Or.inr ⟨by rfl, rfl⟩) ?_ ?_; rotate_left; (·simp only [um61]; rfl); refine pure_ (i := 5) (N := some 37) (v := undef) (a' := ?_) bm61_6 rfl rfl (any_of HT_.out (by kernel_rfl)) (fun _ _ _ h => h) (Or.inr ⟨by rfl, rfl⟩) ?_ ?_; rotate_left; (·simp only [um61]; rfl); refine pure_ (i := 6) (N := some 38) (v := undef) (a' := ?_) bm61_7 rfl rfl (any_of HT_.out (by kernel_rfl)) (fun _ _ _ h => h) (Or.inr ⟨by rfl, rfl⟩) ?_ ?_; rotate_left; (·simp only [um61]; rfl); refine pure_ (i := 7) (N := some 39) (v := undef) (a' := ?_) bm61_8 rfl rfl (any_of HT_.out (by kernel_rfl)) (fun _ _ _ h => h) (Or.inr ⟨by rfl, rfl⟩) ?_ ?_; rotate_left; (·simp only [um61]; rfl); refine pure_ (i := 8) (N := some 40) (v := undef) (a' := ?_) bm61_9 rfl rfl (any_of HT_.out (by kernel_rfl)) (fun _ _ _ h => h) (Or.inr ⟨by rfl, rfl⟩) ?_ ?_; rotate_left; (·simp only [um61]; rfl); refine pure_ (i := 9) (N := some 41) (v := undef) (a' := ?_) bm61_10 rfl rfl (any_of HT_.out (by kernel_rfl)) (fun _ _ _ h => h) (Or.inr ⟨by rfl, rfl⟩) ?_ ?_; rotate_left; (·simp only [um61]; rfl); refine pure_ (i := 10) (N := some 42) (v := undef) (a' := ?_) bm61_11 rfl rfl (any_of HT_.out (by kernel_rfl)) (fun _ _ _ h => h) (Or.inr ⟨by rfl, rfl⟩) ?_ ?_; rotate_left; (·simp only [um61]; rfl); refine pure_ (i := 11) (N := some 43) (v := undef) (a' := ?_) bm61_12 rfl rfl (any_of HT_.out (by kernel_rfl)) (fun _ _ _ h => h) (Or.inr ⟨by rfl, rfl⟩) ?_ ?_; rotate_left; (·simp only [um61]; rfl); refine pure_ (i := 12) (N := some 44) (v := undef) (a' := ?_) bm61_13 rfl rfl (any_of HT_.out (by kernel_rfl)) (fun _ _ _ h => h) (Or.inr ⟨by rfl, rfl⟩) ?_ ?_; rotate_left; (·simp only [um61]; rfl); refine pure_ (i := 13) (N := some 45) (v := ?_) (a' := ?_) bm61_14 rfl rfl (any_of HT_.out (by kernel_rfl)) (fun _ _ _ h => h) (Or.inl ⟨by rfl, ?_⟩) ?_ ?_; rotate_left
           ·intro w'; go_simp; (with_reducible rfl)
           rotate_left; (·simp only [um61]; rfl); refine pure_ (i := 14) (N := some 7) (v := ?_) (a' := ?_) bm61_15 rfl rfl (any_of HT_.out (by kernel_rfl)) (fun _ _ _ h => h) (Or.inl ⟨by rfl, ?_⟩) ?_ ?_; rotate_left
           ·intro w'; go_simp; (with_reducible rfl)
           rotate_left; (·simp only [um61]; rfl)
           refine done_ (done_of HT_.out (by kernel_rfl)) ?_
           try go_wp2
           go_roundg k3
           case measure => have := HJ2.out; have := HK2.out; have := HK3.out; omega
           case rel => exact ⟨(true), (wrap64 (qj + 1)), (by first | rfl | (simp; done) | (simp [*]; done)), (by first | rfl | (simp; done) | (simp [*]; done)), H', ⟨by have := HJ2.out; have := HK2.out; have := HK3.out; omega⟩, ⟨by (with_reducible repeat (first | apply Kd.R_alloc | apply Kd.R_drewN | apply Kd.R_drew)); exact qf.out⟩, ⟨by (with_reducible repeat (first | apply blk_drewN | apply blk_drew | apply blk_alloc)); exact qc.out⟩, ⟨by (with_reducible repeat (first | apply blk_drewN | apply blk_drew | apply blk_alloc)); exact qd.out⟩, ⟨by (with_reducible repeat (first | apply blk_drewN | apply blk_drew | apply blk_alloc)); exact qe.out⟩, ⟨by repeat (first | (with_reducible first | exact HB.out | apply below_alloc | apply pw_below_drewN | apply below_drew1 | refine below_set ?_ qi.out | refine below_set ?_ qm.out | refine below_set ?_ qo.out) | exact HB.out)⟩⟩
          ·replace c31 := Bool.eq_false_iff.mpr c31; subst c31
           have H1 : (if 0 ≤ qj then (if 0 ≤ qb then (if qb < (qa.length : Int) then ((spec_Match.f k3 (rdOf ByteArray.empty l1 qj) ((rd_T45 qa qb).f0)).bind fun t524 => (spec_Pick.l1 k3 l1 qb t524 (wrap64 (qj + 1)) qa qp)) else (none)) else (none)) else (none)) = some r := by rw [if_neg (show ¬ (false = true) by decide)] at H; exact H
           clear H; have H := H1; clear H1
           by_cases c33 : 0 ≤ qj
           ·rw [if_pos c33] at H
            have c33b0 : decide (0 ≤ qj) = true := decide_eq_true c33; clear c33
            by_cases c34 : 0 ≤ qb
            ·rw [if_pos c34] at H
             have c34b0 : decide (0 ≤ qb) = true := decide_eq_true c34; clear c34
             by_cases c35 : qb < (qa.length : Int)
             ·rw [if_pos c35] at H
              have c35b0 : decide (qb < (qa.length : Int)) = true := decide_eq_true c35; clear c35; replace H := Option.bind_eq_some_iff.mp H; obtain ⟨t524, A360, H⟩ := H; replace H : (spec_Pick.l1 k3 l1 qb t524 (wrap64 (qj + 1)) qa qp) = some r := H; have A36 := Aside0.mk A360; clear A360; have H' := Aside0.mk H; clear H
              try go_wp2
              have n0_ := Aside0.mk (Kd.R_drew qf.out); have n1_ := Aside0.mk (blk_drew qc.out); have n2_ := Aside0.mk (blk_drew qd.out); have n3_ := Aside0.mk (blk_drew qe.out); have n4_ := Aside0.mk (below_drew1 HB.out); clear qf; clear qc; clear qd; clear qe; clear HB; have qf := n0_; have qc := n1_; have qd := n2_; have qe := n3_; have HB := n4_; clear n0_ n1_ n2_ n3_ n4_; have p522 : 0 ≤ (qj : Int) := of_decide_eq_true (by first | (with_reducible assumption) | assumption); have q522 : qj < (l1.length : Int) := of_decide_eq_true (by first | (with_reducible assumption) | assumption); obtain ⟨ad522, e522, hx522_0⟩ := Kd.at_string HR1.out qj p522 q522; have hw522_0 := hx522_0
              cases e522
              replace hx522_0 := (HB.out.cell (World.block_lt_of_cell? w _ hx522_0)).trans hx522_0; replace p522 := eq_true p522; replace q522 := eq_true q522; have p523 : 0 ≤ (qb : Int) := of_decide_eq_true (by first | (with_reducible assumption) | assumption); have q523 : qb < (qa.length : Int) := of_decide_eq_true (by first | (with_reducible assumption) | assumption); obtain ⟨ad523, e523, hx523_0, hx523_1, hx523_2⟩ := at_T45 HR0_0.out qb p523 q523; have hw523_2 := hx523_2; have hw523_1 := hx523_1; have hw523_0 := hx523_0
              cases e523
              replace hx523_0 := (HB.out.cell (World.block_lt_of_cell? w _ hx523_0)).trans hx523_0; replace hx523_1 := (HB.out.cell (World.block_lt_of_cell? w _ hx523_1)).trans hx523_1; replace hx523_2 := (HB.out.cell (World.block_lt_of_cell? w _ hx523_2)).trans hx523_2; replace p523 := eq_true p523; replace q523 := eq_true q523; refine start_ (n := 15) (S := fun w' => w'.cell? ⟨qg, 0, none⟩ = some (.slice (some ad523) qa.length qh) ∧ w'.cell? (ad522.add (qj).toNat) = some (.string (rdOf ByteArray.empty l1 qj)) ∧ w'.cell? (ad523.add ((qb).toNat * 3)) = some (.string ((rd_T45 qa qb).f0)) ∧ w'.cell? ⟨(ad523.add ((qb).toNat * 3)).block, (ad523.add ((qb).toNat * 3)).off + 1, none⟩ = some (.string ((rd_T45 qa qb).f1)) ∧ w'.cell? ⟨(ad523.add ((qb).toNat * 3)).block, (ad523.add ((qb).toNat * 3)).off + 2, none⟩ = some (.bool ((rd_T45 qa qb).f2))) (ds := []) bm61_0 (by kernel_rfl) rfl rfl ⟨(blk_cell qc.out 0).trans rfl, ((HB.out.cell (World.block_lt_of_cell? w _ hw522_0)).trans hw522_0), ((HB.out.cell (World.block_lt_of_cell? w _ hw523_0)).trans hw523_0), ((HB.out.cell (World.block_lt_of_cell? w _ hw523_1)).trans hw523_1), ((HB.out.cell (World.block_lt_of_cell? w _ hw523_2)).trans hw523_2)⟩ (fun hHeld => ?_); refine with_tabW spec_Pick.tab11 spec_Pick.bits11 (fun HT_ HW_ => ?_); generalize wr.drew = w37 at qf qc qd qe HB hx522_0 hx523_0 hx523_1 hx523_2 hHeld ⊢; refine pure_ (i := 0) (N := some 32) (v := ?_) (a' := ?_) bm61_1 rfl rfl (any_of HT_.out (by kernel_rfl)) (fun _ _ _ h => h) (Or.inl ⟨by rfl, ?_⟩) ?_ ?_; rotate_left
              ·intro w'; go_simp; (with_reducible rfl)
              rotate_left; (·simp only [um61]; rfl); refine pure_ (i := 1) (N := some 33) (v := ?_) (a' := ?_) bm61_2 rfl rfl (any_of HT_.out (by kernel_rfl)) (fun _ _ _ h => h) (Or.inl ⟨by rfl, ?_⟩) ?_ ?_; rotate_left
              ·intro w'; go_simp; (with_reducible rfl)
              rotate_left; (·simp only [um61]; rfl); refine pure_ (i := 2) (N := some 34) (v := ?_) (a' := ?_) bm61_3 rfl rfl (any_of HT_.out (by kernel_rfl)) (fun _ _ _ h => h) (Or.inl ⟨by rfl, ?_⟩) ?_ ?_; rotate_left
              ·intro w'; go_simp; (with_reducible rfl)
              rotate_left; (·simp only [um61]; rfl); refine pure_ (i := 3) (N := some 35) (v := ?_) (a' := ?_) bm61_4 rfl rfl (any_of HT_.out (by kernel_rfl)) (fun _ _ _ h => h) (Or.inl ⟨by rfl, ?_⟩) ?_ ?_; rotate_left
              ·intro w'; go_simp; (with_reducible rfl)
              rotate_left; (·simp only [um61]; rfl); refine pure_ (i := 4) (N := some 36) (v := ?_) (a' := ?_) bm61_5 rfl rfl (any_of HT_.out (by kernel_rfl)) (fun _ _ _ h => h) (Or.inl ⟨by rfl, ?_⟩) ?_ ?_; rotate_left
              ·intro w'; go_simp; (with_reducible rfl)
              rotate_left; (·simp only [um61]; rfl); refine pure_ (i := 6) (N := some 38) (v := ?_) (a' := ?_) bm61_16 rfl rfl (any_of HT_.out (by kernel_rfl)) (fun _ _ _ h => h) (Or.inl ⟨by rfl, ?_⟩) ?_ ?_; rotate_left
              ·intro w'; go_simp; (with_reducible rfl)
              rotate_left; (·simp only [um61]; rfl); refine pure_ (i := 8) (N := some 40) (v := ?_) (a' := ?_) bm61_17 rfl rfl (any_of HT_.out (by kernel_rfl)) (fun _ _ _ h => h) (Or.inl ⟨by rfl, ?_⟩) ?_ ?_; rotate_left
              ·intro w'; go_simp; (with_reducible rfl)
              rotate_left; (·simp only [um61]; rfl); refine take_ (i := 5) (N := some 37) (v := ?_) (a' := ?_) bm61_18 rfl rfl (take_ofW HT_.out HW_.out (by kernel_rfl)) (fun _ _ _ h => h) (Or.inl ⟨by rfl, ?_⟩) hHeld ?_ ?_; rotate_left
              ·rintro w' ⟨s0, s1, s2, s3, s4⟩; go_simp; (with_reducible rfl)
              rotate_left; (·simp only [um61]; rfl); refine take_ (i := 7) (N := some 39) (v := ?_) (a' := ?_) bm61_9 rfl rfl (take_ofW HT_.out HW_.out (by kernel_rfl)) (fun _ _ _ h => h) (Or.inl ⟨by rfl, ?_⟩) hHeld ?_ ?_; rotate_left
              ·rintro w' ⟨s0, s1, s2, s3, s4⟩; go_simp; (with_reducible rfl)
              rotate_left; (·simp only [um61]; rfl); refine pure_ (i := 9) (N := some 41) (v := ?_) (a' := ?_) bm61_10 rfl rfl (any_of HT_.out (by kernel_rfl)) (fun _ _ _ h => h) (Or.inl ⟨by rfl, ?_⟩) ?_ ?_; rotate_left
              ·intro w'; go_simp; (with_reducible rfl)
              rotate_left; (·simp only [um61]; rfl); refine pure_ (i := 10) (N := some 42) (v := ?_) (a' := ?_) bm61_11 rfl rfl (any_of HT_.out (by kernel_rfl)) (fun _ _ _ h => h) (Or.inl ⟨by rfl, ?_⟩) ?_ ?_; rotate_left
              ·intro w'; go_simp; (with_reducible rfl)
              rotate_left; (·simp only [um61]; rfl); refine take_ (i := 11) (N := some 43) (v := ?_) (a' := ?_) bm61_12 rfl rfl (take_ofW HT_.out HW_.out (by kernel_rfl)) (fun _ _ _ h => h) (Or.inl ⟨by rfl, ?_⟩) hHeld ?_ ?_; rotate_left
              ·rintro w' ⟨s0, s1, s2, s3, s4⟩; go_simp; (with_reducible rfl)
              rotate_left; (·simp only [um61]; rfl)
              refine one_ (i := 12) (N := some 44) bm61_13 rfl rfl (one_of HT_.out (by kernel_rfl)) (by decide) (fun K hK => ?_); refine goes_ Tryd.func67 (by kernel_rfl) rfl #[.string (rdOf ByteArray.empty l1 qj), .string ((rd_T45 qa qb).f0)] (by rfl) rfl rfl (by (try simp only [List.map_toArray, List.map_cons, List.map_nil]); first | done | rfl | (simp only [List.length_drop, List.length_take]; rfl)) ?_; (with_reducible refine (spec_Match.calls k3 (rdOf ByteArray.empty l1 qj) ((rd_T45 qa qb).f0) t524 _ A36.out).mono ?_); rintro e w38 ⟨rfl, hb⟩; refine ⟨_, rfl, ?_⟩; have n0_ := Aside0.mk (Kd.R_below (by (with_reducible repeat (first | apply Kd.R_alloc | apply Kd.R_drewN | apply Kd.R_drew)); exact qf.out) hb); have n1_ := Aside0.mk (blk_below (g := qg) (o := .cells #[.slice (some ad523) qa.length qh] 29 (0, 0)) (by (with_reducible repeat (first | apply blk_drewN | apply blk_drew | apply blk_alloc)); exact qc.out) hb); have n2_ := Aside0.mk (blk_below (g := qk) (o := .cells #[.slice none 0 0] 29 (0, 0)) (by (with_reducible repeat (first | apply blk_drewN | apply blk_drew | apply blk_alloc)); exact qd.out) hb); have n3_ := Aside0.mk (blk_below (g := qn) (o := .cells #[u521000] 29 (0, 0)) (by (with_reducible repeat (first | apply blk_drewN | apply blk_drew | apply blk_alloc)); exact qe.out) hb); have n4_ := Aside0.mk (below_step (by repeat (first | (with_reducible first | exact HB.out | apply below_alloc | apply pw_below_drewN | apply below_drew1 | refine below_set ?_ qi.out | refine below_set ?_ qm.out | refine below_set ?_ qo.out) | exact HB.out)) hb); clear qf; clear qc; clear qd; clear qe; clear HB; have qf := n0_; have qc := n1_; have qd := n2_; have qe := n3_; have HB := n4_; clear n0_ n1_ n2_ n3_ n4_; (try clear hb); (try clear hb2); (try clear hk); (try clear hi); refine hK.out _ _ ⟨(blk_cell qc.out 0).trans rfl, ((HB.out.cell (World.block_lt_of_cell? w _ hw522_0)).trans hw522_0), ((HB.out.cell (World.block_lt_of_cell? w _ hw523_0)).trans hw523_0), ((HB.out.cell (World.block_lt_of_cell? w _ hw523_1)).trans hw523_1), ((HB.out.cell (World.block_lt_of_cell? w _ hw523_2)).trans hw523_2)⟩ (fun hHeld => ?_); clear hK K; refine norm_ (a' := ?_) ?_ ?_; rotate_left
              ·show Act.put _ (some 44) _ = _
               simp only [um61]; rfl
              refine pure_ (i := 13) (N := some 45) (v := ?_) (a' := ?_) bm61_14 rfl rfl (any_of HT_.out (by kernel_rfl)) (fun _ _ _ h => h) (Or.inl ⟨by rfl, ?_⟩) ?_ ?_; rotate_left
              ·intro w'; go_simp; (with_reducible rfl)
              rotate_left; (·simp only [um61]; rfl); refine pure_ (i := 14) (N := some 7) (v := ?_) (a' := ?_) bm61_15 rfl rfl (any_of HT_.out (by kernel_rfl)) (fun _ _ _ h => h) (Or.inl ⟨by rfl, ?_⟩) ?_ ?_; rotate_left
              ·intro w'; go_simp; (with_reducible rfl)
              rotate_left; (·simp only [um61]; rfl)
              refine done_ (done_of HT_.out (by kernel_rfl)) ?_
              try go_wp2
              go_roundg k3
              case measure => have := HJ2.out; have := HK2.out; have := HK3.out; omega
              case rel => exact ⟨(t524), (wrap64 (qj + 1)), (by first | rfl | (simp; done) | (simp [*]; done)), (by first | rfl | (simp; done) | (simp [*]; done)), H', ⟨by have := HJ2.out; have := HK2.out; have := HK3.out; omega⟩, ⟨by (with_reducible repeat (first | apply Kd.R_alloc | apply Kd.R_drewN | apply Kd.R_drew)); exact qf.out⟩, ⟨by (with_reducible repeat (first | apply blk_drewN | apply blk_drew | apply blk_alloc)); exact qc.out⟩, ⟨by (with_reducible repeat (first | apply blk_drewN | apply blk_drew | apply blk_alloc)); exact qd.out⟩, ⟨by (with_reducible repeat (first | apply blk_drewN | apply blk_drew | apply blk_alloc)); exact qe.out⟩, ⟨by repeat (first | (with_reducible first | exact HB.out | apply below_alloc | apply pw_below_drewN | apply below_drew1 | refine below_set ?_ qi.out | refine below_set ?_ qm.out | refine below_set ?_ qo.out) | exact HB.out)⟩⟩
             ·rw [if_neg c35] at H
              exact absurd H (by simp)
            ·rw [if_neg c34] at H
             exact absurd H (by simp)
           ·rw [if_neg c33] at H
            exact absurd H (by simp)
         ·rw [if_neg c30] at H
          have c30b0 : decide (qj < (l1.length : Int)) = false := decide_eq_false c30; clear c30
          by_cases c39 : x7_3 = true
          ·subst c39
           have H1 : (if 0 ≤ qb then (if qb < (qa.length : Int) then (if qp.length < 3518437208883 then (spec_Pick.l0 k3 l1 (wrap64 (qb + 1)) qa (qp ++ [(⟨(rd_T45 qa qb).f0, (rd_T45 qa qb).f1, (rd_T45 qa qb).f2⟩ : S45)])) else (none)) else (none)) else (none)) = some r := by rw [if_pos rfl] at H; exact H
           clear H; have H := H1; clear H1
           by_cases c40 : 0 ≤ qb
           ·rw [if_pos c40] at H
            have c40b0 : decide (0 ≤ qb) = true := decide_eq_true c40; clear c40
            by_cases c41 : qb < (qa.length : Int)
            ·rw [if_pos c41] at H
             have c41b0 : decide (qb < (qa.length : Int)) = true := decide_eq_true c41; clear c41
             by_cases c42 : qp.length < 3518437208883
             ·rw [if_pos c42] at H
              have LMc42 := Aside0.mk c42; clear c42
              obtain ⟨y526, hy526⟩ : ∃ y_ : List (S45), y_ = (qp ++ [(⟨(rd_T45 qa qb).f0, (rd_T45 qa qb).f1, (rd_T45 qa qb).f2⟩ : S45)]) := ⟨_, rfl⟩
              replace H : (spec_Pick.l0 k3 l1 (wrap64 (qb + 1)) qa y526) = some r := by first | (rw [hy526]; with_reducible exact H) | (have H2_ := (Option.bind_some _ _).symm.trans H; rw [hy526]; with_reducible exact H2_) | (have H2_ := (Option.bind_some _ _).symm.trans H; with_reducible exact H2_) | with_reducible exact H | (rw [hy526]; exact H) | exact H
              have Ny526 := Aside0.mk hy526; clear hy526; have H' := Aside0.mk H; clear H
              try go_wp2
              have n0_ := Aside0.mk (Kd.R_drew qf.out); have n1_ := Aside0.mk (blk_drew qc.out); have n2_ := Aside0.mk (blk_drew qd.out); have n3_ := Aside0.mk (blk_drew qe.out); have n4_ := Aside0.mk (below_drew1 HB.out); clear qf; clear qc; clear qd; clear qe; clear HB; have qf := n0_; have qc := n1_; have qd := n2_; have qe := n3_; have HB := n4_; clear n0_ n1_ n2_ n3_ n4_; have p525 : 0 ≤ (qb : Int) := of_decide_eq_true (by first | (with_reducible assumption) | assumption); have q525 : qb < (qa.length : Int) := of_decide_eq_true (by first | (with_reducible assumption) | assumption); obtain ⟨ad525, e525, hx525_0, hx525_1, hx525_2⟩ := at_T45 HR0_0.out qb p525 q525; have hw525_2 := hx525_2; have hw525_1 := hx525_1; have hw525_0 := hx525_0
              cases e525
              replace hx525_0 := (HB.out.cell (World.block_lt_of_cell? w _ hx525_0)).trans hx525_0; replace hx525_1 := (HB.out.cell (World.block_lt_of_cell? w _ hx525_1)).trans hx525_1; replace hx525_2 := (HB.out.cell (World.block_lt_of_cell? w _ hx525_2)).trans hx525_2; replace p525 := eq_true p525; replace q525 := eq_true q525; refine start_ (n := 11) (S := fun w' => w'.cell? ⟨qn, 0, none⟩ = some (u521000) ∧ w'.cell? ⟨qg, 0, none⟩ = some (.slice (some ad525) qa.length qh) ∧ w'.cell? (ad525.add ((qb).toNat * 3)) = some (.string ((rd_T45 qa qb).f0)) ∧ w'.cell? ⟨(ad525.add ((qb).toNat * 3)).block, (ad525.add ((qb).toNat * 3)).off + 1, none⟩ = some (.string ((rd_T45 qa qb).f1)) ∧ w'.cell? ⟨(ad525.add ((qb).toNat * 3)).block, (ad525.add ((qb).toNat * 3)).off + 2, none⟩ = some (.bool ((rd_T45 qa qb).f2))) (ds := [10]) bm61_19 (by kernel_rfl) rfl rfl ⟨(blk_cell qe.out 0).trans rfl, (blk_cell qc.out 0).trans rfl, ((HB.out.cell (World.block_lt_of_cell? w _ hw525_0)).trans hw525_0), ((HB.out.cell (World.block_lt_of_cell? w _ hw525_1)).trans hw525_1), ((HB.out.cell (World.block_lt_of_cell? w _ hw525_2)).trans hw525_2)⟩ (fun hHeld => ?_); refine with_tabW spec_Pick.tab13 spec_Pick.bits13 (fun HT_ HW_ => ?_); generalize wr.drew = w43 at qf qc qd qe HB hx525_0 hx525_1 hx525_2 hHeld ⊢; refine pure_ (i := 0) (N := some 47) (v := ?_) (a' := ?_) bm61_20 rfl rfl (any_of HT_.out (by kernel_rfl)) (fun _ _ _ h => h) (Or.inl ⟨by rfl, ?_⟩) ?_ ?_; rotate_left
              ·intro w'; go_simp; (with_reducible rfl)
              rotate_left; (·simp only [um61]; rfl); refine pure_ (i := 2) (N := some 49) (v := ?_) (a' := ?_) bm61_21 rfl rfl (any_of HT_.out (by kernel_rfl)) (fun _ _ _ h => h) (Or.inl ⟨by rfl, ?_⟩) ?_ ?_; rotate_left
              ·intro w'; go_simp; (with_reducible rfl)
              rotate_left; (·simp only [um61]; rfl); refine pure_ (i := 4) (N := some 51) (v := ?_) (a' := ?_) bm61_22 rfl rfl (any_of HT_.out (by kernel_rfl)) (fun _ _ _ h => h) (Or.inl ⟨by rfl, ?_⟩) ?_ ?_; rotate_left
              ·intro w'; go_simp; (with_reducible rfl)
              rotate_left; (·simp only [um61]; rfl); refine take_ (i := 1) (N := some 48) (v := ?_) (a' := ?_) bm61_23 rfl rfl (take_ofW HT_.out HW_.out (by kernel_rfl)) (fun _ _ _ h => h) (Or.inl ⟨by rfl, ?_⟩) hHeld ?_ ?_; rotate_left
              ·rintro w' ⟨s0, s1, s2, s3, s4⟩; go_simp; (with_reducible rfl)
              rotate_left; (·simp only [um61]; rfl); refine take_ (i := 3) (N := some 50) (v := ?_) (a' := ?_) bm61_24 rfl rfl (take_ofW HT_.out HW_.out (by kernel_rfl)) (fun _ _ _ h => h) (Or.inl ⟨by rfl, ?_⟩) hHeld ?_ ?_; rotate_left
              ·rintro w' ⟨s0, s1, s2, s3, s4⟩; go_simp; (with_reducible rfl)
              rotate_left; (·simp only [um61]; rfl); refine pure_ (i := 5) (N := some 52) (v := ?_) (a' := ?_) bm61_25 rfl rfl (any_of HT_.out (by kernel_rfl)) (fun _ _ _ h => h) (Or.inl ⟨by rfl, ?_⟩) ?_ ?_; rotate_left
              ·intro w'; go_simp; (with_reducible rfl)
              rotate_left; (·simp only [um61]; rfl); refine take_ (i := 6) (N := some 53) (v := ?_) (a' := ?_) bm61_26 rfl rfl (take_ofW HT_.out HW_.out (by kernel_rfl)) (fun _ _ _ h => h) (Or.inl ⟨by rfl, ?_⟩) hHeld ?_ ?_; rotate_left
              ·rintro w' ⟨s0, s1, s2, s3, s4⟩; go_simp; (with_reducible rfl)
              rotate_left; (·simp only [um61]; rfl)
              refine one_ (i := 7) (N := some 54) bm61_27 rfl rfl (one_of HT_.out (by kernel_rfl)) (by decide) (fun K hK => ?_); refine value_ (w1 := ?_) (v := ?_) (by rfl) rfl ?_ ?_; rotate_left 2
              ·go_simp
               constructor
               ·rfl
               ·rfl
              refine hK.out _ _ ⟨(blk_cell (blk_alloc qe.out _) 0).trans rfl, (blk_cell (blk_alloc qc.out _) 0).trans rfl, (World.cell?_alloc_lt _ _ _ (World.block_lt_of_cell? _ _ (((HB.out.cell (World.block_lt_of_cell? w _ hw525_0)).trans hw525_0)))).trans (((HB.out.cell (World.block_lt_of_cell? w _ hw525_0)).trans hw525_0)), (World.cell?_alloc_lt _ _ _ (World.block_lt_of_cell? _ _ (((HB.out.cell (World.block_lt_of_cell? w _ hw525_1)).trans hw525_1)))).trans (((HB.out.cell (World.block_lt_of_cell? w _ hw525_1)).trans hw525_1)), (World.cell?_alloc_lt _ _ _ (World.block_lt_of_cell? _ _ (((HB.out.cell (World.block_lt_of_cell? w _ hw525_2)).trans hw525_2)))).trans (((HB.out.cell (World.block_lt_of_cell? w _ hw525_2)).trans hw525_2))⟩ (fun hHeld => ?_); clear hK K; refine norm_ (a' := ?_) ?_ ?_; rotate_left
              ·show Act.put _ (some 54) _ = _
               simp only [um61]; rfl
              refine one_ (i := 8) (N := some 55) bm61_28 rfl rfl (one_of HT_.out (by kernel_rfl)) (by decide) (fun K hK => ?_); refine Kd.R_append_step k45 (w0 := w) w.heap.size (by rfl) (.tmp 48) (.tmp 54) 27 45 (.agg #[(.string ⟨#[]⟩), (.string ⟨#[]⟩), (.bool false)]) 40 rfl Tryd.underlying27 info45 rfl (by decide) (by omega) u521000 qp (⟨(rd_T45 qa qb).f0, (rd_T45 qa qb).f1, (rd_T45 qa qb).f2⟩ : S45) [.string ((rd_T45 qa qb).f0), .string ((rd_T45 qa qb).f1), .bool ((rd_T45 qa qb).f2)] (fun _ => True) (fun _ => False) rfl rfl ?aP (fun _ hk => hk.elim) ?aF ?aO ?aB ?aS ?aL ?_; (case aP => exact k45_mkM _ _ _ (⟨(rd_T45 qa qb).f0, (rd_T45 qa qb).f1, (rd_T45 qa qb).f2⟩ : S45)); (case aB => exact (by repeat (first | (with_reducible first | exact HB.out | apply below_alloc | apply pw_below_drewN | apply below_drew1 | refine below_set ?_ qi.out | refine below_set ?_ qm.out | refine below_set ?_ qo.out) | exact HB.out))); (case aF => exact (fun _ _ => trivial)); (case aO => exact (by (with_reducible repeat (first | apply Kd.R_alloc | apply Kd.R_drewN | apply Kd.R_drew)); exact qf.out)); (case aS => exact (below_size (by repeat (first | (with_reducible first | exact HB.out | apply below_alloc | apply pw_below_drewN | apply below_drew1 | refine below_set ?_ qi.out | refine below_set ?_ qm.out | refine below_set ?_ qo.out) | exact HB.out)))); (case aL => have := LMc42.out; omega); intro v527 w44 ho hb hg hat
              rw [← Ny526.out] at ho
              have n0_ := Aside0.mk (blk_grown (g := qg) (o := .cells #[.slice (some ad525) qa.length qh] 29 (0, 0)) (by (with_reducible repeat (first | apply blk_drewN | apply blk_drew | apply blk_alloc)); exact qc.out) hg (Kd.R_ne qf.out qc.out (by decide))); have n1_ := Aside0.mk (blk_grown (g := qk) (o := .cells #[.slice none 0 0] 29 (0, 0)) (by (with_reducible repeat (first | apply blk_drewN | apply blk_drew | apply blk_alloc)); exact qd.out) hg (Kd.R_ne qf.out qd.out (by decide))); have n2_ := Aside0.mk (blk_grown (g := qn) (o := .cells #[u521000] 29 (0, 0)) (by (with_reducible repeat (first | apply blk_drewN | apply blk_drew | apply blk_alloc)); exact qe.out) hg (Kd.R_ne qf.out qe.out (by decide))); have n3_ := Aside0.mk (hb); have n4_ := Aside0.mk (ho); clear qc; clear qd; clear qe; clear HB; clear qf; have qc := n0_; have qd := n1_; have qe := n2_; have HB := n3_; have HO528 := n4_; clear n0_ n1_ n2_ n3_ n4_; clear ho hb hg hat; obtain ⟨Ao45, co45, eo45⟩ := Kd.R_slice HO528.out; (first | subst eo45 | (injection eo45 with f1_ f2_ f3_; have f4_ := f1_.symm; have f5_ := f3_.symm; clear f1_ f2_ f3_; subst f4_; subst f5_)); refine hK.out _ _ ⟨(blk_cell qe.out 0).trans rfl, (blk_cell qc.out 0).trans rfl, ((HB.out.cell (World.block_lt_of_cell? w _ hw525_0)).trans hw525_0), ((HB.out.cell (World.block_lt_of_cell? w _ hw525_1)).trans hw525_1), ((HB.out.cell (World.block_lt_of_cell? w _ hw525_2)).trans hw525_2)⟩ (fun hHeld => ?_); clear hK K; refine norm_ (a' := ?_) ?_ ?_; rotate_left
              ·show Act.put _ (some 55) _ = _
               simp only [um61]; rfl
              refine pure_ (i := 9) (N := some 56) (v := ?_) (a' := ?_) bm61_29 rfl rfl (any_of HT_.out (by kernel_rfl)) (fun _ _ _ h => h) (Or.inl ⟨by rfl, ?_⟩) ?_ ?_; rotate_left
              ·intro w'; go_simp; (with_reducible rfl)
              rotate_left; (·simp only [um61]; rfl)
              refine last_ (i := 10) (N := none) bm61_30 rfl rfl (one_of HT_.out (by kernel_rfl)) (by decide) (fun K hK => ?_); have hs46 : w44.cell? ⟨qn, 0, none⟩ = some (u521000) := (blk_cell qe.out 0).trans rfl; have hfs46 := blk_frozen qe.out 0; have hns46_0 := qr.out; have hns46_1 := qu.out; have hms46_0 := qt.out; have hms46_1 := NB520_519.out; refine skip_ (w1 := ?_) (by rfl) rfl ?_ ?_; rotate_left
              ·go_simp; rfl
              refine hK.out _ _ ?_; clear hK K; refine done_ (done_of HT_.out (by kernel_rfl)) ?_
              try go_wp2
              go_roundg k3
              case measure => have := HJ2.out; have := HK2.out; have := HK3.out; omega
              case rel => exact ⟨(wrap64 (qb + 1)), (y526), (.slice Ao45 y526.length co45), (by first | rfl | (simp; done) | (simp [*]; done)), H', ⟨by have := HJ2.out; have := HK2.out; have := HK3.out; omega⟩, ⟨by (with_reducible repeat (first | apply Kd.R_alloc | apply Kd.R_drewN | apply Kd.R_drew)); exact Kd.R_mono (Kd.R_far (p := ⟨qn, 0, none⟩) (Kd.R_types HO528.out qe.out (by decide)) (fun _ hk => hk.2) (.slice Ao45 y526.length co45)) (fun _ hk => trivial)⟩, ⟨by (with_reducible repeat (first | apply blk_drewN | apply blk_drew | apply blk_alloc)); refine blk_far ?_ qr.out _; (with_reducible repeat (first | apply blk_drewN | apply blk_drew | apply blk_alloc)); exact qc.out⟩, ⟨by (with_reducible repeat (first | apply blk_drewN | apply blk_drew | apply blk_alloc)); refine blk_far ?_ qu.out _; (with_reducible repeat (first | apply blk_drewN | apply blk_drew | apply blk_alloc)); exact qd.out⟩, ⟨by (with_reducible repeat (first | apply blk_drewN | apply blk_drew | apply blk_alloc)); refine blk_put (cs := #[u521000]) ?_ 0 _ rfl; (with_reducible repeat (first | apply blk_drewN | apply blk_drew | apply blk_alloc)); exact qe.out⟩, ⟨by repeat (first | (with_reducible first | exact HB.out | apply below_alloc | apply pw_below_drewN | apply below_drew1 | refine below_set ?_ qi.out | refine below_set ?_ qm.out | refine below_set ?_ qo.out) | exact HB.out)⟩⟩
             ·rw [if_neg c42] at H
              exact absurd H (by simp)
            ·rw [if_neg c41] at H
             exact absurd H (by simp)
           ·rw [if_neg c40] at H
            exact absurd H (by simp)
          ·replace c39 := Bool.eq_false_iff.mpr c39; subst c39
           have H1 : (spec_Pick.l0 k3 l1 (wrap64 (qb + 1)) qa qp) = some r := by rw [if_neg (show ¬ (false = true) by decide)] at H; exact H
           clear H; have H := H1; clear H1; have H' := Aside0.mk H; clear H
           go_wp2
           go_roundg k3
           case measure => have := HJ2.out; have := HK2.out; have := HK3.out; omega
           case rel => exact ⟨(wrap64 (qb + 1)), (qp), (u521000), (by first | rfl | (simp; done) | (simp [*]; done)), H', ⟨by have := HJ2.out; have := HK2.out; have := HK3.out; omega⟩, ⟨by (with_reducible repeat (first | apply Kd.R_alloc | apply Kd.R_drewN | apply Kd.R_drew)); exact qf.out⟩, ⟨by (with_reducible repeat (first | apply blk_drewN | apply blk_drew | apply blk_alloc)); exact qc.out⟩, ⟨by (with_reducible repeat (first | apply blk_drewN | apply blk_drew | apply blk_alloc)); exact qd.out⟩, ⟨by (with_reducible repeat (first | apply blk_drewN | apply blk_drew | apply blk_alloc)); exact qe.out⟩, ⟨by repeat (first | (with_reducible first | exact HB.out | apply below_alloc | apply pw_below_drewN | apply below_drew1 | refine below_set ?_ qi.out | refine below_set ?_ qm.out | refine below_set ?_ qo.out) | exact HB.out)⟩⟩
      ·rw [if_neg c26] at H
       have c26b0 : decide (qb < (qa.length : Int)) = false := decide_eq_false c26; clear c26; obtain rfl := Option.some.inj H; have hnb47 := qv.out; have hnc47 := qw.out; have hnb48 := qr.out; have hnc48 := qt.out; have hcz49_0 : wr.cell? ⟨qg, 0, none⟩ = some (.slice ql qa.length qh) := (blk_cell qc.out 0).trans rfl; have hfz49_0 := blk_frozen qc.out 0; have hnb50 := NB520_519.out; have hnc50 := qu.out; have hcz51_0 : wr.cell? ⟨qn, 0, none⟩ = some (u521000) := (blk_cell qe.out 0).trans rfl; have hfz51_0 := blk_frozen qe.out 0; obtain ⟨Ao52, co52, eo52⟩ := Kd.R_slice qf.out; subst eo52; have hcz53_0 : wr.cell? ⟨qk, 0, none⟩ = some (.slice none 0 0) := (blk_cell qd.out 0).trans rfl; have hfz53_0 := blk_frozen qd.out 0
       go_wp2
       refine bodyPost_ret (results_cell_row rfl _ _ qk 29 #[.slice Ao52 qp.length co52] (0, 0) _ rfl (by (with_reducible repeat (first | apply blk_drewN | apply blk_drew | apply blk_alloc)); refine blk_put (cs := #[.slice none 0 0]) ?_ 0 _ rfl; (with_reducible repeat (first | apply blk_drewN | apply blk_drew | apply blk_alloc)); exact qd.out) Tryd.underlying29 rfl (by kernel_rfl)) rfl ?_; exact ⟨_, by first | rfl | (simp [errW_none, errW_some] <;> rfl) | (simp [*, errW_none, errW_some] <;> rfl), by (with_reducible repeat (first | apply Kd.R_alloc | apply Kd.R_drewN | apply Kd.R_drew)); exact Kd.R_mono (Kd.R_far (p := ⟨qk, 0, none⟩) (Kd.R_types qf.out qd.out (by decide)) (fun _ hk => hk.2) (.slice Ao52 qp.length co52)) (fun _ hk => trivial), by repeat (first | (with_reducible first | exact HB.out | apply below_alloc | apply pw_below_drewN | apply below_drew1 | refine below_set ?_ qi.out | refine below_set ?_ qm.out | refine below_set ?_ qo.out) | exact HB.out)⟩

end Go.Proofs.YtkdghhkpmkfjhaaDoor.P

