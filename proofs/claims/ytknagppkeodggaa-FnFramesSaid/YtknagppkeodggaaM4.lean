/- Several texts of this claim in one file: YtknagppkeodggaaPImplIn, YtknagppkeodggaaPImplShort, YtknagppkeodggaaPImplSum, YtknagppkeodggaaPImplEncode, YtknagppkeodggaaPImplFront, YtknagppkeodggaaPImplValidDecoder, YtknagppkeodggaaPSlicesCloneStringString, YtknagppkeodggaaPImplFeed, YtknagppkeodggaaPLawsWTexts, YtknagppkeodggaaPLawsWDecoder, YtknagppkeodggaaPSpecL1Many, YtknagppkeodggaaPSpecL1Open, YtknagppkeodggaaPSpecL1In, YtknagppkeodggaaPSpecL2Short, YtknagppkeodggaaPSpecL2Text, YtknagppkeodggaaPSpecSum, YtknagppkeodggaaPSpecEncode, YtknagppkeodggaaPSpecL3Front, YtknagppkeodggaaPSpecValidDecoder. -/
import Derived.Test.YtknagppkeodggaaM2
import Derived.Test.YtknagppkeodggaaM3
namespace Go.Proofs.Ytknagppkeodggaa.P
open Go.RowKit Go.Proofs.YtknagppkeodggaaW.PrintWords Go.Proofs.YtknagppkeodggaaW.PrintLast Go.Proofs.YtknagppkeodggaaW.PrintMore
attribute [local go_sem] max2_int min2_int max_two min_two max_three min_three max_four min_four
set_option linter.unusedVariables false
set_option linter.unusedSimpArgs false

/-! ### impl_in: function 25 -/
def impl_in.f (a0 : Int) (a1 : Int) (a2 : Int) : Option (Bool) := if a0 ≥ a1 then (some (decide (a0 ≤ a2))) else (some false)
set_option maxHeartbeats 8000000 in
set_option maxRecDepth 100000 in
theorem impl_in.calls (a0 : Int) (a1 : Int) (a2 : Int) (r : Bool) (w : World) (h : impl_in.f a0 a1 a2 = some r) :
  Calls Try.prog 25 #[.int .i64 a0, .int .i64 a1, .int .i64 a2] w fun e w' => e = .returned (.bool r) ∧ Drawn0 w w' := by
 have H : (if a0 ≥ a1 then (some (decide (a0 ≤ a2))) else (some false)) = some r := h; clear h
 by_cases c4 : a0 ≥ a1
 ·rw [if_pos c4] at H
  have a3 : decide (a1 ≤ a0) = true := decide_eq_true c4; clear c4; obtain rfl := Option.some.inj H
  go_enter Try.func25, Try.ntmps25
  go_wp2
  go_ret
  exact ⟨Ye1, dz⟩
 ·rw [if_neg c4] at H
  have a3 : decide (a1 ≤ a0) = false := decide_eq_false c4; clear c4; obtain rfl := Option.some.inj H
  go_enter Try.func25, Try.ntmps25
  go_wp2
  go_ret
  exact ⟨Ye1, dz⟩

end Go.Proofs.Ytknagppkeodggaa.P


namespace Go.Proofs.Ytknagppkeodggaa.P
open Go.RowKit Go.Proofs.YtknagppkeodggaaW.PrintWords Go.Proofs.YtknagppkeodggaaW.PrintLast Go.Proofs.YtknagppkeodggaaW.PrintMore
attribute [local go_sem] max2_int min2_int max_two min_two max_three min_three max_four min_four
set_option linter.unusedVariables false
set_option linter.unusedSimpArgs false

/-! ### impl_short: function 29 -/
def impl_short.l0 : Nat → Int → List Int → Option (ByteArray)
 | 0, _, _ => none
 | k + 1, x0, x3 => if x0 ≥ 128 then (if x3.length < 140737488355328 then (impl_short.l0 k (x0 / 128) (x3 ++ [Go.bits .or .u8 ((x0) % 256) 128])) else (none)) else (if x3.length < 140737488355328 then (some (strOfNums (x3 ++ [(x0) % 256]))) else (none))
def impl_short.f (k : Nat) (a0 : Int) : Option (ByteArray) := impl_short.l0 k a0 ([] : List Int)
theorem impl_short.mono_l : ∀ k, (∀ y0 y1, LeO (impl_short.l0 k y0 y1) (impl_short.l0 (k + 1) y0 y1))
 | 0 => fun _ _ r h => by simp [impl_short.l0] at h
 | k + 1 => by
  have ih0 := impl_short.mono_l k
  ·intro y0 y1
   unfold impl_short.l0
   repeat' first
   | (with_reducible exact ih0 _ _)
   | (with_reducible exact LeO.refl _)
   | (with_reducible exact LeO.none _)
   | (with_reducible refine LeO.ite ?_ ?_)
   | (with_reducible refine LeO.bind ?_ (fun _ => ?_))
   | exact ih0 _ _
   | exact LeO.none _
   | refine LeO.ite ?_ ?_
   | refine LeO.bind ?_ (fun _ => ?_)
theorem impl_short.mono : ∀ a0 k, LeO (impl_short.f k a0) (impl_short.f (k + 1) a0) := by
 intro a0 k; have ih0 := impl_short.mono_l k
 unfold impl_short.f
 repeat' first
   | (with_reducible exact ih0 _ _)
   | (with_reducible exact LeO.refl _)
   | (with_reducible exact LeO.none _)
   | (with_reducible refine LeO.ite ?_ ?_)
   | (with_reducible refine LeO.bind ?_ (fun _ => ?_))
   | exact ih0 _ _
   | exact LeO.none _
   | refine LeO.ite ?_ ?_
   | refine LeO.bind ?_ (fun _ => ?_)
set_option maxHeartbeats 8000000 in
set_option maxRecDepth 100000 in
theorem impl_short.calls (k : Nat) (a0 : Int) (r : ByteArray) (w : World) (h : impl_short.f k a0 = some r) :
  Calls Try.prog 29 #[.int .u64 a0] w fun e w' => e = .returned (.string r) ∧ Below w.heap.size w w' := by
 have HB := Aside0.mk (Below.refl w.heap.size w); have H : (impl_short.l0 k a0 ([] : List Int)) = some r := h; clear h; have H' := Aside0.mk H; clear H
 go_enter Try.func29, Try.ntmps29
 go_wp2
 go_loopg [0, 3] k (fun kq v0 v3 w' => ∃ (a1 : Int) (a2 : List Int), v0 = .int .u64 a1 ∧ Aside0 (impl_short.l0 kq a1 a2 = some r) ∧ Aside0 (kq ≤ k) ∧ Aside0 (Kd.R (Kd.int .u8) 5 w' w.heap.size (fun _ => True) v3 a2) ∧ Aside0 (Below w.heap.size w w'))
 case atStart => exact ⟨(a0), (([] : List Int)), Ye1, H', ⟨Nat.le_refl _⟩, ⟨nl⟩, ⟨be HB.out⟩⟩
 case round =>
  clear H'; obtain ⟨a1, a2, rfl, HA, HK1, a5, HB⟩ := hrel
  cases gk with
  | zero => exact absurd HA.out (by simp [impl_short.l0])
  | succ k1 =>
   have H := HA.out; clear HA; simp only [impl_short.l0] at H
   by_cases c2 : a1 ≥ 128
   ·rw [if_pos c2] at H
    have a7 : decide (128 ≤ a1) = true := decide_eq_true c2; clear c2
    by_cases c3 : a2.length < 140737488355328
    ·rw [if_pos c3] at H
     have a8 := Aside0.mk c3; clear c3
     obtain ⟨a6, a3⟩ : ∃ y_ : List Int, y_ = (a2 ++ [Go.bits .or .u8 ((a1) % 256) 128]) := ⟨_, rfl⟩
     replace H : (impl_short.l0 k1 (a1 / 128) a6) = some r := by first | (rw [a3]; with_reducible exact H) | (have H2_ := (Option.bind_some _ _).symm.trans H; rw [a3]; with_reducible exact H2_) | (have H2_ := (Option.bind_some _ _).symm.trans H; with_reducible exact H2_) | with_reducible exact H | (rw [a3]; exact H) | exact H
     have a9 := Aside0.mk a3; clear a3; have H' := Aside0.mk H; clear H
     go_wp2_with (first | ((with_reducible refine gate_builtin (b := .append) (xs := #[.tmp 6, .tmp 10]) rfl ?_); at_builtin; refine Kd.R_append (Kd.int .u8) (w0 := w) w.heap.size rfl (.tmp 6) (.tmp 10) 22 5 (.int .u8 0) 1 rfl Try.underlying22 info5 rfl (by decide) (by omega) u3 a2 (Go.bits .or .u8 ((a1) % 256) 128) [.int .u8 (Go.bits .or .u8 ((a1) % 256) 128)] (fun _ => True) (fun _ => False) rfl rfl ?aP (fun _ hk => hk.elim) ?aF ?aO ?aB ?aS ?aL ?_; (case aP => exact rfl); (case aB => exact (be HB.out)); (case aF => exact (fun _ _ => trivial)); (case aO => exact (kr a5.out)); (case aS => exact (below_size (be HB.out))); (case aL => have := a8.out; omega); intro v388 w4 ho hb hg hat; rw [← a9.out] at ho; refine Ya2 (hb) (ho) ?_; clear HB a5; intro HB aa; clear ho hb hg hat))
     go_roundg k1
     case measure => have := HK1.out; omega
     case rel => exact ⟨(a1 / 128), (a6), Ye1, H', ⟨by have := HK1.out; omega⟩, ⟨kr aa.out⟩, ⟨be HB.out⟩⟩
    ·rw [if_neg c3] at H
     exact absurd H (by simp)
   ·rw [if_neg c2] at H
    have a7 : decide (128 ≤ a1) = false := decide_eq_false c2; clear c2
    by_cases c5 : a2.length < 140737488355328
    ·rw [if_pos c5] at H
     have ab := Aside0.mk c5; clear c5
     obtain ⟨ac, a4⟩ : ∃ y_ : List Int, y_ = (a2 ++ [(a1) % 256]) := ⟨_, rfl⟩
     replace H : (some (strOfNums ac)) = some r := by first | (rw [a4]; with_reducible exact H) | (have H2_ := (Option.bind_some _ _).symm.trans H; rw [a4]; with_reducible exact H2_) | (have H2_ := (Option.bind_some _ _).symm.trans H; with_reducible exact H2_) | with_reducible exact H | (rw [a4]; exact H) | exact H
     have ad := Aside0.mk a4; clear a4; obtain rfl := Option.some.inj H
     go_wp2_with (first | ((with_reducible refine gate_builtin (b := .append) (xs := #[.tmp 14, .tmp 17]) rfl ?_); at_builtin; refine Kd.R_append (Kd.int .u8) (w0 := w) w.heap.size rfl (.tmp 14) (.tmp 17) 22 5 (.int .u8 0) 1 rfl Try.underlying22 info5 rfl (by decide) (by omega) u3 a2 ((a1) % 256) [.int .u8 ((a1) % 256)] (fun _ => True) (fun _ => False) rfl rfl ?aP (fun _ hk => hk.elim) ?aF ?aO ?aB ?aS ?aL ?_; (case aP => exact rfl); (case aB => exact (be HB.out)); (case aF => exact (fun _ _ => trivial)); (case aO => exact (kr a5.out)); (case aS => exact (below_size (be HB.out))); (case aL => have := ab.out; omega); intro v391 w6 ho hb hg hat; rw [← ad.out] at ho; refine Ya2 (hb) (ho) ?_; clear HB a5; intro HB ae; clear ho hb hg hat; have hcv7 := own_string (P := Try.prog) Try.underlying22 Try.underlying5 Try.underlying9 (Kd.own_of_R ae.out)))
     go_ret
     exact ⟨Ye2, be HB.out⟩
    ·rw [if_neg c5] at H
     exact absurd H (by simp)

end Go.Proofs.Ytknagppkeodggaa.P


namespace Go.Proofs.Ytknagppkeodggaa.P
open Go.RowKit Go.Proofs.YtknagppkeodggaaW.PrintWords Go.Proofs.YtknagppkeodggaaW.PrintLast Go.Proofs.YtknagppkeodggaaW.PrintMore
attribute [local go_sem] max2_int min2_int max_two min_two max_three min_three max_four min_four
set_option linter.unusedVariables false
set_option linter.unusedSimpArgs false

/-! ### impl_Sum: function 30 -/
mutual
def impl_Sum.l0 : Nat → ByteArray → Int → Int → Int → Option (ByteArray)
 | 0, _, _, _, _ => none
 | k + 1, x0, x1, x5, x6 => if x6 < (x0.size : Int) then (if 0 ≤ x6 then (impl_Sum.l0 k x0 x1 (IntKind.u64.wrap ((Go.bits .xor .u64 x5 (IntKind.u64.wrap (bt x0 x6))) * 1099511628211)) (wrap64 (x6 + 1))) else (none)) else (if 8 ≤ 281474976710656 then (impl_Sum.l1 k x1 x5 (List.replicate 8 0) 7) else (none))
def impl_Sum.l1 : Nat → Int → Int → List Int → Int → Option (ByteArray)
 | 0, _, _, _, _ => none
 | k + 1, x1, x5, x7, x8 => if x8 ≥ 0 then (if 0 ≤ x8 then (if x8 < (x7.length : Int) then (impl_Sum.l1 k x1 (x5 / 256) (x7.set (x8 : Int).toNat ((x5) % 256)) (wrap64 (x8 - 1))) else (none)) else (none)) else (if 0 ≤ (wrap64 (8 - x1)) then (if (wrap64 (8 - x1)) ≤ (x7.length : Int) then (some (strOfNums (x7.drop ((wrap64 (8 - x1)) : Int).toNat))) else (none)) else (none))
end
def impl_Sum.f (k : Nat) (a0 : ByteArray) (a1 : Int) : Option (ByteArray) := (impl_in.f a1 1 8).bind fun a8 => (if a8 = true then (impl_Sum.l0 k a0 a1 14695981039346656037 0) else (some (⟨#[]⟩ : ByteArray)))
theorem impl_Sum.mono_l : ∀ k, (∀ y0 y1 y2 y3, LeO (impl_Sum.l0 k y0 y1 y2 y3) (impl_Sum.l0 (k + 1) y0 y1 y2 y3)) ∧ (∀ y0 y1 y2 y3, LeO (impl_Sum.l1 k y0 y1 y2 y3) (impl_Sum.l1 (k + 1) y0 y1 y2 y3))
 | 0 => ⟨fun _ _ _ _ r h => by simp [impl_Sum.l0] at h, fun _ _ _ _ r h => by simp [impl_Sum.l1] at h⟩
 | k + 1 => by
  obtain ⟨ih0, ih1⟩ := impl_Sum.mono_l k; refine ⟨?_, ?_⟩
  ·intro y0 y1 y2 y3
   unfold impl_Sum.l0
   repeat' first
   | (with_reducible exact ih0 _ _ _ _)
   | (with_reducible exact ih1 _ _ _ _)
   | (with_reducible exact LeO.refl _)
   | (with_reducible exact LeO.none _)
   | (with_reducible refine LeO.ite ?_ ?_)
   | (with_reducible refine LeO.bind ?_ (fun _ => ?_))
   | exact ih0 _ _ _ _
   | exact ih1 _ _ _ _
   | exact LeO.none _
   | refine LeO.ite ?_ ?_
   | refine LeO.bind ?_ (fun _ => ?_)
  ·intro y0 y1 y2 y3
   unfold impl_Sum.l1
   repeat' first
   | (with_reducible exact ih0 _ _ _ _)
   | (with_reducible exact ih1 _ _ _ _)
   | (with_reducible exact LeO.refl _)
   | (with_reducible exact LeO.none _)
   | (with_reducible refine LeO.ite ?_ ?_)
   | (with_reducible refine LeO.bind ?_ (fun _ => ?_))
   | exact ih0 _ _ _ _
   | exact ih1 _ _ _ _
   | exact LeO.none _
   | refine LeO.ite ?_ ?_
   | refine LeO.bind ?_ (fun _ => ?_)
theorem impl_Sum.mono : ∀ a0 a1 k, LeO (impl_Sum.f k a0 a1) (impl_Sum.f (k + 1) a0 a1) := by
 intro a0 a1 k; obtain ⟨ih0, ih1⟩ := impl_Sum.mono_l k
 unfold impl_Sum.f
 repeat' first
   | (with_reducible exact ih0 _ _ _ _)
   | (with_reducible exact ih1 _ _ _ _)
   | (with_reducible exact LeO.refl _)
   | (with_reducible exact LeO.none _)
   | (with_reducible refine LeO.ite ?_ ?_)
   | (with_reducible refine LeO.bind ?_ (fun _ => ?_))
   | exact ih0 _ _ _ _
   | exact ih1 _ _ _ _
   | exact LeO.none _
   | refine LeO.ite ?_ ?_
   | refine LeO.bind ?_ (fun _ => ?_)
set_option maxHeartbeats 8000000 in
set_option maxRecDepth 100000 in
theorem impl_Sum.calls (k : Nat) (a0 : ByteArray) (a1 : Int) (r : ByteArray) (w : World) (h : impl_Sum.f k a0 a1 = some r) :
  Calls Try.prog 30 #[.string a0, .int .i64 a1] w fun e w' => e = .returned (.string r) ∧ Below w.heap.size w w' := by
 have HB := Aside0.mk (Below.refl w.heap.size w); have H : ((impl_in.f a1 1 8).bind fun a8 => (if a8 = true then (impl_Sum.l0 k a0 a1 14695981039346656037 0) else (some (⟨#[]⟩ : ByteArray)))) = some r := h; clear h; replace H := Option.bind_eq_some_iff.mp H; obtain ⟨a8, A30, H⟩ := H; replace H : (if a8 = true then (impl_Sum.l0 k a0 a1 14695981039346656037 0) else (some (⟨#[]⟩ : ByteArray))) = some r := H; have A3 := Aside0.mk A30; clear A30
 by_cases c4 : a8 = true
 ·subst c4
  have H1 : (impl_Sum.l0 k a0 a1 14695981039346656037 0) = some r := by rw [if_pos rfl] at H; exact H
  clear H; have H := H1; clear H1; have H' := Aside0.mk H; clear H
  go_enter Try.func30, Try.ntmps30
  go_wp2_with (first | ((with_reducible refine gc 25 rfl ?_); refine gl (some 10) _ (#[.int .i64 a1, .int .i64 1, .int .i64 8]) Try.func25 ?_; (with_reducible refine (impl_in.calls a1 1 8 true _ A3.out).mono ?_); rintro e w' ⟨rfl, ⟨nd, rfl⟩⟩; refine ⟨_, rfl, ?_⟩))
  go_loopg [5, 6] k (fun kq v5 v6 w' => ∃ (a9 : Int) (a5 : Int), v5 = .int .u64 a9 ∧ v6 = .int .i64 a5 ∧ Aside0 (impl_Sum.l0 kq a0 a1 a9 a5 = some r) ∧ Aside0 (kq ≤ k) ∧ Aside0 (Below w.heap.size w w'))
  case atStart => exact ⟨(14695981039346656037), (0), Ye1, Ye1, H', ⟨Nat.le_refl _⟩, ⟨be HB.out⟩⟩
  case round =>
   clear H'; (try clear c2); (try clear p2); (try clear c3); (try clear c4); obtain ⟨a9, a5, rfl, rfl, HA, HK1, HB⟩ := hrel
   cases gk with
   | zero => exact absurd HA.out (by simp [impl_Sum.l0])
   | succ k1 =>
    have H := HA.out; clear HA; simp only [impl_Sum.l0] at H
    by_cases c5 : a5 < (a0.size : Int)
    ·rw [if_pos c5] at H
     have ar : decide (a5 < (a0.size : Int)) = true := decide_eq_true c5; clear c5
     by_cases c6 : 0 ≤ a5
     ·rw [if_pos c6] at H
      have aA : decide (0 ≤ a5) = true := decide_eq_true c6; clear c6; have H' := Aside0.mk H; clear H; have p7 : 0 ≤ (a5 : Int) := oda; have q7 : a5 < (a0.size : Int) := oda; have hx7 := bt_at a0 a5; replace p7 := eq_true p7; replace q7 := eq_true q7
      go_wp2
      go_roundg k1
      case measure => have := HK1.out; omega
      case rel => exact ⟨(IntKind.u64.wrap ((Go.bits .xor .u64 a9 (IntKind.u64.wrap (bt a0 a5))) * 1099511628211)), (wrap64 (a5 + 1)), Ye1, Ye1, H', ⟨by have := HK1.out; omega⟩, ⟨be HB.out⟩⟩
     ·rw [if_neg c6] at H
      exact absurd H (by simp)
    ·rw [if_neg c5] at H
     have ar : decide (a5 < (a0.size : Int)) = false := decide_eq_false c5; clear c5
     by_cases c8 : 8 ≤ 281474976710656
     ·rw [if_pos c8] at H
      have aB := eq_true c8; have aC : decide (8 ≤ 281474976710656) = true := decide_eq_true c8; clear c8
      obtain ⟨au, ac⟩ : ∃ y_ : List Int, y_ = (List.replicate 8 0) := ⟨_, rfl⟩
      replace H : (impl_Sum.l1 k1 a1 a9 au 7) = some r := by first | (rw [ac]; with_reducible exact H) | (have H2_ := (Option.bind_some _ _).symm.trans H; rw [ac]; with_reducible exact H2_) | (have H2_ := (Option.bind_some _ _).symm.trans H; with_reducible exact H2_) | with_reducible exact H | (rw [ac]; exact H) | exact H
      have av := Aside0.mk ac; clear ac; have H' := Aside0.mk H; clear H
      go_wp2_with (first | ((with_reducible refine gd 25 rfl ?_); refine Kd.R_make (Kd.int .u8) _ 5 rfl (N := 25) rfl 22 _ _ rfl 8 rfl rfl Try.underlying22 (.int .u8 0) 1 info5 rfl (by decide) (by omega) 0 (ok := fun _ => True) (okp := fun _ => True) rfl (fun _ hk => hk) trivial (by omega) (by omega) (Below.refl _ _) (Nat.le_refl _) ?_; intro aD w9 ho10 hb hg_ hnew_; clear hg_ hnew_; (first | rw [← av.out] at ho10 | (simp only [Int.reduceToNat] at ho10; rw [← av.out] at ho10)); refine Ya2 (Kd.R_lower ho10 (below_size (be HB.out))) (below_step (be HB.out) hb) ?_; clear HB; intro aE HB; clear hb ho10))
      go_loopg [5, 8] k1 (fun kq v5 v8 w' => ∃ (a7 : Int) (a2 : List Int) (a4 : Int), v5 = .int .u64 a7 ∧ v8 = .int .i64 a4 ∧ Aside0 (impl_Sum.l1 kq a1 a7 a2 a4 = some r) ∧ Aside0 (kq ≤ k1) ∧ Aside0 (Kd.R (Kd.int .u8) 5 w' w.heap.size (fun _ => True) aD a2) ∧ Aside0 (Below w.heap.size w w'))
      case atStart => exact ⟨(a9), (au), (7), Ye1, Ye1, H', ⟨Nat.le_refl _⟩, ⟨kr aE.out⟩, ⟨be HB.out⟩⟩
      case round =>
       clear H'; (try clear c2); (try clear p2); (try clear c3); (try clear c4); (try clear c5); (try clear ar); (try clear c6); (try clear aA); (try clear p6); (try clear p7); (try clear q7); (try clear hx7); (try clear c8); (try clear aB); (try clear aC); (try clear p2); (try clear p7); (try clear q7); obtain ⟨a7, a2, a4, rfl, rfl, HA, HK2, a6, HB⟩ := hrel
       cases gk with
       | zero => exact absurd HA.out (by simp [impl_Sum.l1])
       | succ k2 =>
        have H := HA.out; clear HA; simp only [impl_Sum.l1] at H
        by_cases aa : a4 ≥ 0
        ·rw [if_pos aa] at H
         have aF : decide (0 ≤ a4) = true := decide_eq_true aa; clear aa
         by_cases ai : 0 ≤ a4
         ·rw [if_pos ai] at H
          have c12b0 : decide (0 ≤ a4) = true := decide_eq_true ai; clear ai
          by_cases aj : a4 < (a2.length : Int)
          ·rw [if_pos aj] at H
           have c13b0 : decide (a4 < (a2.length : Int)) = true := decide_eq_true aj; clear aj
           obtain ⟨an, ad⟩ : ∃ y_ : List Int, y_ = (a2.set (a4 : Int).toNat ((a7) % 256)) := ⟨_, rfl⟩
           replace H : (impl_Sum.l1 k2 a1 (a7 / 256) an (wrap64 (a4 - 1))) = some r := by first | (rw [ad]; with_reducible exact H) | (have H2_ := (Option.bind_some _ _).symm.trans H; rw [ad]; with_reducible exact H2_) | (have H2_ := (Option.bind_some _ _).symm.trans H; with_reducible exact H2_) | with_reducible exact H | (rw [ad]; exact H) | exact H
           have aG := Aside0.mk ad; clear ad; have H' := Aside0.mk H; clear H; have p14 : 0 ≤ (a4 : Int) := oda; have q14 : (a4 : Int) < ((a2.length : Int) : Int) := oda; obtain ⟨ao, aH, aw, ax, gl14, cl14, HG14⟩ := Kd.R_form a6.out (by omega); (first | cases aw | (injection aw with ea_ en_ ec_; (first | subst ea_ | (injection ea_ with ea_; subst ea_)); subst ec_; clear en_)); have aI := Aside0.mk ax; have GG14 := Aside0.mk HG14; clear ax gl14 HG14; obtain ⟨aL, hf14_0⟩ := Kd.R_celln 0 a6.out (a4 : Int) p14 q14; replace p14 := eq_true p14; replace q14 := eq_true q14; have ap := Kd.R_putg a6.out (a4 : Int) ((a7) % 256)
           go_wp2_with (first | ((with_reducible refine gate_store (t := 5) (p := 34) rfl ?_); refine store_event (t := 5) (p := 34) (v := ?vo_w16) (w1 := (wr.setCell ⟨ao, (a4 : Int).toNat, none⟩ (.int .u8 ((a7) % 256)))) ?hg ?ho ?hn ?hr ?_; (case ho => rfl); (case hg => rfl); (case hn => rfl); (case hr => first | (go_simp; done) | (go_simp; rfl)); intro aq hw; have hg : wr.grownBy aq (some ao) := (by rw [hw]; exact ap.2); have hp_ : Kd.R (Kd.int .u8) 5 aq w.heap.size (fun _ => True) (.slice (some ⟨ao, 0, none⟩) a2.length aH) an := (by rw [hw, aG.out]; exact ap.1); clear ap; refine Ya2 (hp_) ((by rw [hw]; exact below_set (HB.out) aI.out : Below w.heap.size w aq)) ?_; clear a6 HB; intro a6 HB; clear hg hw hp_))
           go_roundg k2
           case measure => have := HK1.out; have := HK2.out; omega
           case rel => exact ⟨(a7 / 256), (an), (wrap64 (a4 - 1)), Ye1, Ye1, H', ⟨by have := HK1.out; have := HK2.out; omega⟩, ⟨kr a6.out⟩, ⟨be HB.out⟩⟩
          ·rw [if_neg aj] at H
           exact absurd H (by simp)
         ·rw [if_neg ai] at H
          exact absurd H (by simp)
        ·rw [if_neg aa] at H
         have aF : decide (0 ≤ a4) = false := decide_eq_false aa; clear aa
         obtain ⟨a3, ak⟩ : ∃ j_ : Int, (wrap64 (8 - a1)) = j_ := ⟨_, rfl⟩
         replace H : (if 0 ≤ (a3) then (if (a3) ≤ (a2.length : Int) then (some (strOfNums (a2.drop ((a3) : Int).toNat))) else (none)) else (none)) = some r := by first | (rw [ak] at H; exact H) | (simp only [ak] at H ⊢; exact H)
         have hji17w : (IntKind.i64.wrap (8 - a1)) = a3 := (i64_w _).trans ak
         by_cases ae : 0 ≤ (a3)
         ·rw [if_pos ae] at H
          have c18b0 := eq_true ae; have c18b1 : decide (0 ≤ (a3)) = true := decide_eq_true ae; clear ae
          by_cases af : (a3) ≤ (a2.length : Int)
          ·rw [if_pos af] at H
           have c19b0 := eq_true af; have c19b1 : decide ((a3) ≤ (a2.length : Int)) = true := decide_eq_true af; clear af
           obtain ⟨ab, ag⟩ : ∃ y_ : List Int, y_ = (a2.drop ((a3) : Int).toNat) := ⟨_, rfl⟩
           replace H : (some (strOfNums ab)) = some r := by first | (rw [ag]; with_reducible exact H) | (have H2_ := (Option.bind_some _ _).symm.trans H; rw [ag]; with_reducible exact H2_) | (have H2_ := (Option.bind_some _ _).symm.trans H; with_reducible exact H2_) | with_reducible exact H | (rw [ag]; exact H) | exact H
           have ay := Aside0.mk ag; clear ag; obtain rfl := Option.some.inj H; obtain ⟨al, ah, aJ⟩ := Kd.R_slice a6.out; subst aJ; have q20 : ((a3) : Int) ≤ ((a2.length : Int) : Int) := oda; obtain ⟨i020, hi020, _, hsz20, _⟩ := info_parts info5; have hroom20 : a2.length ≤ ah := (Kd.R_reads' a6.out).2.1; have hC20 : Kd.C (Kd.int .u8) _ al a2.length a2 := (Kd.R_reads' a6.out).2.2; have aK : (0 : Int) ≤ ((a3) : Int) := oda; have hcut20 := cut_from (P := Try.prog) 22 5 .i64 Try.underlying22 hi020 1 hsz20 al a2.length ah (a3) aK q20; have hr20 := Kd.C_drop (m := ((a3) : Int).toNat) (c := ah) hC20 (by omega) hroom20
           obtain ⟨A20, hA20⟩ : ∃ A1, A1 = (if ah = ((a3) : Int).toNat then al else (al : Option Addr).map (·.add (((a3) : Int).toNat * 1))) := ⟨_, rfl⟩
           obtain ⟨c20, hc20⟩ : ∃ c1, c1 = ah - ((a3) : Int).toNat := ⟨_, rfl⟩
           have am : ab.length = a2.length - ((a3) : Int).toNat := (by rw [ay.out, List.length_drop] <;> omega)
           rw [show (a2).drop ((a3) : Int).toNat = ab from ay.out.symm] at hr20
           replace hr20 : Kd.C (Kd.int .u8) _ A20 ab.length ab := (by rw [hA20]; exact hr20)
           rw [← am, ← hA20, ← hc20] at hcut20
           have az := Aside0.mk hr20; have HC324 := Aside0.mk (show ab.length ≤ c20 from by rw [am, hc20]; exact Nat.sub_le_sub_right hroom20 _); clear hr20 hC20 hroom20 hi020 hsz20 hc20; have KY20 := Aside0.mk am; have KA20 := Aside0.mk hA20; clear am hA20; have KL20 := Aside0.mk (show ((a3) : Int).toNat ≤ a2.length from by omega); replace q20 := eq_true q20; have hcv22 := Kd.C_string (P := Try.prog) (A := A20) (c := c20) Try.underlying22 Try.underlying5 Try.underlying9 (by repeat (first | (with_reducible exact az.out) | (with_reducible refine Kd.C_alloc ?_ _) | (with_reducible refine Kd.C_drewN ?_ _) | (with_reducible refine Kd.C_drew ?_) | exact az.out))
           go_wp2
           go_ret
           exact ⟨by first | rfl | (simp [errW_none, errW_some] <;> rfl) | (simp only [← ak]; first | rfl | (simp [errW_none, errW_some] <;> rfl)) | (simp [*, errW_none, errW_some] <;> rfl), be HB.out⟩
          ·rw [if_neg af] at H
           exact absurd H (by simp)
         ·rw [if_neg ae] at H
          exact absurd H (by simp)
     ·rw [if_neg c8] at H
      exact absurd H (by simp)
 ·replace c4 := Bool.eq_false_iff.mpr c4; subst c4
  have H1 : (some (⟨#[]⟩ : ByteArray)) = some r := by rw [if_neg (show ¬ (false = true) by decide)] at H; exact H
  clear H; have H := H1; clear H1; obtain rfl := Option.some.inj H
  go_enter Try.func30, Try.ntmps30
  go_wp2_with (first | ((with_reducible refine gc 25 rfl ?_); refine gl (some 10) _ (#[.int .i64 a1, .int .i64 1, .int .i64 8]) Try.func25 ?_; (with_reducible refine (impl_in.calls a1 1 8 false _ A3.out).mono ?_); rintro e w' ⟨rfl, ⟨nd, rfl⟩⟩; refine ⟨_, rfl, ?_⟩))
  go_ret
  exact ⟨Ye2, be HB.out⟩

end Go.Proofs.Ytknagppkeodggaa.P


namespace Go.Proofs.Ytknagppkeodggaa.P
open Go.RowKit Go.Proofs.YtknagppkeodggaaW.PrintWords Go.Proofs.YtknagppkeodggaaW.PrintLast Go.Proofs.YtknagppkeodggaaW.PrintMore
attribute [local go_sem] max2_int min2_int max_two min_two max_three min_three max_four min_four
set_option linter.unusedVariables false
set_option linter.unusedSimpArgs false

/-! ### impl_Encode: function 11 -/
theorem Bu.below {T e : TypeId} {B b : Nat} {bs : List Value} {w w1 : World} (h : Lib.IsBuilder T e B b bs w) (hb : Below w.heap.size w w1) : Lib.IsBuilder T e B b bs w1 := by
 have go : ∀ p, Lib.BuilderAt T e B b p bs w → Lib.BuilderAt T e B b p bs w1 := fun p ⟨h1, v, h2, h3, h4⟩ => by
  have hlt : b < w.heap.size := Lib.BuilderAt.lt ⟨h1, v, h2, h3, h4⟩; exact ⟨h1, v, (hb.block b hlt).trans h2, pw_own_below h3 hb, h4⟩
 exact h.imp (go _) (go _)
def impl_Encode.l0 (k : Nat) (w : Int) : List ByteArray → ByteArray → Option ByteArray
 | [], acc => some acc
 | p :: r, acc => (impl_in.f (p.size : Int) 1 1000).bind fun t => if t = true then (impl_short.f k (IntKind.u64.wrap (p.size : Int))).bind fun s => (impl_Sum.f k p w).bind fun u => if acc.size + ((s ++ p) ++ u).size ≤ 140737488355328 then impl_Encode.l0 k w r (acc ++ ((s ++ p) ++ u)) else none else some ⟨#[]⟩
def impl_Encode.f (k : Nat) (l0 : List ByteArray) (a1 : Int) : Option ByteArray := (impl_in.f a1 1 8).bind fun t => if t = true then (if (l0.length : Int) > 500 then some ⟨#[]⟩ else impl_Encode.l0 k a1 l0 ⟨#[]⟩) else some ⟨#[]⟩
theorem impl_Encode.mono_l (w : Int) : ∀ l acc k, LeO (impl_Encode.l0 k w l acc) (impl_Encode.l0 (k + 1) w l acc)
 | [], _, _ => LeO.refl _
 | p :: r, acc, k => by
  unfold impl_Encode.l0
  refine LeO.bind (LeO.refl _) (fun _ => LeO.ite ?_ (LeO.refl _)); refine LeO.bind (impl_short.mono _ _) (fun _ => LeO.bind (impl_Sum.mono _ _ _) (fun _ => LeO.ite (impl_Encode.mono_l w r _ k) (LeO.refl _)))
theorem impl_Encode.mono : ∀ l0 a1 k, LeO (impl_Encode.f k l0 a1) (impl_Encode.f (k + 1) l0 a1) := fun l0 a1 k => by
 unfold impl_Encode.f
 exact LeO.bind (LeO.refl _) (fun _ => LeO.ite (LeO.ite (LeO.refl _) (impl_Encode.mono_l a1 l0 _ k)) (LeO.refl _))
set_option maxHeartbeats 1000000 in
set_option maxRecDepth 100000 in
theorem impl_Encode.calls (k : Nat) (A0 : Option Addr) (c0 : Nat) (l0 : List ByteArray) (a1 : Int) (r : ByteArray) (w : World) (hr0 : Kd.C Kd.string w A0 l0.length l0) (hc0 : l0.length ≤ c0) (h : impl_Encode.f k l0 a1 = some r) :
  Calls Try.prog 11 #[.slice A0 l0.length c0, .int .i64 a1] w fun e w' => e = .returned (.string r) ∧ Below w.heap.size w w' := by
 unfold impl_Encode.f at h
 obtain ⟨t, ht, h⟩ := Option.bind_eq_some_iff.1 h
 cases t with
 | false =>
  rw [if_neg (by simp)] at h
  obtain rfl := Option.some.inj h; clear h hr0 hc0
  go_enter Try.func11, Try.ntmps11
  go_wp2_with (go_at_call 25; refine (impl_in.calls _ _ _ _ _ ht).mono ?_; rintro e w' ⟨rfl, ⟨nd, rfl⟩⟩)
  go_ret
  exact ⟨rfl, pw_below_drewN (Below.refl _ _) _⟩
 | true =>
  rw [if_pos rfl] at h
  by_cases hl : (l0.length : Int) > 500
  ·rw [if_pos hl] at h
   obtain rfl := Option.some.inj h; clear h hr0 hc0; have hl1 : decide (500 < l0.length) = true := decide_eq_true (by omega)
   go_enter Try.func11, Try.ntmps11
   go_wp2_with (go_at_call 25; refine (impl_in.calls _ _ _ _ _ ht).mono ?_; rintro e w' ⟨rfl, ⟨nd, rfl⟩⟩)
   go_ret
   exact ⟨rfl, pw_below_drewN (Below.refl _ _) _⟩
  ·rw [if_neg hl] at h
   have hl1 : decide (500 < l0.length) = false := decide_eq_false (by omega)
   have hl2 : l0.length ≤ 500 := by omega
   have H := Aside0.mk h; have HR := Aside0.mk hr0; have HT := Aside0.mk ht; clear h hr0 ht hl
   go_enter Try.func11, Try.ntmps11
   have HB := Aside0.mk (Below.refl w.heap.size w)
   go_wp2_with (first | (go_at_call 25; refine (impl_in.calls _ _ _ _ _ HT.out).mono ?_; rintro e w' ⟨rfl, ⟨nd, rfl⟩⟩) | ((with_reducible refine gate_dst (N := 5) rfl ?_); refine box_event ?hg (N := 5) ?hd (cs := #[.pointer none, .slice none 0 0]) (t := 52) ?hr ?_; (case hd => rfl); (case hg => rfl); (case hr => first | (go_simp; done) | (go_simp; rfl)); intro gb hg w3 hbox hb; have HG := Aside0.mk (show w.heap.size ≤ gb from (by rw [hg]; exact below_size (by repeat (first | (with_reducible first | exact HB.out | apply below_alloc | apply pw_below_drewN | apply below_drew1) | exact HB.out)))); have HI := Aside0.mk ((Or.inl ⟨HG.out, .slice none 0 0, hbox, World.ownsRow_nil _ _ _ _, by simp [Value.ownBlock]⟩ : Lib.IsBuilder 52 5 w.heap.size gb (Lib.byteCells (⟨#[]⟩ : ByteArray).data.toList) w3)); have HB2 := Aside0.mk (below_step (by repeat (first | (with_reducible first | exact HB.out | apply below_alloc | apply pw_below_drewN | apply below_drew1) | exact HB.out)) hb); clear HB hb hbox hg; have HB := HB2; clear HB2))
   go_loopg [18] (l0.length) (fun kq v18 w' => ∃ (i : Nat) (acc : ByteArray), v18 = .int .i64 (i : Int) ∧ Aside0 (impl_Encode.l0 k a1 (l0.drop i) acc = some r) ∧ Aside0 (kq + i = l0.length) ∧ Aside0 (Lib.IsBuilder 52 5 w.heap.size gb (Lib.byteCells acc.data.toList) w') ∧ Aside0 (Below w.heap.size w w'))
   case atStart => exact ⟨0, ⟨#[]⟩, rfl, ⟨by rw [List.drop_zero]; exact H.out⟩, ⟨by omega⟩, HI, HB⟩
   case round =>
    clear H HI HB HT; obtain ⟨i, acc, rfl, HA, HK, HI, HB⟩ := hrel; have H := HA.out; have hik := HK.out; clear HA
    by_cases hi : i < l0.length
    ·have c1 : decide ((i : Int) < (l0.length : Int)) = true := decide_eq_true (by omega); have c2 : decide (0 ≤ (i : Int)) = true := decide_eq_true (by omega)
     rw [List.drop_eq_getElem_cons hi] at H
     have e0 : impl_Encode.l0 k a1 (l0[i] :: l0.drop (i + 1)) acc = ((impl_in.f (l0[i].size : Int) 1 1000).bind fun t => if t = true then (impl_short.f k (IntKind.u64.wrap (l0[i].size : Int))).bind fun s => (impl_Sum.f k l0[i] a1).bind fun u => if acc.size + ((s ++ l0[i]) ++ u).size ≤ 140737488355328 then impl_Encode.l0 k a1 (l0.drop (i + 1)) (acc ++ ((s ++ l0[i]) ++ u)) else none else some ⟨#[]⟩) := rfl
     rw [e0] at H
     clear e0; obtain ⟨t, ht1, H⟩ := Option.bind_eq_some_iff.1 H; have HT := Aside0.mk ht1; clear ht1; obtain ⟨ad, e1, hx1⟩ := Kd.at_string HR.out (i : Int) (by omega) (by omega)
     cases e1
     replace hx1 := (HB.out.cell (World.block_lt_of_cell? w _ hx1)).trans hx1
     have er : rdOf ByteArray.empty l0 (i : Int) = l0[i] := by
      unfold rdOf
      rw [Int.toNat_natCast, List.getD_eq_getElem?_getD, List.getElem?_eq_getElem hi]
      rfl
     rw [er, Int.toNat_natCast] at hx1
     cases t with
     | false =>
      rw [if_neg (by simp)] at H
      obtain rfl := Option.some.inj H; clear H
      go_wp2_with (go_at_call 25; refine (impl_in.calls _ _ _ _ _ HT.out).mono ?_; rintro e w' ⟨rfl, ⟨nd, rfl⟩⟩)
      go_ret
      exact ⟨rfl, pw_below_drewN HB.out _⟩
     | true =>
      rw [if_pos rfl] at H
      obtain ⟨s, hs, H⟩ := Option.bind_eq_some_iff.1 H; obtain ⟨u, hu, H⟩ := Option.bind_eq_some_iff.1 H; have HS := Aside0.mk hs; have HU := Aside0.mk hu; clear hs hu
      split at H
      ·rename_i hsz
       have HZ := Aside0.mk hsz; have H' := Aside0.mk H; clear H hsz
       have z1 : s.size + l0[i].size ≤ 9223372036854775807 := by have := HZ.out; rw [ByteArray.size_append, ByteArray.size_append] at this; omega
       have z2 : (s ++ l0[i]).size + u.size ≤ 9223372036854775807 := by have := HZ.out; rw [ByteArray.size_append] at this; omega
       have z1a := eq_true z1; have z1b : decide (s.size + l0[i].size ≤ 9223372036854775807) = true := decide_eq_true z1; have z1c : (9223372036854775807 < s.size + l0[i].size) = False := eq_false (Nat.not_lt.2 z1); have z2a := eq_true z2; have z2b : decide ((s ++ l0[i]).size + u.size ≤ 9223372036854775807) = true := decide_eq_true z2; have z2c : (9223372036854775807 < (s ++ l0[i]).size + u.size) = False := eq_false (Nat.not_lt.2 z2)
       have z3 : s.size + l0[i].size + u.size ≤ 9223372036854775807 := by have := HZ.out; rw [ByteArray.size_append, ByteArray.size_append] at this; omega
       have z3a := eq_true z3; have z3b : decide (s.size + l0[i].size + u.size ≤ 9223372036854775807) = true := decide_eq_true z3; have z3c : (9223372036854775807 < s.size + l0[i].size + u.size) = False := eq_false (Nat.not_lt.2 z3); clear z1 z2 z3; have HL := Aside0.mk (show (Lib.byteCells acc.data.toList).length + ((s ++ l0[i]) ++ u).size ≤ 140737488355328 from by rw [Lib.byteCells_length]; exact HZ.out)
       go_wp2_with (first | (go_at_call 25; refine (impl_in.calls _ _ _ _ _ HT.out).mono ?_; rintro e w' ⟨rfl, ⟨nd, rfl⟩⟩; have a0 := Aside0.mk (Bu.below HI.out (pw_below_drewN (Below.refl _ _) nd)); clear HI; have HI := a0; clear a0) | (go_at_call 29; refine (impl_short.calls k (IntKind.u64.wrap (l0[i].size : Int)) s _ HS.out).mono ?_; rintro e w5 ⟨rfl, hb5⟩; have a0 := Aside0.mk (Bu.below HI.out hb5); have HB2 := Aside0.mk (below_step (by repeat (first | (with_reducible first | exact HB.out | apply below_alloc | apply pw_below_drewN | apply below_drew1) | exact HB.out)) hb5); clear HI HB hb5; have HI := a0; have HB := HB2; clear a0 HB2) | (go_at_call 30; refine (impl_Sum.calls k l0[i] a1 u _ HU.out).mono ?_; rintro e w6 ⟨rfl, hb6⟩; have a0 := Aside0.mk (Bu.below HI.out hb6); have HB2 := Aside0.mk (below_step (by repeat (first | (with_reducible first | exact HB.out | apply below_alloc | apply pw_below_drewN | apply below_drew1) | exact HB.out)) hb6); clear HI HB hb6; have HI := a0; have HB := HB2; clear a0 HB2) | (go_at_call 28; refine (Bu.write w.heap.size gb _ ((s ++ l0[i]) ++ u) _ HI.out HL.out HB.out.size).mono ?_; rintro e w7 ⟨rfl, hi7, hb7⟩))
       go_roundg (gk - 1)
       case measure => omega
       case rel =>
        refine ⟨i + 1, acc ++ ((s ++ l0[i]) ++ u), ?_, H', ⟨by omega⟩, ⟨.inr ?_⟩, ⟨HB.out.trans hb7⟩⟩
        ·rw [show (i : Int) + 1 = ((i + 1 : Nat) : Int) from by omega]
        ·rw [ByteArray.data_append, Array.toList_append, Lib.byteCells, List.map_append]
         exact hi7
      ·cases H
    ·have c1 : decide ((i : Int) < (l0.length : Int)) = false := decide_eq_false (by omega)
     rw [List.drop_of_length_le (by omega)] at H
     obtain rfl := Option.some.inj (show some acc = some r from H); clear H
     go_wp2_with (go_at_call 31; refine (Try.Builder_String_any w.heap.size gb acc.data.toList _ HI.out HB.out.size).mono ?_; rintro e w4 ⟨rfl, hb4⟩)
     go_ret
     exact ⟨rfl, HB.out.trans hb4⟩


end Go.Proofs.Ytknagppkeodggaa.P


namespace Go.Proofs.Ytknagppkeodggaa.P
open Go.RowKit Go.Proofs.YtknagppkeodggaaW.PrintWords Go.Proofs.YtknagppkeodggaaW.PrintLast Go.Proofs.YtknagppkeodggaaW.PrintMore
attribute [local go_sem] max2_int min2_int max_two min_two max_three min_three max_four min_four
set_option linter.unusedVariables false
set_option linter.unusedSimpArgs false

/-! ### impl_front: function 22 -/
def impl_front.j0 : Nat → ByteArray → Int → Int → Int → Option (Int × ByteArray × Int)
 | 0, _, _, _, _ => none
 | k + 1, x0, x1, x7, x8 => (impl_in.f x7 1 1000).bind fun ai => (if ai = true then (if (x0.size : Int) < (wrap64 ((wrap64 (x8 + x7)) + x1)) then (some (0, (⟨#[]⟩ : ByteArray), 0)) else (if 0 ≤ x8 then (if x8 ≤ (wrap64 (x8 + x7)) then (if (wrap64 (x8 + x7)) ≤ (x0.size : Int) then ((impl_Sum.f k (x0.extract (x8 : Int).toNat ((wrap64 (x8 + x7)) : Int).toNat) x1).bind fun a6 => (if 0 ≤ (wrap64 (x8 + x7)) then (if (wrap64 (x8 + x7)) ≤ (wrap64 ((wrap64 (x8 + x7)) + x1)) then (if (wrap64 ((wrap64 (x8 + x7)) + x1)) ≤ (x0.size : Int) then (if a6.toList = (x0.extract ((wrap64 (x8 + x7)) : Int).toNat ((wrap64 ((wrap64 (x8 + x7)) + x1)) : Int).toNat).toList then (some (1, x0.extract (x8 : Int).toNat ((wrap64 (x8 + x7)) : Int).toNat, wrap64 ((wrap64 (x8 + x7)) + x1))) else (some (2, (⟨#[]⟩ : ByteArray), 0))) else (none)) else (none)) else (none))) else (none)) else (none)) else (none))) else (some (2, (⟨#[]⟩ : ByteArray), 0)))
def impl_front.f (k : Nat) (a0 : ByteArray) (a1 : Int) : Option (Int × ByteArray × Int) := if a0.toList = ([] : List UInt8) then (some (0, (⟨#[]⟩ : ByteArray), 0)) else (if 0 < (a0.size : Int) then (if (bt a0 0) ≥ 128 then (if (a0.size : Int) = 1 then (some (0, (⟨#[]⟩ : ByteArray), 0)) else (if 1 < (a0.size : Int) then (if (bt a0 1) = 0 then (some (2, (⟨#[]⟩ : ByteArray), 0)) else (if (bt a0 1) ≥ 128 then (some (2, (⟨#[]⟩ : ByteArray), 0)) else (impl_front.j0 k a0 a1 (wrap64 ((wrap64 (Go.bits .and .u8 (bt a0 0) 127)) + (wrap64 (128 * (wrap64 (bt a0 1)))))) 2))) else (none))) else (impl_front.j0 k a0 a1 (wrap64 (bt a0 0)) 1)) else (none))
theorem impl_front.mono_l : ∀ k, (∀ y0 y1 y2 y3, LeO (impl_front.j0 k y0 y1 y2 y3) (impl_front.j0 (k + 1) y0 y1 y2 y3))
 | 0 => fun _ _ _ _ r h => by simp [impl_front.j0] at h
 | k + 1 => by
  have ih0 := impl_front.mono_l k
  ·intro y0 y1 y2 y3
   unfold impl_front.j0
   repeat' first
   | (with_reducible exact ih0 _ _ _ _)
   | (with_reducible exact impl_Sum.mono _ _ _)
   | (with_reducible exact LeO.refl _)
   | (with_reducible exact LeO.none _)
   | (with_reducible refine LeO.ite ?_ ?_)
   | (with_reducible refine LeO.bind ?_ (fun _ => ?_))
   | exact ih0 _ _ _ _
   | exact impl_Sum.mono _ _ _
   | exact LeO.none _
   | refine LeO.ite ?_ ?_
   | refine LeO.bind ?_ (fun _ => ?_)
theorem impl_front.mono : ∀ a0 a1 k, LeO (impl_front.f k a0 a1) (impl_front.f (k + 1) a0 a1) := by
 intro a0 a1 k; have ih0 := impl_front.mono_l k
 unfold impl_front.f
 repeat' first
   | (with_reducible exact ih0 _ _ _ _)
   | (with_reducible exact impl_Sum.mono _ _ _)
   | (with_reducible exact LeO.refl _)
   | (with_reducible exact LeO.none _)
   | (with_reducible refine LeO.ite ?_ ?_)
   | (with_reducible refine LeO.bind ?_ (fun _ => ?_))
   | exact ih0 _ _ _ _
   | exact impl_Sum.mono _ _ _
   | exact LeO.none _
   | refine LeO.ite ?_ ?_
   | refine LeO.bind ?_ (fun _ => ?_)
def impl_front.T9 : Bool × List (List Nat × List Nat) := (true, [([], []), ([0], [0]), ([1], [1]), ([2], [2]), ([], []), ([4], [4]), ([5], [5]), ([6], [6]), ([3, 7], [3, 7]), ([8, 0, 1, 2, 3, 4, 5, 6, 7, 8], [8]), ([9, 0, 1, 2, 3, 4, 5, 6, 7, 8, 9], [])])
def impl_front.B9 : List Nat := [0, 1, 3, 7, 0, 16, 48, 112, 255, 511, 1023]
theorem impl_front.tab9 : rtab .any (opsOf Try.f22 9) = impl_front.T9 := by kernel_rfl
theorem impl_front.bits9 : waitsOk impl_front.T9.2 impl_front.B9 = true := by kernel_rfl
def impl_front.T15 : Bool × List (List Nat × List Nat) := (true, [([], []), ([], []), ([0, 1], [0, 1]), ([], []), ([], []), ([], []), ([4, 5], [4, 5]), ([], []), ([], []), ([7, 8], [7, 8]), ([], []), ([9, 10], [9, 10]), ([3, 6, 11], [3, 6, 11]), ([2, 12], [2, 12])])
def impl_front.B15 : List Nat := [0, 0, 3, 0, 0, 0, 48, 0, 0, 384, 0, 1920, 4088, 8191]
theorem impl_front.tab15 : rtab .any (opsOf Try.f22 15) = impl_front.T15 := by kernel_rfl
theorem impl_front.bits15 : waitsOk impl_front.T15.2 impl_front.B15 = true := by kernel_rfl
set_option maxHeartbeats 8000000 in
set_option maxRecDepth 100000 in
theorem impl_front.calls (k : Nat) (a0 : ByteArray) (a1 : Int) (r1 : Int) (r2 : ByteArray) (r3 : Int) (w : World) (h : impl_front.f k a0 a1 = some (r1, r2, r3)) :
  Calls Try.prog 22 #[.string a0, .int .i64 a1] w fun e w' => e = .returned (.tuple #[.int .i64 r1, .string r2, .int .i64 r3]) ∧ Below w.heap.size w w' := by
 have HB := Aside0.mk (Below.refl w.heap.size w); have H : (if a0.toList = ([] : List UInt8) then (some (0, (⟨#[]⟩ : ByteArray), 0)) else (if 0 < (a0.size : Int) then (if (bt a0 0) ≥ 128 then (if (a0.size : Int) = 1 then (some (0, (⟨#[]⟩ : ByteArray), 0)) else (if 1 < (a0.size : Int) then (if (bt a0 1) = 0 then (some (2, (⟨#[]⟩ : ByteArray), 0)) else (if (bt a0 1) ≥ 128 then (some (2, (⟨#[]⟩ : ByteArray), 0)) else (impl_front.j0 k a0 a1 (wrap64 ((wrap64 (Go.bits .and .u8 (bt a0 0) 127)) + (wrap64 (128 * (wrap64 (bt a0 1)))))) 2))) else (none))) else (impl_front.j0 k a0 a1 (wrap64 (bt a0 0)) 1)) else (none))) = some (r1, r2, r3) := h; clear h
 by_cases c3 : a0.toList = ([] : List UInt8)
 ·rw [if_pos c3] at H
  have ap : (a0.toList == ([] : List UInt8)) = true := beq_iff_eq.mpr c3; have aq : (a0.toList != ([] : List UInt8)) = false := bne_eq_false_iff_eq.mpr c3; clear c3; simp only [Option.some.injEq, Prod.mk.injEq] at H; obtain ⟨rfl, rfl, rfl⟩ := H
  go_enter Try.func22, Try.ntmps22
  go_wp2
  go_ret3
  exact ⟨Ye2, be HB.out⟩
 ·rw [if_neg c3] at H
  have ap : (a0.toList == ([] : List UInt8)) = false := beq_eq_false_iff_ne.mpr c3; have aq : (a0.toList != ([] : List UInt8)) = true := bne_iff_ne.mpr c3
  by_cases c4 : 0 < (a0.size : Int)
  ·rw [if_pos c4] at H
   have aB : decide (0 < (a0.size : Int)) = true := decide_eq_true c4; have aC : decide (0 < a0.size) = true := decide_eq_true (by omega); clear c4; have an := Aside0.mk H; clear H
   have p5 : 0 ≤ (0 : Int) := (by omega)
   have q5 : 0 < a0.size := (by have : (0 : Int) < (a0.size : Int) := oda; omega)
   have hx5 : ∀ h : 0 < a0.size, ((a0[0]'h).toNat : Int) = bt a0 0 := bt_at a0 0; clear p5; have qi5 : (0 < (a0.size : Int)) = True := eq_true (oda); replace q5 := eq_true q5
   have p6 : 0 ≤ (0 : Int) := (by omega)
   have q6 : 0 < a0.size := (by have : (0 : Int) < (a0.size : Int) := oda; omega)
   have hx6 : ∀ h : 0 < a0.size, ((a0[0]'h).toNat : Int) = bt a0 0 := bt_at a0 0; clear p6; have qi6 : (0 < (a0.size : Int)) = True := eq_true (oda); replace q6 := eq_true q6
   go_enter Try.func22, Try.ntmps22
   go_upto_if 16 with (fail)
   go_cut [7, 8] (fun v7 v8 wc => ∃ (kq : Nat) (a3 : Int) (a2 : Int), v7 = .int .i64 a3 ∧ v8 = .int .i64 a2 ∧ Aside0 (impl_front.j0 kq a0 a1 a3 a2 = some (r1, r2, r3)) ∧ Aside0 (kq ≤ k) ∧ Aside0 (Below w.heap.size w wc))
   case first =>
    have H := an.out; clear an
    by_cases c8 : (bt a0 0) ≥ 128
    ·rw [if_pos c8] at H
     have aa : decide (128 ≤ (bt a0 0)) = true := decide_eq_true c8; clear c8; (first | rw [aa] | (simp only [i64_w, i32_w]; rw [aa]) | skip)
     by_cases c9 : (a0.size : Int) = 1
     ·rw [if_pos c9] at H
      have ar : ((a0.size : Int) == 1) = true := beq_iff_eq.mpr c9; have au : ((a0.size : Int) != 1) = false := bne_eq_false_iff_eq.mpr c9; clear c9; simp only [Option.some.injEq, Prod.mk.injEq] at H; obtain ⟨rfl, rfl, rfl⟩ := H
      go_wp2
      go_ret3
      exact ⟨Ye2, be HB.out⟩
     ·rw [if_neg c9] at H
      have ar : ((a0.size : Int) == 1) = false := beq_eq_false_iff_ne.mpr c9; have au : ((a0.size : Int) != 1) = true := bne_iff_ne.mpr c9
      by_cases c10 : 1 < (a0.size : Int)
      ·rw [if_pos c10] at H
       have aD : decide (1 < (a0.size : Int)) = true := decide_eq_true c10; have aE : decide (1 < a0.size) = true := decide_eq_true (by omega); clear c10
       by_cases a7 : (bt a0 1) = 0
       ·rw [if_pos a7] at H
        have av : ((bt a0 1) == 0) = true := beq_iff_eq.mpr a7; have aw : ((bt a0 1) != 0) = false := bne_eq_false_iff_eq.mpr a7; clear a7; simp only [Option.some.injEq, Prod.mk.injEq] at H; obtain ⟨rfl, rfl, rfl⟩ := H
        have p11 : 0 ≤ (1 : Int) := (by omega)
        have q11 : 1 < a0.size := (by have : (1 : Int) < (a0.size : Int) := oda; omega)
        have hx11 : ∀ h : 1 < a0.size, ((a0[1]'h).toNat : Int) = bt a0 1 := bt_at a0 1; clear p11; have qi11 : (1 < (a0.size : Int)) = True := eq_true (oda); replace q11 := eq_true q11
        go_wp2
        go_ret3
        exact ⟨Ye2, be HB.out⟩
       ·rw [if_neg a7] at H
        have av : ((bt a0 1) == 0) = false := beq_eq_false_iff_ne.mpr a7; have aw : ((bt a0 1) != 0) = true := bne_iff_ne.mpr a7
        by_cases a8 : (bt a0 1) ≥ 128
        ·rw [if_pos a8] at H
         have ax : decide (128 ≤ (bt a0 1)) = true := decide_eq_true a8; clear a8; simp only [Option.some.injEq, Prod.mk.injEq] at H; obtain ⟨rfl, rfl, rfl⟩ := H
         have p11 : 0 ≤ (1 : Int) := (by omega)
         have q11 : 1 < a0.size := (by have : (1 : Int) < (a0.size : Int) := oda; omega)
         have hx11 : ∀ h : 1 < a0.size, ((a0[1]'h).toNat : Int) = bt a0 1 := bt_at a0 1; clear p11; have qi11 : (1 < (a0.size : Int)) = True := eq_true (oda); replace q11 := eq_true q11
         have p13 : 0 ≤ (1 : Int) := (by omega)
         have q13 : 1 < a0.size := (by have : (1 : Int) < (a0.size : Int) := oda; omega)
         have hx13 : ∀ h : 1 < a0.size, ((a0[1]'h).toNat : Int) = bt a0 1 := bt_at a0 1; clear p13; have qi13 : (1 < (a0.size : Int)) = True := eq_true (oda); replace q13 := eq_true q13
         go_wp2
         go_ret3
         exact ⟨Ye2, be HB.out⟩
        ·rw [if_neg a8] at H
         have ax : decide (128 ≤ (bt a0 1)) = false := decide_eq_false a8; clear a8; have H' := Aside0.mk H; clear H
         have p11 : 0 ≤ (1 : Int) := (by omega)
         have q11 : 1 < a0.size := (by have : (1 : Int) < (a0.size : Int) := oda; omega)
         have hx11 : ∀ h : 1 < a0.size, ((a0[1]'h).toNat : Int) = bt a0 1 := bt_at a0 1; clear p11; have qi11 : (1 < (a0.size : Int)) = True := eq_true (oda); replace q11 := eq_true q11
         have p13 : 0 ≤ (1 : Int) := (by omega)
         have q13 : 1 < a0.size := (by have : (1 : Int) < (a0.size : Int) := oda; omega)
         have hx13 : ∀ h : 1 < a0.size, ((a0[1]'h).toNat : Int) = bt a0 1 := bt_at a0 1; clear p13; have qi13 : (1 < (a0.size : Int)) = True := eq_true (oda); replace q13 := eq_true q13
         try go_wp2
         refine Ya1 (below_drew1 HB.out) ?_; clear HB; intro HB
         have p15 : 0 ≤ (0 : Int) := (by omega)
         have q15 : 0 < a0.size := (by have : (0 : Int) < (a0.size : Int) := oda; omega)
         have hx15 : ∀ h : 0 < a0.size, ((a0[0]'h).toNat : Int) = bt a0 0 := bt_at a0 0; clear p15; have qi15 : (0 < (a0.size : Int)) = True := eq_true (oda); replace q15 := eq_true q15
         have p16 : 0 ≤ (1 : Int) := (by omega)
         have q16 : 1 < a0.size := (by have : (1 : Int) < (a0.size : Int) := oda; omega)
         have hx16 : ∀ h : 1 < a0.size, ((a0[1]'h).toNat : Int) = bt a0 1 := bt_at a0 1; clear p16; have qi16 : (1 < (a0.size : Int)) = True := eq_true (oda); replace q16 := eq_true q16; refine start_ (n := 11) (S := fun w' => True) (ds := []) (fb 11 0) (by kernel_rfl) rfl rfl trivial (fun hHeld => ?_); refine with_tabW impl_front.tab9 impl_front.bits9 (fun HT_ HW_ => ?_); generalize w.drew = w17 at HB hHeld ⊢; refine pu 0 28 (fb 11 1) HT_ ?_; refine pu 4 32 (fb 11 17) HT_ ?_; refine take_ (i := 1) (N := some 29) (v := ?_) (a' := ?_) (fb 11 19) rfl rfl (take_ofW HT_.out HW_.out (by kernel_rfl)) (fun _ _ _ h => h) (Or.inl ⟨by rfl, ?_⟩) hHeld ?_ ?_; rotate_left
         ·intro w' _; go_simp; (with_reducible rfl)
         rotate_left
         ·simp only [Act.put, List.setIfInBounds_toArray, List.set_cons_zero, List.set_cons_succ, i64_w, i32_w]; rfl
         refine pu 2 30 (fb 11 23) HT_ ?_; refine pu 3 31 (fb 11 31) HT_ ?_; refine take_ (i := 5) (N := some 33) (v := ?_) (a' := ?_) (fb 11 63) rfl rfl (take_ofW HT_.out HW_.out (by kernel_rfl)) (fun _ _ _ h => h) (Or.inl ⟨by rfl, ?_⟩) hHeld ?_ ?_; rotate_left
         ·intro w' _; go_simp; (with_reducible rfl)
         rotate_left
         ·simp only [Act.put, List.setIfInBounds_toArray, List.set_cons_zero, List.set_cons_succ, i64_w, i32_w]; rfl
         refine pu 6 34 (fb 11 127) HT_ ?_; refine pu 7 35 (fb 11 255) HT_ ?_; refine pu 8 36 (fb 11 511) HT_ ?_; refine pu 9 7 (fb 11 1023) HT_ ?_; refine pu 10 8 (fb 11 2047) HT_ ?_; refine done_ (done_of HT_.out (by kernel_rfl)) ?_
         try go_wp2
         go_meet
         case rel => exact ⟨_, (wrap64 ((wrap64 (Go.bits .and .u8 (bt a0 0) 127)) + (wrap64 (128 * (wrap64 (bt a0 1)))))), (2), Ye1, Ye1, H', ⟨by first | omega | exact Nat.le_refl _⟩, ⟨be HB.out⟩⟩
      ·rw [if_neg c10] at H
       exact absurd H (by simp)
    ·rw [if_neg c8] at H
     have aa : decide (128 ≤ (bt a0 0)) = false := decide_eq_false c8; clear c8; (first | rw [aa] | (simp only [i64_w, i32_w]; rw [aa]) | skip); have H' := Aside0.mk H; clear H
     go_wp2
     go_meet
     case rel => exact ⟨_, (wrap64 (bt a0 0)), (1), Ye1, Ye1, H', ⟨by first | omega | exact Nat.le_refl _⟩, ⟨be HB.out⟩⟩
   case rest =>
    clear an; (try clear c1); (try clear p1); (try clear q1); (try clear hx1); (try clear qi1); (try clear c2); (try clear p2); (try clear c3); (try clear ap); (try clear aq); (try clear c4); (try clear aB); (try clear aC); (try clear p5); (try clear q5); (try clear hx5); (try clear qi5); (try clear p6); (try clear q6); (try clear hx6); (try clear qi6); (try clear c8); (try clear aa); (try clear c9); (try clear ar); (try clear au); (try clear c10); (try clear aD); (try clear aE); (try clear p11); (try clear q11); (try clear hx11); (try clear qi11); (try clear a7); (try clear av); (try clear aw); (try clear p13); (try clear q13); (try clear hx13); (try clear qi13); (try clear a8); (try clear ax); (try clear p15); (try clear q15); (try clear hx15); (try clear qi15); (try clear p16); (try clear q16); (try clear hx16); (try clear qi16); (try clear p11); (try clear p13); (try clear p15); (try clear p16); (try clear p5); (try clear p6); (try clear q11); (try clear q13); (try clear q15); (try clear q16); (try clear q5); (try clear q6); obtain ⟨kq, a3, a2, rfl, rfl, HA, HJ6, HB⟩ := hcut
    cases kq with
    | zero => exact absurd HA.out (by simp [impl_front.j0])
    | succ aj =>
     have H := HA.out; clear HA; simp only [impl_front.j0] at H; replace H := Option.bind_eq_some_iff.mp H; obtain ⟨ai, ay, H⟩ := H; replace H : (if ai = true then (if (a0.size : Int) < (wrap64 ((wrap64 (a2 + a3)) + a1)) then (some (0, (⟨#[]⟩ : ByteArray), 0)) else (if 0 ≤ a2 then (if a2 ≤ (wrap64 (a2 + a3)) then (if (wrap64 (a2 + a3)) ≤ (a0.size : Int) then ((impl_Sum.f aj (a0.extract (a2 : Int).toNat ((wrap64 (a2 + a3)) : Int).toNat) a1).bind fun a6 => (if 0 ≤ (wrap64 (a2 + a3)) then (if (wrap64 (a2 + a3)) ≤ (wrap64 ((wrap64 (a2 + a3)) + a1)) then (if (wrap64 ((wrap64 (a2 + a3)) + a1)) ≤ (a0.size : Int) then (if a6.toList = (a0.extract ((wrap64 (a2 + a3)) : Int).toNat ((wrap64 ((wrap64 (a2 + a3)) + a1)) : Int).toNat).toList then (some (1, a0.extract (a2 : Int).toNat ((wrap64 (a2 + a3)) : Int).toNat, wrap64 ((wrap64 (a2 + a3)) + a1))) else (some (2, (⟨#[]⟩ : ByteArray), 0))) else (none)) else (none)) else (none))) else (none)) else (none)) else (none))) else (some (2, (⟨#[]⟩ : ByteArray), 0))) = some (r1, r2, r3) := H; have ac := Aside0.mk ay; clear ay
     by_cases ak : ai = true
     ·subst ak
      have H1 : (if (a0.size : Int) < (wrap64 ((wrap64 (a2 + a3)) + a1)) then (some (0, (⟨#[]⟩ : ByteArray), 0)) else (if 0 ≤ a2 then (if a2 ≤ (wrap64 (a2 + a3)) then (if (wrap64 (a2 + a3)) ≤ (a0.size : Int) then ((impl_Sum.f aj (a0.extract (a2 : Int).toNat ((wrap64 (a2 + a3)) : Int).toNat) a1).bind fun a6 => (if 0 ≤ (wrap64 (a2 + a3)) then (if (wrap64 (a2 + a3)) ≤ (wrap64 ((wrap64 (a2 + a3)) + a1)) then (if (wrap64 ((wrap64 (a2 + a3)) + a1)) ≤ (a0.size : Int) then (if a6.toList = (a0.extract ((wrap64 (a2 + a3)) : Int).toNat ((wrap64 ((wrap64 (a2 + a3)) + a1)) : Int).toNat).toList then (some (1, a0.extract (a2 : Int).toNat ((wrap64 (a2 + a3)) : Int).toNat, wrap64 ((wrap64 (a2 + a3)) + a1))) else (some (2, (⟨#[]⟩ : ByteArray), 0))) else (none)) else (none)) else (none))) else (none)) else (none)) else (none))) = some (r1, r2, r3) := by rw [if_pos rfl] at H; exact H
      clear H; have H := H1; clear H1
      by_cases ab : (a0.size : Int) < (wrap64 ((wrap64 (a2 + a3)) + a1))
      ·rw [if_pos ab] at H
       have az : decide ((a0.size : Int) < (wrap64 ((wrap64 (a2 + a3)) + a1))) = true := decide_eq_true ab; clear ab; simp only [Option.some.injEq, Prod.mk.injEq] at H; obtain ⟨rfl, rfl, rfl⟩ := H
       go_wp2_with (first | ((with_reducible refine gc 25 rfl ?_); refine gl (some 38) _ (#[.int .i64 a3, .int .i64 1, .int .i64 1000]) Try.func25 ?_; (with_reducible refine (impl_in.calls a3 1 1000 true _ ac.out).mono ?_); rintro e w' ⟨rfl, ⟨nd, rfl⟩⟩; refine ⟨_, rfl, ?_⟩))
       go_ret3
       exact ⟨Ye2, be HB.out⟩
      ·rw [if_neg ab] at H
       have az : decide ((a0.size : Int) < (wrap64 ((wrap64 (a2 + a3)) + a1))) = false := decide_eq_false ab; clear ab
       by_cases ad : 0 ≤ a2
       ·rw [if_pos ad] at H
        have c21b0 := eq_true ad; have c21b1 : decide (0 ≤ a2) = true := decide_eq_true ad; clear ad
        by_cases ae : a2 ≤ (wrap64 (a2 + a3))
        ·rw [if_pos ae] at H
         have aF := eq_true ae; have aG : decide (a2 ≤ (wrap64 (a2 + a3))) = true := decide_eq_true ae
         by_cases af : (wrap64 (a2 + a3)) ≤ (a0.size : Int)
         ·rw [if_pos af] at H
          have aH := eq_true af; have aI : decide ((wrap64 (a2 + a3)) ≤ (a0.size : Int)) = true := decide_eq_true af; replace H := Option.bind_eq_some_iff.mp H; obtain ⟨a6, aA, H⟩ := H; replace H : (if 0 ≤ (wrap64 (a2 + a3)) then (if (wrap64 (a2 + a3)) ≤ (wrap64 ((wrap64 (a2 + a3)) + a1)) then (if (wrap64 ((wrap64 (a2 + a3)) + a1)) ≤ (a0.size : Int) then (if a6.toList = (a0.extract ((wrap64 (a2 + a3)) : Int).toNat ((wrap64 ((wrap64 (a2 + a3)) + a1)) : Int).toNat).toList then (some (1, a0.extract (a2 : Int).toNat ((wrap64 (a2 + a3)) : Int).toNat, wrap64 ((wrap64 (a2 + a3)) + a1))) else (some (2, (⟨#[]⟩ : ByteArray), 0))) else (none)) else (none)) else (none)) = some (r1, r2, r3) := H; have ao := Aside0.mk aA; clear aA
          obtain ⟨a4, a5⟩ : ∃ j_ : Int, (wrap64 (a2 + a3)) = j_ := ⟨_, rfl⟩
          replace H : (if 0 ≤ (a4) then (if (a4) ≤ (wrap64 ((a4) + a1)) then (if (wrap64 ((a4) + a1)) ≤ (a0.size : Int) then (if a6.toList = (a0.extract ((a4) : Int).toNat ((wrap64 ((a4) + a1)) : Int).toNat).toList then (some (1, a0.extract (a2 : Int).toNat ((a4) : Int).toNat, wrap64 ((a4) + a1))) else (some (2, (⟨#[]⟩ : ByteArray), 0))) else (none)) else (none)) else (none)) = some (r1, r2, r3) := by first | (rw [a5] at H; exact H) | (simp only [a5] at H ⊢; exact H)
          (try rw [a5] at az); (try rw [a5] at aF); (try rw [a5] at aG); (try rw [a5] at ae); (try rw [a5] at aH); (try rw [a5] at aI); (try rw [a5] at af); (try rw [a5] at ac); (try rw [a5] at ao); have hji25w : (IntKind.i64.wrap (a2 + a3)) = a4 := (i64_w _).trans a5
          by_cases ag : 0 ≤ (a4)
          ·rw [if_pos ag] at H
           have c26b0 := eq_true ag; have c26b1 : decide (0 ≤ (a4)) = true := decide_eq_true ag; clear ag
           by_cases al : (a4) ≤ (wrap64 ((a4) + a1))
           ·rw [if_pos al] at H
            have c27b0 := eq_true al; have c27b1 : decide ((a4) ≤ (wrap64 ((a4) + a1))) = true := decide_eq_true al
            by_cases am : (wrap64 ((a4) + a1)) ≤ (a0.size : Int)
            ·rw [if_pos am] at H
             have c28b0 := eq_true am; have c28b1 : decide ((wrap64 ((a4) + a1)) ≤ (a0.size : Int)) = true := decide_eq_true am
             by_cases a9 : a6.toList = (a0.extract ((a4) : Int).toNat ((wrap64 ((a4) + a1)) : Int).toNat).toList
             ·rw [if_pos a9] at H
              have aJ : (a6.toList == (a0.extract ((a4) : Int).toNat ((wrap64 ((a4) + a1)) : Int).toNat).toList) = true := beq_iff_eq.mpr a9; have aK : (a6.toList != (a0.extract ((a4) : Int).toNat ((wrap64 ((a4) + a1)) : Int).toNat).toList) = false := bne_eq_false_iff_eq.mpr a9; clear a9; simp only [Option.some.injEq, Prod.mk.injEq] at H; obtain ⟨rfl, rfl, rfl⟩ := H
              try go_wp2_with (first | ((with_reducible refine gc 25 rfl ?_); refine gl (some 38) _ (#[.int .i64 a3, .int .i64 1, .int .i64 1000]) Try.func25 ?_; (with_reducible refine (impl_in.calls a3 1 1000 true _ ac.out).mono ?_); rintro e w' ⟨rfl, ⟨nd, rfl⟩⟩; refine ⟨_, rfl, ?_⟩))
              (try (rw [drewN_self wc]; generalize hq_ : World.drewN wc _ = wc; have ah : Aside0 (Below w.heap.size w wc) := ⟨by rw [← hq_]; exact (be HB.out)⟩; clear HB hq_; have HB := ah; clear ah)); refine Ya1 (below_drew1 HB.out) ?_; clear HB; intro HB; refine start_ (n := 14) (S := fun w' => True) (ds := []) (fb 14 0) (by kernel_rfl) rfl rfl trivial (fun hHeld => ?_); refine with_tabW impl_front.tab15 impl_front.bits15 (fun HT_ HW_ => ?_); generalize wc.drew = w30 at HB hHeld ⊢; refine pu 0 54 (fb 14 1) HT_ ?_; refine pu 1 55 (fb 14 3) HT_ ?_; refine pu 3 57 (fb 14 11) HT_ ?_; refine pu 4 58 (fb 14 27) HT_ ?_; refine pu 5 59 (fb 14 59) HT_ ?_; refine pu 6 60 (fb 14 123) HT_ ?_; refine pu 7 61 (fb 14 251) HT_ ?_; refine pu 8 62 (fb 14 507) HT_ ?_; refine pu 9 63 (fb 14 1019) HT_ ?_; refine pu 10 64 (fb 14 2043) HT_ ?_; refine pu 11 65 (fb 14 4091) HT_ ?_; refine pu 12 66 (fb 14 8187) HT_ ?_; refine o1 2 (some 56) (fb 14 8191) HT_ (fun K hK => ?_); refine goes_ Try.func30 (by kernel_rfl) rfl #[.string (a0.extract (a2 : Int).toNat ((a4) : Int).toNat), .int .i64 a1] (by rfl) rfl rfl (by (try simp only [List.map_toArray, List.map_cons, List.map_nil]); first | done | (simp only [a5]; rfl) | rfl | (simp only [List.length_drop, List.length_take]; rfl)) ?_; (with_reducible refine (impl_Sum.calls aj (a0.extract (a2 : Int).toNat ((a4) : Int).toNat) a1 a6 _ ao.out).mono ?_); rintro e w31 ⟨rfl, hb⟩; refine ⟨_, rfl, ?_⟩; refine Ya1 (below_step (be HB.out) hb) ?_; clear HB; intro HB; (try clear hb); (try clear hb2); (try clear hk); (try clear hi); refine hK.out _ _ trivial (fun hHeld => ?_); clear hK K; refine nm 56 ?_; refine pu 13 67 (fb 14 16383) HT_ ?_; refine done_ (done_of HT_.out (by kernel_rfl)) ?_
              try go_wp2
              go_ret3
              exact ⟨by first | rfl | (simp [errW_none, errW_some] <;> rfl) | (simp only [← a5]; first | rfl | (simp [errW_none, errW_some] <;> rfl)) | (simp [*, errW_none, errW_some] <;> rfl), be HB.out⟩
             ·rw [if_neg a9] at H
              have aJ : (a6.toList == (a0.extract ((a4) : Int).toNat ((wrap64 ((a4) + a1)) : Int).toNat).toList) = false := beq_eq_false_iff_ne.mpr a9; have aK : (a6.toList != (a0.extract ((a4) : Int).toNat ((wrap64 ((a4) + a1)) : Int).toNat).toList) = true := bne_iff_ne.mpr a9; simp only [Option.some.injEq, Prod.mk.injEq] at H; obtain ⟨rfl, rfl, rfl⟩ := H
              try go_wp2_with (first | ((with_reducible refine gc 25 rfl ?_); refine gl (some 38) _ (#[.int .i64 a3, .int .i64 1, .int .i64 1000]) Try.func25 ?_; (with_reducible refine (impl_in.calls a3 1 1000 true _ ac.out).mono ?_); rintro e w' ⟨rfl, ⟨nd, rfl⟩⟩; refine ⟨_, rfl, ?_⟩))
              (try (rw [drewN_self wc]; generalize hq_ : World.drewN wc _ = wc; have ah : Aside0 (Below w.heap.size w wc) := ⟨by rw [← hq_]; exact (be HB.out)⟩; clear HB hq_; have HB := ah; clear ah)); refine Ya1 (below_drew1 HB.out) ?_; clear HB; intro HB; refine start_ (n := 14) (S := fun w' => True) (ds := []) (fb 14 0) (by kernel_rfl) rfl rfl trivial (fun hHeld => ?_); refine with_tabW impl_front.tab15 impl_front.bits15 (fun HT_ HW_ => ?_); generalize wc.drew = w32 at HB hHeld ⊢; refine pu 0 54 (fb 14 1) HT_ ?_; refine pu 1 55 (fb 14 3) HT_ ?_; refine pu 3 57 (fb 14 11) HT_ ?_; refine pu 4 58 (fb 14 27) HT_ ?_; refine pu 5 59 (fb 14 59) HT_ ?_; refine pu 6 60 (fb 14 123) HT_ ?_; refine pu 7 61 (fb 14 251) HT_ ?_; refine pu 8 62 (fb 14 507) HT_ ?_; refine pu 9 63 (fb 14 1019) HT_ ?_; refine pu 10 64 (fb 14 2043) HT_ ?_; refine pu 11 65 (fb 14 4091) HT_ ?_; refine pu 12 66 (fb 14 8187) HT_ ?_; refine o1 2 (some 56) (fb 14 8191) HT_ (fun K hK => ?_); refine goes_ Try.func30 (by kernel_rfl) rfl #[.string (a0.extract (a2 : Int).toNat ((a4) : Int).toNat), .int .i64 a1] (by rfl) rfl rfl (by (try simp only [List.map_toArray, List.map_cons, List.map_nil]); first | done | (simp only [a5]; rfl) | rfl | (simp only [List.length_drop, List.length_take]; rfl)) ?_; (with_reducible refine (impl_Sum.calls aj (a0.extract (a2 : Int).toNat ((a4) : Int).toNat) a1 a6 _ ao.out).mono ?_); rintro e w33 ⟨rfl, hb⟩; refine ⟨_, rfl, ?_⟩; refine Ya1 (below_step (be HB.out) hb) ?_; clear HB; intro HB; (try clear hb); (try clear hb2); (try clear hk); (try clear hi); refine hK.out _ _ trivial (fun hHeld => ?_); clear hK K; refine nm 56 ?_; refine pu 13 67 (fb 14 16383) HT_ ?_; refine done_ (done_of HT_.out (by kernel_rfl)) ?_
              try go_wp2
              go_ret3
              exact ⟨by first | rfl | (simp [errW_none, errW_some] <;> rfl) | (simp only [← a5]; first | rfl | (simp [errW_none, errW_some] <;> rfl)) | (simp [*, errW_none, errW_some] <;> rfl), be HB.out⟩
            ·rw [if_neg am] at H
             exact absurd H (by simp)
           ·rw [if_neg al] at H
            exact absurd H (by simp)
          ·rw [if_neg ag] at H
           exact absurd H (by simp)
         ·rw [if_neg af] at H
          exact absurd H (by simp)
        ·rw [if_neg ae] at H
         exact absurd H (by simp)
       ·rw [if_neg ad] at H
        exact absurd H (by simp)
     ·replace ak := Bool.eq_false_iff.mpr ak; subst ak
      have H1 : (some (2, (⟨#[]⟩ : ByteArray), 0)) = some (r1, r2, r3) := by rw [if_neg (show ¬ (false = true) by decide)] at H; exact H
      clear H; have H := H1; clear H1; simp only [Option.some.injEq, Prod.mk.injEq] at H; obtain ⟨rfl, rfl, rfl⟩ := H
      go_wp2_with (first | ((with_reducible refine gc 25 rfl ?_); refine gl (some 38) _ (#[.int .i64 a3, .int .i64 1, .int .i64 1000]) Try.func25 ?_; (with_reducible refine (impl_in.calls a3 1 1000 false _ ac.out).mono ?_); rintro e w' ⟨rfl, ⟨nd, rfl⟩⟩; refine ⟨_, rfl, ?_⟩))
      go_ret3
      exact ⟨Ye2, be HB.out⟩
  ·rw [if_neg c4] at H
   exact absurd H (by simp)

end Go.Proofs.Ytknagppkeodggaa.P


namespace Go.Proofs.Ytknagppkeodggaa.P
open Go.RowKit Go.Proofs.YtknagppkeodggaaW.PrintWords Go.Proofs.YtknagppkeodggaaW.PrintLast Go.Proofs.YtknagppkeodggaaW.PrintMore
attribute [local go_sem] max2_int min2_int max_two min_two max_three min_three max_four min_four
set_option linter.unusedVariables false
set_option linter.unusedSimpArgs false

/-! ### impl_ValidDecoder: function 9 -/
mutual
def impl_ValidDecoder.j0 : Nat → Bool → Int → ByteArray → List ByteArray → Bool → Option (Bool)
 | 0, _, _, _, _, _ => none
 | k + 1, x17, af, ad, ae, ag => if x17 = true then (some false) else (impl_ValidDecoder.l0 k ae (ae.length : Int) 0 af ad ae ag)
def impl_ValidDecoder.l0 : Nat → List ByteArray → Int → Int → Int → ByteArray → List ByteArray → Bool → Option (Bool)
 | 0, _, _, _, _, _, _, _ => none
 | k + 1, x19, x20, x21, af, ad, ae, ag => if x21 < x20 then (if 0 ≤ x21 then (if x21 < (x19.length : Int) then ((impl_in.f ((rdOf ByteArray.empty x19 x21).size : Int) 1 1000).bind fun ah => (if ah = true then (impl_ValidDecoder.l0 k x19 x20 (wrap64 (x21 + 1)) af ad ae ag) else (some false))) else (none)) else (none)) else (if ag = true then (some (ad.toList == ([] : List UInt8))) else ((impl_front.f k ad af).bind fun bt331 => (some (bt331.1 == 0))))
end
def impl_ValidDecoder.f (k : Nat) (a0_0 : Int) (a0_1 : ByteArray) (a4 : List ByteArray) (a0_3 : Bool) : Option (Bool) := (impl_in.f a0_0 1 8).bind fun ac => (if ac = true then (impl_ValidDecoder.j0 k (decide ((a4.length : Int) > 500)) a0_0 a0_1 a4 a0_3) else (impl_ValidDecoder.j0 k true a0_0 a0_1 a4 a0_3))
theorem impl_ValidDecoder.mono_l : ∀ k, (∀ y0 y1 y2 y3 y4, LeO (impl_ValidDecoder.j0 k y0 y1 y2 y3 y4) (impl_ValidDecoder.j0 (k + 1) y0 y1 y2 y3 y4)) ∧ (∀ y0 y1 y2 y3 y4 y5 y6, LeO (impl_ValidDecoder.l0 k y0 y1 y2 y3 y4 y5 y6) (impl_ValidDecoder.l0 (k + 1) y0 y1 y2 y3 y4 y5 y6))
 | 0 => ⟨fun _ _ _ _ _ r h => by simp [impl_ValidDecoder.j0] at h, fun _ _ _ _ _ _ _ r h => by simp [impl_ValidDecoder.l0] at h⟩
 | k + 1 => by
  obtain ⟨ih0, ih1⟩ := impl_ValidDecoder.mono_l k; refine ⟨?_, ?_⟩
  ·intro y0 y1 y2 y3 y4
   unfold impl_ValidDecoder.j0
   repeat' first
   | (with_reducible exact ih0 _ _ _ _ _)
   | (with_reducible exact ih1 _ _ _ _ _ _ _)
   | (with_reducible exact impl_front.mono _ _ _)
   | (with_reducible exact LeO.refl _)
   | (with_reducible exact LeO.none _)
   | (with_reducible refine LeO.ite ?_ ?_)
   | (with_reducible refine LeO.bind ?_ (fun _ => ?_))
   | exact ih0 _ _ _ _ _
   | exact ih1 _ _ _ _ _ _ _
   | exact impl_front.mono _ _ _
   | exact LeO.none _
   | refine LeO.ite ?_ ?_
   | refine LeO.bind ?_ (fun _ => ?_)
  ·intro y0 y1 y2 y3 y4 y5 y6
   unfold impl_ValidDecoder.l0
   repeat' first
   | (with_reducible exact ih0 _ _ _ _ _)
   | (with_reducible exact ih1 _ _ _ _ _ _ _)
   | (with_reducible exact impl_front.mono _ _ _)
   | (with_reducible exact LeO.refl _)
   | (with_reducible exact LeO.none _)
   | (with_reducible refine LeO.ite ?_ ?_)
   | (with_reducible refine LeO.bind ?_ (fun _ => ?_))
   | exact ih0 _ _ _ _ _
   | exact ih1 _ _ _ _ _ _ _
   | exact impl_front.mono _ _ _
   | exact LeO.none _
   | refine LeO.ite ?_ ?_
   | refine LeO.bind ?_ (fun _ => ?_)
theorem impl_ValidDecoder.mono : ∀ a0 a1 a2 a3 k, LeO (impl_ValidDecoder.f k a0 a1 a2 a3) (impl_ValidDecoder.f (k + 1) a0 a1 a2 a3) := by
 intro a0 a1 a2 a3 k; obtain ⟨ih0, ih1⟩ := impl_ValidDecoder.mono_l k
 unfold impl_ValidDecoder.f
 repeat' first
   | (with_reducible exact ih0 _ _ _ _ _)
   | (with_reducible exact ih1 _ _ _ _ _ _ _)
   | (with_reducible exact impl_front.mono _ _ _)
   | (with_reducible exact LeO.refl _)
   | (with_reducible exact LeO.none _)
   | (with_reducible refine LeO.ite ?_ ?_)
   | (with_reducible refine LeO.bind ?_ (fun _ => ?_))
   | exact ih0 _ _ _ _ _
   | exact ih1 _ _ _ _ _ _ _
   | exact impl_front.mono _ _ _
   | exact LeO.none _
   | refine LeO.ite ?_ ?_
   | refine LeO.bind ?_ (fun _ => ?_)
set_option maxHeartbeats 8000000 in
set_option maxRecDepth 100000 in
theorem impl_ValidDecoder.calls (k : Nat) (a0_0 : Int) (a0_1 : ByteArray) (a8 : Option Addr) (a9 : Nat) (a4 : List ByteArray) (a0_3 : Bool) (r : Bool) (w : World) (aq : Kd.C Kd.string w a8 a4.length a4) (ar : a4.length ≤ a9) (h : impl_ValidDecoder.f k a0_0 a0_1 a4 a0_3 = some r) :
  Calls Try.prog 9 #[.agg #[.int .i64 a0_0, .string a0_1, .slice a8 a4.length a9, .bool a0_3]] w fun e w' => e = .returned (.bool r) ∧ Below w.heap.size w w' := by
 have hu25 := Try.underlying25; have au := Aside0.mk aq; have HC0_2 := Aside0.mk ar; clear aq ar; have HB := Aside0.mk (Below.refl w.heap.size w); have H : ((impl_in.f a0_0 1 8).bind fun ac => (if ac = true then (impl_ValidDecoder.j0 k (decide ((a4.length : Int) > 500)) a0_0 a0_1 a4 a0_3) else (impl_ValidDecoder.j0 k true a0_0 a0_1 a4 a0_3))) = some r := h; clear h; have an := Aside0.mk H; clear H
 go_enter Try.func9, Try.ntmps9
 go_upto_region 1 with (first | ((with_reducible refine gd 1 rfl ?_); (try (refine gate_guard (by rfl) ?_; dsimp only)); refine bx 1 25 (#[.int .i64 a0_0, .string a0_1, .slice a8 a4.length a9, .bool a0_3]) ?_; intro a7 hg w3 hbox hb; refine Ya4 (below_step (be HB.out) hb) (hbox) (bs hg (be HB.out)) (bs hg (be HB.out)) ?_; clear HB; intro HB a5 GW327 GE327; clear hb hbox hg))
 (try simp only [Act.put, List.setIfInBounds_toArray, List.set_cons_zero, List.set_cons_succ])
 go_cut [17] (fun v17 wc => ∃ (kq : Nat) (ai : Bool), v17 = .bool ai ∧ Aside0 (impl_ValidDecoder.j0 kq ai a0_0 a0_1 a4 a0_3 = some r) ∧ Aside0 (kq ≤ k) ∧ Aside0 (wc.heap[a7]? = some (.cells #[.int .i64 a0_0, .string a0_1, (.slice a8 a4.length a9), .bool a0_3] 25 (0, 0))) ∧ Aside0 (Below w.heap.size w wc))
 case first =>
  have H := an.out; clear an; replace H := Option.bind_eq_some_iff.mp H; obtain ⟨ac, A40, H⟩ := H; replace H : (if ac = true then (impl_ValidDecoder.j0 k (decide ((a4.length : Int) > 500)) a0_0 a0_1 a4 a0_3) else (impl_ValidDecoder.j0 k true a0_0 a0_1 a4 a0_3)) = some r := H; have A4 := Aside0.mk A40; clear A40
  by_cases c5 : ac = true
  ·subst c5
   have H1 : (impl_ValidDecoder.j0 k (decide ((a4.length : Int) > 500)) a0_0 a0_1 a4 a0_3) = some r := by rw [if_pos rfl] at H; exact H
   clear H; have H := H1; clear H1; have H' := Aside0.mk H; clear H; have av : w3.cell? ⟨a7, 0, none⟩ = some (.int .i64 a0_0) := bc a5 0; have aw : w3.cell? ⟨a7, 1, none⟩ = some (.string a0_1) := bc a5 1; have ax : w3.cell? ⟨a7, 2, none⟩ = some (.slice a8 a4.length a9) := bc a5 2; have ay : w3.cell? ⟨a7, 3, none⟩ = some (.bool a0_3) := bc a5 3; have az := blk_frozen a5.out 0; have aA := blk_frozen a5.out 1; have aB := blk_frozen a5.out 2; have aC := blk_frozen a5.out 3
   go_wp2_with (first | ((with_reducible refine gc 25 rfl ?_); refine gl (some 10) _ (#[.int .i64 a0_0, .int .i64 1, .int .i64 8]) Try.func25 ?_; (with_reducible refine (impl_in.calls a0_0 1 8 true _ A4.out).mono ?_); rintro e w' ⟨rfl, ⟨nd, rfl⟩⟩; refine ⟨_, rfl, ?_⟩))
   go_meet
   case rel => exact ⟨_, (decide ((a4.length : Int) > 500)), Ye1, H', ⟨by first | omega | exact Nat.le_refl _⟩, ⟨bk a5.out⟩, ⟨bf HB.out⟩⟩
  ·replace c5 := Bool.eq_false_iff.mpr c5; subst c5
   have H1 : (impl_ValidDecoder.j0 k true a0_0 a0_1 a4 a0_3) = some r := by rw [if_neg (show ¬ (false = true) by decide)] at H; exact H
   clear H; have H := H1; clear H1; have H' := Aside0.mk H; clear H; have aD : w3.cell? ⟨a7, 0, none⟩ = some (.int .i64 a0_0) := bc a5 0; have aE : w3.cell? ⟨a7, 1, none⟩ = some (.string a0_1) := bc a5 1; have aF : w3.cell? ⟨a7, 2, none⟩ = some (.slice a8 a4.length a9) := bc a5 2; have aG : w3.cell? ⟨a7, 3, none⟩ = some (.bool a0_3) := bc a5 3; have aH := blk_frozen a5.out 0; have aI := blk_frozen a5.out 1; have aJ := blk_frozen a5.out 2; have aK := blk_frozen a5.out 3
   go_wp2_with (first | ((with_reducible refine gc 25 rfl ?_); refine gl (some 10) _ (#[.int .i64 a0_0, .int .i64 1, .int .i64 8]) Try.func25 ?_; (with_reducible refine (impl_in.calls a0_0 1 8 false _ A4.out).mono ?_); rintro e w' ⟨rfl, ⟨nd, rfl⟩⟩; refine ⟨_, rfl, ?_⟩))
   go_meet
   case rel => exact ⟨_, (true), Ye1, H', ⟨by first | omega | exact Nat.le_refl _⟩, ⟨bk a5.out⟩, ⟨bf HB.out⟩⟩
 case rest =>
  clear an; (try clear c2); (try clear p2); (try clear c5); (try clear av); (try clear aw); (try clear ax); (try clear ay); (try clear aD); (try clear aE); (try clear aF); (try clear aG); (try clear az); (try clear aA); (try clear aB); (try clear aC); (try clear aH); (try clear aI); (try clear aJ); (try clear aK); obtain ⟨kq, ai, rfl, HA, HJ1, a5, HB⟩ := hcut
  cases kq with
  | zero => exact absurd HA.out (by simp [impl_ValidDecoder.j0])
  | succ ao =>
   have H := HA.out; clear HA; simp only [impl_ValidDecoder.j0] at H
   by_cases c8 : ai = true
   ·subst c8
    have H1 : (some false) = some r := by rw [if_pos rfl] at H; exact H
    clear H; have H := H1; clear H1; obtain rfl := Option.some.inj H
    go_wp2
    go_ret
    exact ⟨Ye2, (bf HB.out)⟩
   ·replace c8 := Bool.eq_false_iff.mpr c8; subst c8
    have H1 : (impl_ValidDecoder.l0 ao a4 (a4.length : Int) 0 a0_0 a0_1 a4 a0_3) = some r := by rw [if_neg (show ¬ (false = true) by decide)] at H; exact H
    clear H; have H := H1; clear H1; have H' := Aside0.mk H; clear H; have aO : wc.cell? ⟨a7, 0, none⟩ = some (.int .i64 a0_0) := bc a5 0; have aP : wc.cell? ⟨a7, 1, none⟩ = some (.string a0_1) := bc a5 1; have aQ : wc.cell? ⟨a7, 2, none⟩ = some (.slice a8 a4.length a9) := bc a5 2; have aR : wc.cell? ⟨a7, 3, none⟩ = some (.bool a0_3) := bc a5 3; have aS := blk_frozen a5.out 0; have aT := blk_frozen a5.out 1; have aU := blk_frozen a5.out 2; have aV := blk_frozen a5.out 3
    go_wp2
    go_loopg [21] ao (fun kq v21 w' => ∃ (a6 : Int), v21 = .int .i64 a6 ∧ Aside0 (impl_ValidDecoder.l0 kq a4 (a4.length : Int) a6 a0_0 a0_1 a4 a0_3 = some r) ∧ Aside0 (kq ≤ ao) ∧ Aside0 (w'.heap[a7]? = some (.cells #[.int .i64 a0_0, .string a0_1, (.slice a8 a4.length a9), .bool a0_3] 25 (0, 0))) ∧ Aside0 (Below w.heap.size w w'))
    case atStart => exact ⟨(0), Ye1, H', ⟨Nat.le_refl _⟩, ⟨bk a5.out⟩, ⟨bf HB.out⟩⟩
    case round =>
     clear H'; (try clear c2); (try clear p2); (try clear c5); (try clear c8); (try clear c9); (try clear av); (try clear aw); (try clear ax); (try clear ay); (try clear aD); (try clear aE); (try clear aF); (try clear aG); (try clear aO); (try clear aP); (try clear aQ); (try clear aR); (try clear az); (try clear aA); (try clear aB); (try clear aC); (try clear aH); (try clear aI); (try clear aJ); (try clear aK); (try clear aS); (try clear aT); (try clear aU); (try clear aV); (try clear p2); obtain ⟨a6, rfl, HA, HK2, a5, HB⟩ := hrel
     cases gk with
     | zero => exact absurd HA.out (by simp [impl_ValidDecoder.l0])
     | succ k2 =>
      have H := HA.out; clear HA; simp only [impl_ValidDecoder.l0] at H
      by_cases c10 : a6 < (a4.length : Int)
      ·rw [if_pos c10] at H
       have aW : decide (a6 < (a4.length : Int)) = true := decide_eq_true c10; clear c10
       by_cases aj : 0 ≤ a6
       ·rw [if_pos aj] at H
        have c11b0 : decide (0 ≤ a6) = true := decide_eq_true aj; clear aj
        by_cases ak : a6 < (a4.length : Int)
        ·rw [if_pos ak] at H
         have c12b0 : decide (a6 < (a4.length : Int)) = true := decide_eq_true ak; clear ak; replace H := Option.bind_eq_some_iff.mp H; obtain ⟨ah, aL, H⟩ := H; replace H : (if ah = true then (impl_ValidDecoder.l0 k2 a4 (a4.length : Int) (wrap64 (a6 + 1)) a0_0 a0_1 a4 a0_3) else (some false)) = some r := H; have A13 := Aside0.mk aL; clear aL
         by_cases al : ah = true
         ·subst al
          have H1 : (impl_ValidDecoder.l0 k2 a4 (a4.length : Int) (wrap64 (a6 + 1)) a0_0 a0_1 a4 a0_3) = some r := by rw [if_pos rfl] at H; exact H
          clear H; have H := H1; clear H1; have H' := Aside0.mk H; clear H; have aa : 0 ≤ (a6 : Int) := oda; have ab : a6 < (a4.length : Int) := oda; obtain ⟨aX, ap, aY⟩ := Kd.at_string (Kd.C_below au.out HB.out) a6 aa ab
          cases ap
          replace aa := eq_true aa; replace ab := eq_true ab
          go_wp2_with (first | ((with_reducible refine gc 25 rfl ?_); refine gl (some 27) _ (#[.int .i64 ((rdOf ByteArray.empty a4 a6).size : Int), .int .i64 1, .int .i64 1000]) Try.func25 ?_; (with_reducible refine (impl_in.calls ((rdOf ByteArray.empty a4 a6).size : Int) 1 1000 true _ A13.out).mono ?_); rintro e w' ⟨rfl, ⟨nd, rfl⟩⟩; refine ⟨_, rfl, ?_⟩))
          go_roundg k2
          case measure => have := HJ1.out; have := HK2.out; omega
          case rel => exact ⟨(wrap64 (a6 + 1)), Ye1, H', ⟨by have := HJ1.out; have := HK2.out; omega⟩, ⟨bk a5.out⟩, ⟨bf HB.out⟩⟩
         ·replace al := Bool.eq_false_iff.mpr al; subst al
          have H1 : (some false) = some r := by rw [if_neg (show ¬ (false = true) by decide)] at H; exact H
          clear H; have H := H1; clear H1; obtain rfl := Option.some.inj H; have aa : 0 ≤ (a6 : Int) := oda; have ab : a6 < (a4.length : Int) := oda; obtain ⟨aX, ap, aY⟩ := Kd.at_string (Kd.C_below au.out HB.out) a6 aa ab
          cases ap
          replace aa := eq_true aa; replace ab := eq_true ab
          go_wp2_with (first | ((with_reducible refine gc 25 rfl ?_); refine gl (some 27) _ (#[.int .i64 ((rdOf ByteArray.empty a4 a6).size : Int), .int .i64 1, .int .i64 1000]) Try.func25 ?_; (with_reducible refine (impl_in.calls ((rdOf ByteArray.empty a4 a6).size : Int) 1 1000 false _ A13.out).mono ?_); rintro e w' ⟨rfl, ⟨nd, rfl⟩⟩; refine ⟨_, rfl, ?_⟩))
          go_ret
          exact ⟨Ye2, (bf HB.out)⟩
        ·rw [if_neg ak] at H
         exact absurd H (by simp)
       ·rw [if_neg aj] at H
        exact absurd H (by simp)
      ·rw [if_neg c10] at H
       have aW : decide (a6 < (a4.length : Int)) = false := decide_eq_false c10; clear c10
       by_cases am : a0_3 = true
       ·subst am
        have H1 : (some (a0_1.toList == ([] : List UInt8))) = some r := by rw [if_pos rfl] at H; exact H
        clear H; have H := H1; clear H1; obtain rfl := Option.some.inj H; have b1 : wr.cell? ⟨a7, 0, none⟩ = some (.int .i64 a0_0) := bc a5 0; have b2 : wr.cell? ⟨a7, 1, none⟩ = some (.string a0_1) := bc a5 1; have b3 : wr.cell? ⟨a7, 2, none⟩ = some (.slice a8 a4.length a9) := bc a5 2; have b4 : wr.cell? ⟨a7, 3, none⟩ = some (.bool true) := bc a5 3; have b5 := blk_frozen a5.out 0; have b6 := blk_frozen a5.out 1; have b7 := blk_frozen a5.out 2; have b8 := blk_frozen a5.out 3
        go_wp2
        go_ret
        exact ⟨Ye2, (bf HB.out)⟩
       ·replace am := Bool.eq_false_iff.mpr am; subst am
        have H1 : ((impl_front.f k2 a0_1 a0_0).bind fun bt331 => (some (bt331.1 == 0))) = some r := by rw [if_neg (show ¬ (false = true) by decide)] at H; exact H
        clear H; have H := H1; clear H1; replace H := Option.bind_eq_some_iff.mp H; obtain ⟨⟨aM, aZ, b0⟩, aN, H⟩ := H; replace H : (some (aM == 0)) = some r := H; have A17 := Aside0.mk aN; clear aN; obtain rfl := Option.some.inj H; have b9 : wr.cell? ⟨a7, 0, none⟩ = some (.int .i64 a0_0) := bc a5 0; have ba : wr.cell? ⟨a7, 1, none⟩ = some (.string a0_1) := bc a5 1; have bd : wr.cell? ⟨a7, 2, none⟩ = some (.slice a8 a4.length a9) := bc a5 2; have bg : wr.cell? ⟨a7, 3, none⟩ = some (.bool false) := bc a5 3; have bh := blk_frozen a5.out 0; have bi := blk_frozen a5.out 1; have bj := blk_frozen a5.out 2; have bm := blk_frozen a5.out 3
        go_wp2_with (first | ((with_reducible refine gc 22 rfl ?_); refine gl (some 40) _ (#[.string a0_1, .int .i64 a0_0]) Try.func22 ?_; (with_reducible refine (impl_front.calls k2 a0_1 a0_0 aM aZ b0 _ A17.out).mono ?_); rintro e w19 ⟨rfl, hb⟩; refine ⟨_, rfl, ?_⟩; refine Ya2 (bb a5 hb) (below_step (bf HB.out) hb) ?_; clear a5 HB; intro a5 HB; (try clear hb); (try clear hb2); (try clear hk); (try clear hi)))
        go_ret
        exact ⟨Ye2, (bf HB.out)⟩

end Go.Proofs.Ytknagppkeodggaa.P


namespace Go.Proofs.Ytknagppkeodggaa.P
open Go.RowKit Go.Proofs.YtknagppkeodggaaW.PrintWords Go.Proofs.YtknagppkeodggaaW.PrintLast Go.Proofs.YtknagppkeodggaaW.PrintMore
attribute [local go_sem] max2_int min2_int max_two min_two max_three min_three max_four min_four
set_option linter.unusedVariables false
set_option linter.unusedSimpArgs false

/-! ### slices_Clone_string_string: function 21 -/
def slices_Clone_string_string.f (l0 : List ByteArray) : Option (List ByteArray) := if l0.length * 16 ≤ 140737488355328 then some l0 else none
theorem slices_Clone_string_string.calls (A0 : Option Addr) (c0 : Nat) (l0 : List ByteArray) (r : List ByteArray) (w : World) (hr0 : Kd.C Kd.string w A0 l0.length l0) (hc0 : l0.length ≤ c0) (h : slices_Clone_string_string.f l0 = some r) :
  Calls Try.prog 21 #[.slice A0 l0.length c0] w fun e w' => ∃ v0_ : Value, e = .returned (v0_) ∧ Kd.R Kd.string 9 w' w.heap.size (fun _ => True) v0_ r ∧ Below w.heap.size w w' := by
 unfold slices_Clone_string_string.f at h
 split at h
 ·rename_i hsz
  obtain rfl := Option.some.inj h
  cases A0 with
  | none =>
   have hl : l0 = [] := by
    cases l0 with
    | nil => rfl
    | cons a t =>
     obtain ⟨ad, e, _⟩ := Kd.at_string hr0 0 (by omega) (by rw [List.length_cons]; omega)
     cases e
   subst hl
   refine (Try.slices_Clone_string_nil 0 c0 w).mono fun e w' ⟨he, hw⟩ => ?_
   subst hw; exact ⟨_, he, Kd.R_nil _ _ _ _ _, Below.refl _ _⟩
  | some ad =>
   by_cases hl : l0 = []
   ·subst hl
    refine (Try.slices_Clone_string_zero ad c0 w).mono fun e w' ⟨v, he, ho, _, hb⟩ => ?_
    exact ⟨v, he, ⟨fun _ _ => trivial, [], ho, ⟨rfl, fun j p hj => by simp at hj⟩⟩, hb⟩
   ·obtain ⟨b, off, el⟩ := ad
    have hpos : 0 < l0.length := by cases l0 with | nil => exact absurd rfl hl | cons a t => simp
    have hel : el = none := by
     obtain ⟨ad, e, h1⟩ := Kd.at_string hr0 0 (by omega) (by omega)
     cases e
     cases el with
     | none => rfl
     | some x =>
      simp [World.cell?, Addr.add] at h1
      split at h1 <;> cases h1
    subst hel
    have hc : ∀ j, j < l0.length → w.cell? ⟨b, off + j, none⟩ = some (.string (l0.getD j ByteArray.empty)) := by
     intro j hj; obtain ⟨ad, e, h1⟩ := Kd.at_string hr0 (j : Int) (by omega) (by omega)
     cases e
     rw [Int.toNat_natCast] at h1
     by_cases hj0 : j = 0
     ·subst hj0
      simpa [Addr.add, rdOf] using h1
     ·simpa [Addr.add, hj0, rdOf] using h1
    refine (Try.slices_Clone_string b off l0.length c0 l0 w (Nat.le_refl _) hsz hc).mono fun e w' ⟨v, he, ho, _, hb⟩ => ?_
    rw [List.take_length] at ho
    exact ⟨v, he, ⟨fun _ _ => trivial, l0.map Value.string, ho, Ow.reps_map Value.string (fun _ => rfl) _ _ _ _⟩, hb⟩
 ·cases h


end Go.Proofs.Ytknagppkeodggaa.P


namespace Go.Proofs.Ytknagppkeodggaa.P
open Go.RowKit Go.Proofs.YtknagppkeodggaaW.PrintWords Go.Proofs.YtknagppkeodggaaW.PrintLast Go.Proofs.YtknagppkeodggaaW.PrintMore
attribute [local go_sem] max2_int min2_int max_two min_two max_three min_three max_four min_four
set_option linter.unusedVariables false
set_option linter.unusedSimpArgs false

/-! ### impl_Feed: function 5 -/
def impl_Feed.l0 : Nat → ByteArray → Int → ByteArray → List ByteArray → Bool → Option (Int × ByteArray × List ByteArray × Bool)
 | 0, _, _, _, _, _ => none
 | k + 1, x5, aE, bz, aA, b4 => (impl_front.f k x5 aE).bind fun bt340 => (if bt340.1 = 0 then (some (aE, x5, aA, b4)) else (if bt340.1 = 2 then (some (aE, (⟨#[]⟩ : ByteArray), aA, true)) else (if (aA.length : Int) = 500 then (some (aE, (⟨#[]⟩ : ByteArray), aA, true)) else (if aA.length < 8796093022208 then (if 0 ≤ bt340.2.2 then (if bt340.2.2 ≤ (x5.size : Int) then (impl_Feed.l0 k (x5.extract (bt340.2.2 : Int).toNat x5.size) aE bz (aA ++ [bt340.2.1]) b4) else (none)) else (none)) else (none)))))
def impl_Feed.f (k : Nat) (a0_0 : Int) (a0_1 : ByteArray) (a9 : List ByteArray) (a0_3 : Bool) (a1 : ByteArray) : Option (Int × ByteArray × List ByteArray × Bool) := (impl_ValidDecoder.f k a0_0 a0_1 a9 a0_3).bind fun aC => (if aC = true then ((slices_Clone_string_string.f a9).bind fun ac => (if a0_3 = true then (some (a0_0, a0_1, ac, a0_3)) else (if a0_1.size + a1.size ≤ 9223372036854775807 then (impl_Feed.l0 k (a0_1 ++ a1) a0_0 a0_1 ac a0_3) else (none)))) else (some (0, (⟨#[]⟩ : ByteArray), ([] : List ByteArray), false)))
theorem impl_Feed.mono_l : ∀ k, (∀ y0 y1 y2 y3 y4, LeO (impl_Feed.l0 k y0 y1 y2 y3 y4) (impl_Feed.l0 (k + 1) y0 y1 y2 y3 y4))
 | 0 => fun _ _ _ _ _ r h => by simp [impl_Feed.l0] at h
 | k + 1 => by
  have ih0 := impl_Feed.mono_l k
  ·intro y0 y1 y2 y3 y4
   unfold impl_Feed.l0
   repeat' first
   | (with_reducible exact ih0 _ _ _ _ _)
   | (with_reducible exact impl_ValidDecoder.mono _ _ _ _ _)
   | (with_reducible exact impl_front.mono _ _ _)
   | (with_reducible exact LeO.refl _)
   | (with_reducible exact LeO.none _)
   | (with_reducible refine LeO.ite ?_ ?_)
   | (with_reducible refine LeO.bind ?_ (fun _ => ?_))
   | exact ih0 _ _ _ _ _
   | exact impl_ValidDecoder.mono _ _ _ _ _
   | exact impl_front.mono _ _ _
   | exact LeO.none _
   | refine LeO.ite ?_ ?_
   | refine LeO.bind ?_ (fun _ => ?_)
theorem impl_Feed.mono : ∀ a0 a1 a2 a3 a4 k, LeO (impl_Feed.f k a0 a1 a2 a3 a4) (impl_Feed.f (k + 1) a0 a1 a2 a3 a4) := by
 intro a0 a1 a2 a3 a4 k; have ih0 := impl_Feed.mono_l k
 unfold impl_Feed.f
 repeat' first
   | (with_reducible exact ih0 _ _ _ _ _)
   | (with_reducible exact impl_ValidDecoder.mono _ _ _ _ _)
   | (with_reducible exact impl_front.mono _ _ _)
   | (with_reducible exact LeO.refl _)
   | (with_reducible exact LeO.none _)
   | (with_reducible refine LeO.ite ?_ ?_)
   | (with_reducible refine LeO.bind ?_ (fun _ => ?_))
   | exact ih0 _ _ _ _ _
   | exact impl_ValidDecoder.mono _ _ _ _ _
   | exact impl_front.mono _ _ _
   | exact LeO.none _
   | refine LeO.ite ?_ ?_
   | refine LeO.bind ?_ (fun _ => ?_)
set_option maxHeartbeats 8000000 in
set_option maxRecDepth 100000 in
theorem impl_Feed.calls (k : Nat) (a0_0 : Int) (a0_1 : ByteArray) (af : Option Addr) (ag : Nat) (a9 : List ByteArray) (a0_3 : Bool) (a1 : ByteArray) (r1 : Int) (r2 : ByteArray) (r3 : List ByteArray) (r4 : Bool) (w : World) (b5 : Kd.C Kd.string w af a9.length a9) (b6 : a9.length ≤ ag) (h : impl_Feed.f k a0_0 a0_1 a9 a0_3 a1 = some (r1, r2, r3, r4)) :
  Calls Try.prog 5 #[.agg #[.int .i64 a0_0, .string a0_1, .slice af a9.length ag, .bool a0_3], .string a1] w fun e w' => ∃ v2_ : Value, e = .returned (.agg #[.int .i64 r1, .string r2, v2_, .bool r4]) ∧ Kd.R Kd.string 9 w' w.heap.size (fun _ => True) v2_ r3 ∧ Below w.heap.size w w' := by
 have hu25 := Try.underlying25; have aG := Aside0.mk b5; have aH := Aside0.mk b6; clear b5 b6; have HB := Aside0.mk (Below.refl w.heap.size w); have H : ((impl_ValidDecoder.f k a0_0 a0_1 a9 a0_3).bind fun aC => (if aC = true then ((slices_Clone_string_string.f a9).bind fun ac => (if a0_3 = true then (some (a0_0, a0_1, ac, a0_3)) else (if a0_1.size + a1.size ≤ 9223372036854775807 then (impl_Feed.l0 k (a0_1 ++ a1) a0_0 a0_1 ac a0_3) else (none)))) else (some (0, (⟨#[]⟩ : ByteArray), ([] : List ByteArray), false)))) = some (r1, r2, r3, r4) := h; clear h; replace H := Option.bind_eq_some_iff.mp H; obtain ⟨aC, A30, H⟩ := H; replace H : (if aC = true then ((slices_Clone_string_string.f a9).bind fun ac => (if a0_3 = true then (some (a0_0, a0_1, ac, a0_3)) else (if a0_1.size + a1.size ≤ 9223372036854775807 then (impl_Feed.l0 k (a0_1 ++ a1) a0_0 a0_1 ac a0_3) else (none)))) else (some (0, (⟨#[]⟩ : ByteArray), ([] : List ByteArray), false))) = some (r1, r2, r3, r4) := H; have A3 := Aside0.mk A30; clear A30
 by_cases c4 : aC = true
 ·subst c4
  have H1 : ((slices_Clone_string_string.f a9).bind fun ac => (if a0_3 = true then (some (a0_0, a0_1, ac, a0_3)) else (if a0_1.size + a1.size ≤ 9223372036854775807 then (impl_Feed.l0 k (a0_1 ++ a1) a0_0 a0_1 ac a0_3) else (none)))) = some (r1, r2, r3, r4) := by rw [if_pos rfl] at H; exact H
  clear H; have H := H1; clear H1; replace H := Option.bind_eq_some_iff.mp H; obtain ⟨ac, A50, H⟩ := H; replace H : (if a0_3 = true then (some (a0_0, a0_1, ac, a0_3)) else (if a0_1.size + a1.size ≤ 9223372036854775807 then (impl_Feed.l0 k (a0_1 ++ a1) a0_0 a0_1 ac a0_3) else (none))) = some (r1, r2, r3, r4) := H; have A5 := Aside0.mk A50; clear A50
  by_cases c6 : a0_3 = true
  ·subst c6
   have H1 : (some (a0_0, a0_1, ac, true)) = some (r1, r2, r3, r4) := by rw [if_pos rfl] at H; exact H
   clear H; have H := H1; clear H1; simp only [Option.some.injEq, Prod.mk.injEq] at H; obtain ⟨rfl, rfl, rfl, rfl⟩ := H
   go_enter Try.func5, Try.ntmps5
   go_wp2_with (first | ((with_reducible refine gd 2 rfl ?_); (try (refine gate_guard (by rfl) ?_; dsimp only)); refine bx 2 25 (#[.int .i64 a0_0, .string a0_1, .slice af a9.length ag, .bool true]) ?_; intro a7 hg w7 hbox hb; refine Ya4 (below_step (be HB.out) hb) (hbox) (bs hg (be HB.out)) (bs hg (be HB.out)) ?_; clear HB; intro HB a5 b7 b8; clear hb hbox hg) | ((with_reducible refine gd 4 rfl ?_); (try (refine gate_guard (by rfl) ?_; dsimp only)); refine bx 4 25 (#[.int .i64 0, .string (⟨#[]⟩ : ByteArray), .slice none 0 0, .bool false]) ?_; intro a8 hg w8 hbox hb; refine Ya7 (bb a5 hb) (below_step (bf HB.out) hb) (hbox) (bs hg (bf HB.out)) (bs hg (bf HB.out)) (bl hg a5) (br hg a5) ?_; clear a5 HB; intro a5 HB a6 b9 ba am ak; clear hb hbox hg; have hnb9 := am.out; have hnc9 := ak.out; have bA : w8.cell? ⟨a7, 0, none⟩ = some (.int .i64 a0_0) := bc a5 0; have bB : w8.cell? ⟨a7, 1, none⟩ = some (.string a0_1) := bc a5 1; have bC : w8.cell? ⟨a7, 2, none⟩ = some (.slice af a9.length ag) := bc a5 2; have bD : w8.cell? ⟨a7, 3, none⟩ = some (.bool true) := bc a5 3; have bE := blk_frozen a5.out 0; have bF := blk_frozen a5.out 1; have bG := blk_frozen a5.out 2; have bH := blk_frozen a5.out 3) | ((with_reducible refine gc 9 rfl ?_); refine gl (some 10) _ (#[.agg #[.int .i64 a0_0, .string a0_1, .slice af a9.length ag, .bool true]]) Try.func9 ?_; (with_reducible refine (impl_ValidDecoder.calls k a0_0 a0_1 _ _ a9 true true _ ?side1 ?side2 A3.out).mono ?_); (case side1 => exact cb (Kd.C_below aG.out HB.out)); (case side2 => exact aH.out); rintro e aN ⟨rfl, hb⟩; refine ⟨_, rfl, ?_⟩; refine Ya3 (bb a5 hb) (bb a6 hb) (below_step (bf HB.out) hb) ?_; clear a5 a6 HB; intro a5 a6 HB; (try clear hb); (try clear hb2); (try clear hk); (try clear hi); have bI : aN.cell? ⟨a7, 0, none⟩ = some (.int .i64 a0_0) := bc a5 0; have bJ : aN.cell? ⟨a7, 1, none⟩ = some (.string a0_1) := bc a5 1; have bK : aN.cell? ⟨a7, 2, none⟩ = some (.slice af a9.length ag) := bc a5 2; have bL : aN.cell? ⟨a7, 3, none⟩ = some (.bool true) := bc a5 3; have bM := blk_frozen a5.out 0; have bN := blk_frozen a5.out 1; have bO := blk_frozen a5.out 2; have bP := blk_frozen a5.out 3) | ((with_reducible refine gc 21 rfl ?_); refine gl (some 15) _ (#[.slice af a9.length ag]) Try.func21 ?_; (with_reducible refine (slices_Clone_string_string.calls _ _ a9 ac _ ?side1 ?side2 A5.out).mono ?_); (case side1 => exact cb (Kd.C_below aG.out HB.out)); (case side2 => exact aH.out); rintro e an ⟨bQ, rfl, ho0, hb⟩; refine ⟨_, rfl, ?_⟩; refine Ya4 (Kd.R_lower ho0 (below_size (bf HB.out))) (bb a5 hb) (bb a6 hb) (below_step (bf HB.out) hb) ?_; clear a5 a6 HB; intro aI a5 a6 HB; (try clear hb); (try clear hb2); (try clear hk); (try clear hi); (try clear ho0); obtain ⟨b0, b1, bR⟩ := Kd.R_slice aI.out; subst bR; have bS : an.cell? ⟨a7, 0, none⟩ = some (.int .i64 a0_0) := bc a5 0; have bT : an.cell? ⟨a7, 1, none⟩ = some (.string a0_1) := bc a5 1; have bU : an.cell? ⟨a7, 2, none⟩ = some (.slice af a9.length ag) := bc a5 2; have bV : an.cell? ⟨a7, 3, none⟩ = some (.bool true) := bc a5 3; have bW := blk_frozen a5.out 0; have bX := blk_frozen a5.out 1; have bY := blk_frozen a5.out 2; have bZ := blk_frozen a5.out 3; have c0 : an.cell? ⟨a8, 0, none⟩ = some (.int .i64 0) := bc a6 0; have ca : an.cell? ⟨a8, 1, none⟩ = some (.string (⟨#[]⟩ : ByteArray)) := bc a6 1; have cc : an.cell? ⟨a8, 2, none⟩ = some (.slice none 0 0) := bc a6 2; have cd : an.cell? ⟨a8, 3, none⟩ = some (.bool false) := bc a6 3; have ce := blk_frozen a6.out 0; have cf := blk_frozen a6.out 1; have cg := blk_frozen a6.out 2; have ch := blk_frozen a6.out 3))
   refine bodyPost_ret (results_cell_row rfl _ _ a8 25 #[.int .i64 a0_0, .string a0_1, .slice b0 ac.length b1, .bool true] (0, 0) _ rfl (bp a6.out) Try.underlying25 rfl (by kernel_rfl)) rfl ?_; exact ⟨_, Ye2, by (with_reducible repeat (first | apply Kd.R_alloc | apply Kd.R_drewN | apply Kd.R_drew)); exact Kd.R_mono (Kd.R_far (p := ⟨a8, 3, none⟩) (Kd.R_far (p := ⟨a8, 2, none⟩) (Kd.R_far (p := ⟨a8, 1, none⟩) (Kd.R_far (p := ⟨a8, 0, none⟩) (Kd.R_far (p := ⟨a7, 2, none⟩) (Kd.R_types (Kd.R_types aI.out a5.out (by decide)) a6.out (by decide)) (fun _ hk => hk.1.2) (.slice b0 ac.length b1)) (fun _ hk => hk.2) (.int .i64 a0_0)) (fun _ hk => hk.2) (.string a0_1)) (fun _ hk => hk.2) (.slice b0 ac.length b1)) (fun _ hk => hk.2) (.bool true)) (fun _ hk => trivial), (bf HB.out)⟩
  ·replace c6 := Bool.eq_false_iff.mpr c6; subst c6
   have H1 : (if a0_1.size + a1.size ≤ 9223372036854775807 then (impl_Feed.l0 k (a0_1 ++ a1) a0_0 a0_1 ac false) else (none)) = some (r1, r2, r3, r4) := by rw [if_neg (show ¬ (false = true) by decide)] at H; exact H
   clear H; have H := H1; clear H1
   by_cases aD : a0_1.size + a1.size ≤ 9223372036854775807
   ·rw [if_pos aD] at H
    have ci := eq_true aD; have cj : decide (a0_1.size + a1.size ≤ 9223372036854775807) = true := decide_eq_true aD
    try have ck : (9223372036854775807 < a0_1.size + a1.size) = False := eq_false (Nat.not_lt.2 aD)
    have H' := Aside0.mk H; clear H
    go_enter Try.func5, Try.ntmps5
    go_wp2_with (first | ((with_reducible refine gd 2 rfl ?_); (try (refine gate_guard (by rfl) ?_; dsimp only)); refine bx 2 25 (#[.int .i64 a0_0, .string a0_1, .slice af a9.length ag, .bool false]) ?_; intro a7 hg w18 hbox hb; refine Ya4 (below_step (be HB.out) hb) (hbox) (bs hg (be HB.out)) (bs hg (be HB.out)) ?_; clear HB; intro HB a5 b7 b8; clear hb hbox hg) | ((with_reducible refine gd 4 rfl ?_); (try (refine gate_guard (by rfl) ?_; dsimp only)); refine bx 4 25 (#[.int .i64 0, .string (⟨#[]⟩ : ByteArray), .slice none 0 0, .bool false]) ?_; intro a8 hg aQ hbox hb; refine Ya7 (bb a5 hb) (below_step (bf HB.out) hb) (hbox) (bs hg (bf HB.out)) (bs hg (bf HB.out)) (bl hg a5) (br hg a5) ?_; clear a5 HB; intro a5 HB a6 b9 ba am ak; clear hb hbox hg; have hnb20 := am.out; have hnc20 := ak.out; have cl : aQ.cell? ⟨a7, 0, none⟩ = some (.int .i64 a0_0) := bc a5 0; have cm : aQ.cell? ⟨a7, 1, none⟩ = some (.string a0_1) := bc a5 1; have cn : aQ.cell? ⟨a7, 2, none⟩ = some (.slice af a9.length ag) := bc a5 2; have co : aQ.cell? ⟨a7, 3, none⟩ = some (.bool false) := bc a5 3; have cp := blk_frozen a5.out 0; have cq := blk_frozen a5.out 1; have cr := blk_frozen a5.out 2; have cs := blk_frozen a5.out 3) | ((with_reducible refine gc 9 rfl ?_); refine gl (some 10) _ (#[.agg #[.int .i64 a0_0, .string a0_1, .slice af a9.length ag, .bool false]]) Try.func9 ?_; (with_reducible refine (impl_ValidDecoder.calls k a0_0 a0_1 _ _ a9 false true _ ?side1 ?side2 A3.out).mono ?_); (case side1 => exact cb (Kd.C_below aG.out HB.out)); (case side2 => exact aH.out); rintro e aR ⟨rfl, hb⟩; refine ⟨_, rfl, ?_⟩; refine Ya3 (bb a5 hb) (bb a6 hb) (below_step (bf HB.out) hb) ?_; clear a5 a6 HB; intro a5 a6 HB; (try clear hb); (try clear hb2); (try clear hk); (try clear hi); have ct : aR.cell? ⟨a7, 0, none⟩ = some (.int .i64 a0_0) := bc a5 0; have cu : aR.cell? ⟨a7, 1, none⟩ = some (.string a0_1) := bc a5 1; have cv : aR.cell? ⟨a7, 2, none⟩ = some (.slice af a9.length ag) := bc a5 2; have cw : aR.cell? ⟨a7, 3, none⟩ = some (.bool false) := bc a5 3; have cx := blk_frozen a5.out 0; have cy := blk_frozen a5.out 1; have cz := blk_frozen a5.out 2; have cA := blk_frozen a5.out 3) | ((with_reducible refine gc 21 rfl ?_); refine gl (some 15) _ (#[.slice af a9.length ag]) Try.func21 ?_; (with_reducible refine (slices_Clone_string_string.calls _ _ a9 ac _ ?side1 ?side2 A5.out).mono ?_); (case side1 => exact cb (Kd.C_below aG.out HB.out)); (case side2 => exact aH.out); rintro e aT ⟨bQ, rfl, ho0, hb⟩; refine ⟨_, rfl, ?_⟩; refine Ya4 (Kd.R_lower ho0 (below_size (bf HB.out))) (bb a5 hb) (bb a6 hb) (below_step (bf HB.out) hb) ?_; clear a5 a6 HB; intro aI a5 a6 HB; (try clear hb); (try clear hb2); (try clear hk); (try clear hi); (try clear ho0); obtain ⟨bd, bg, cB⟩ := Kd.R_slice aI.out; subst cB; have cC : aT.cell? ⟨a7, 0, none⟩ = some (.int .i64 a0_0) := bc a5 0; have cD : aT.cell? ⟨a7, 1, none⟩ = some (.string a0_1) := bc a5 1; have cE : aT.cell? ⟨a7, 2, none⟩ = some (.slice af a9.length ag) := bc a5 2; have cF : aT.cell? ⟨a7, 3, none⟩ = some (.bool false) := bc a5 3; have cG := blk_frozen a5.out 0; have cH := blk_frozen a5.out 1; have cI := blk_frozen a5.out 2; have cJ := blk_frozen a5.out 3))
    go_loopg [5] k (fun kq v5 w' => ∃ (ab : ByteArray) (ah : ByteArray) (aa : List ByteArray) (ae : Bool) (au : Int) (av : ByteArray) (aw : Bool) (al : Value), v5 = .string ab ∧ Aside0 (impl_Feed.l0 kq ab a0_0 ah aa ae = some (r1, r2, r3, r4)) ∧ Aside0 (kq ≤ k) ∧ Aside0 (Kd.R Kd.string 9 w' w.heap.size (fun _ => True) al aa) ∧ Aside0 (w'.heap[a7]? = some (.cells #[.int .i64 a0_0, .string ah, al, .bool ae] 25 (0, 0))) ∧ Aside0 (w'.heap[a8]? = some (.cells #[.int .i64 au, .string av, (.slice none 0 0), .bool aw] 25 (0, 0))) ∧ Aside0 (Below w.heap.size w w'))
    case atStart => exact ⟨(a0_1 ++ a1), (a0_1), (ac), (false), (0), ((⟨#[]⟩ : ByteArray)), (false), (.slice bd ac.length bg), Ye1, H', ⟨Nat.le_refl _⟩, ⟨by (with_reducible repeat (first | apply Kd.R_alloc | apply Kd.R_drewN | apply Kd.R_drew)); exact Kd.R_mono (Kd.R_far (p := ⟨a7, 2, none⟩) (Kd.R_types aI.out a5.out (by decide)) (fun _ hk => hk.2) (.slice bd ac.length bg)) (fun _ hk => trivial)⟩, ⟨bp a5.out⟩, ⟨bkf a6.out ak.out⟩, ⟨bf HB.out⟩⟩
    case round =>
     clear H'; (try clear c1); (try clear c2); (try clear p2); (try clear c4); (try clear c5); (try clear c6); (try clear c9); (try clear aD); (try clear ci); (try clear cj); (try clear ck); (try clear c20); (try clear c21); (try clear bA); (try clear bB); (try clear bC); (try clear bD); (try clear bI); (try clear bJ); (try clear bK); (try clear bL); (try clear bS); (try clear bT); (try clear bU); (try clear bV); (try clear c0); (try clear ca); (try clear cc); (try clear cd); (try clear cl); (try clear cm); (try clear cn); (try clear co); (try clear ct); (try clear cu); (try clear cv); (try clear cw); (try clear cC); (try clear cD); (try clear cE); (try clear cF); (try clear bE); (try clear bF); (try clear bG); (try clear bH); (try clear bM); (try clear bN); (try clear bO); (try clear bP); (try clear bW); (try clear bX); (try clear bY); (try clear bZ); (try clear ce); (try clear cf); (try clear cg); (try clear ch); (try clear cp); (try clear cq); (try clear cr); (try clear cs); (try clear cx); (try clear cy); (try clear cz); (try clear cA); (try clear cG); (try clear cH); (try clear cI); (try clear cJ); obtain ⟨ab, ah, aa, ae, au, av, aw, al, rfl, HA, HK1, ad, a5, a6, HB⟩ := hrel
     cases gk with
     | zero => exact absurd HA.out (by simp [impl_Feed.l0])
     | succ k1 =>
      have H := HA.out; clear HA; simp only [impl_Feed.l0] at H; replace H := Option.bind_eq_some_iff.mp H; obtain ⟨⟨ai, ao, aj⟩, bh, H⟩ := H; replace H : (if ai = 0 then (some (a0_0, ab, aa, ae)) else (if ai = 2 then (some (a0_0, (⟨#[]⟩ : ByteArray), aa, true)) else (if (aa.length : Int) = 500 then (some (a0_0, (⟨#[]⟩ : ByteArray), aa, true)) else (if aa.length < 8796093022208 then (if 0 ≤ aj then (if aj ≤ (ab.size : Int) then (impl_Feed.l0 k1 (ab.extract (aj : Int).toNat ab.size) a0_0 ah (aa ++ [ao]) ae) else (none)) else (none)) else (none))))) = some (r1, r2, r3, r4) := H; have aU := Aside0.mk bh; clear bh
      by_cases ax : ai = 0
      ·rw [if_pos ax] at H
       have cK : (ai == 0) = true := beq_iff_eq.mpr ax; have cL : (ai != 0) = false := bne_eq_false_iff_eq.mpr ax; clear ax; simp only [Option.some.injEq, Prod.mk.injEq] at H; obtain ⟨rfl, rfl, rfl, rfl⟩ := H; have hnb29 := am.out; have hnc29 := ak.out; have cX : wr.cell? ⟨a7, 0, none⟩ = some (.int .i64 a0_0) := bc a5 0; have cY : wr.cell? ⟨a7, 1, none⟩ = some (.string ah) := bc a5 1; have cZ : wr.cell? ⟨a7, 2, none⟩ = some (al) := bc a5 2; have d0 : wr.cell? ⟨a7, 3, none⟩ = some (.bool ae) := bc a5 3; have d1 := blk_frozen a5.out 0; have d2 := blk_frozen a5.out 1; have d3 := blk_frozen a5.out 2; have d4 := blk_frozen a5.out 3
       go_wp2_with (first | ((with_reducible refine gc 22 rfl ?_); refine gl (some 28) _ (#[.string ab, .int .i64 a0_0]) Try.func22 ?_; (with_reducible refine (impl_front.calls k1 ab a0_0 ai ao aj _ aU.out).mono ?_); rintro e ap ⟨rfl, hb⟩; refine ⟨_, rfl, ?_⟩; refine Ya4 (Kd.R_below (kr ad.out) hb) (bb a5 hb) (bb a6 hb) (below_step (bf HB.out) hb) ?_; clear ad a5 a6 HB; intro ad a5 a6 HB; (try clear hb); (try clear hb2); (try clear hk); (try clear hi); have d5 : ap.cell? ⟨a7, 0, none⟩ = some (.int .i64 a0_0) := bc a5 0; have d6 : ap.cell? ⟨a7, 1, none⟩ = some (.string ah) := bc a5 1; have d7 : ap.cell? ⟨a7, 2, none⟩ = some (al) := bc a5 2; have d8 : ap.cell? ⟨a7, 3, none⟩ = some (.bool ae) := bc a5 3; have d9 := blk_frozen a5.out 0; have da := blk_frozen a5.out 1; have db := blk_frozen a5.out 2; have dc := blk_frozen a5.out 3; have dd : ap.cell? ⟨a8, 0, none⟩ = some (.int .i64 au) := bc a6 0; have de : ap.cell? ⟨a8, 1, none⟩ = some (.string av) := bc a6 1; have df : ap.cell? ⟨a8, 2, none⟩ = some (.slice none 0 0) := bc a6 2; have dg : ap.cell? ⟨a8, 3, none⟩ = some (.bool aw) := bc a6 3; have dh := blk_frozen a6.out 0; have di := blk_frozen a6.out 1; have dj := blk_frozen a6.out 2; have dk := blk_frozen a6.out 3; obtain ⟨bi, bj, cM⟩ := Kd.R_slice ad.out; subst cM))
       refine bodyPost_ret (results_cell_row rfl _ _ a8 25 #[.int .i64 a0_0, .string ab, .slice bi aa.length bj, .bool ae] (0, 0) _ rfl (bp a6.out) Try.underlying25 rfl (by kernel_rfl)) rfl ?_; exact ⟨_, Ye2, by (with_reducible repeat (first | apply Kd.R_alloc | apply Kd.R_drewN | apply Kd.R_drew)); exact Kd.R_mono (Kd.R_far (p := ⟨a8, 3, none⟩) (Kd.R_far (p := ⟨a8, 2, none⟩) (Kd.R_far (p := ⟨a8, 1, none⟩) (Kd.R_far (p := ⟨a8, 0, none⟩) (Kd.R_far (p := ⟨a7, 1, none⟩) (Kd.R_types (Kd.R_types ad.out a5.out (by decide)) a6.out (by decide)) (fun _ hk => hk.1.2) (.string ab)) (fun _ hk => hk.2) (.int .i64 a0_0)) (fun _ hk => hk.2) (.string ab)) (fun _ hk => hk.2) (.slice bi aa.length bj)) (fun _ hk => hk.2) (.bool ae)) (fun _ hk => trivial), (bf HB.out)⟩
      ·rw [if_neg ax] at H
       have cK : (ai == 0) = false := beq_eq_false_iff_ne.mpr ax; have cL : (ai != 0) = true := bne_iff_ne.mpr ax
       by_cases ay : ai = 2
       ·rw [if_pos ay] at H
        have cN : (ai == 2) = true := beq_iff_eq.mpr ay; have cO : (ai != 2) = false := bne_eq_false_iff_eq.mpr ay; clear ay; simp only [Option.some.injEq, Prod.mk.injEq] at H; obtain ⟨rfl, rfl, rfl, rfl⟩ := H; have hnb36 := am.out; have hnc36 := ak.out; have dl : wr.cell? ⟨a7, 0, none⟩ = some (.int .i64 a0_0) := bc a5 0; have dm : wr.cell? ⟨a7, 1, none⟩ = some (.string ah) := bc a5 1; have dn : wr.cell? ⟨a7, 2, none⟩ = some (al) := bc a5 2; have dp : wr.cell? ⟨a7, 3, none⟩ = some (.bool ae) := bc a5 3; have dq := blk_frozen a5.out 0; have dr := blk_frozen a5.out 1; have ds := blk_frozen a5.out 2; have dt := blk_frozen a5.out 3
        go_wp2_with (first | ((with_reducible refine gc 22 rfl ?_); refine gl (some 28) _ (#[.string ab, .int .i64 a0_0]) Try.func22 ?_; (with_reducible refine (impl_front.calls k1 ab a0_0 ai ao aj _ aU.out).mono ?_); rintro e aq ⟨rfl, hb⟩; refine ⟨_, rfl, ?_⟩; refine Ya4 (Kd.R_below (kr ad.out) hb) (bb a5 hb) (bb a6 hb) (below_step (bf HB.out) hb) ?_; clear ad a5 a6 HB; intro ad a5 a6 HB; (try clear hb); (try clear hb2); (try clear hk); (try clear hi); have du : aq.cell? ⟨a7, 0, none⟩ = some (.int .i64 a0_0) := bc a5 0; have dv : aq.cell? ⟨a7, 1, none⟩ = some (.string ah) := bc a5 1; have dw : aq.cell? ⟨a7, 2, none⟩ = some (al) := bc a5 2; have dx : aq.cell? ⟨a7, 3, none⟩ = some (.bool ae) := bc a5 3; have dy := blk_frozen a5.out 0; have dA := blk_frozen a5.out 1; have dB := blk_frozen a5.out 2; have dC := blk_frozen a5.out 3; have dD : aq.cell? ⟨a8, 0, none⟩ = some (.int .i64 au) := bc a6 0; have dE : aq.cell? ⟨a8, 1, none⟩ = some (.string av) := bc a6 1; have dF : aq.cell? ⟨a8, 2, none⟩ = some (.slice none 0 0) := bc a6 2; have dG : aq.cell? ⟨a8, 3, none⟩ = some (.bool aw) := bc a6 3; have dH := blk_frozen a6.out 0; have dI := blk_frozen a6.out 1; have dJ := blk_frozen a6.out 2; have dK := blk_frozen a6.out 3; obtain ⟨bm, bn, cP⟩ := Kd.R_slice ad.out; subst cP))
        refine bodyPost_ret (results_cell_row rfl _ _ a8 25 #[.int .i64 a0_0, .string (⟨#[]⟩ : ByteArray), .slice bm aa.length bn, .bool true] (0, 0) _ rfl (bp a6.out) Try.underlying25 rfl (by kernel_rfl)) rfl ?_; exact ⟨_, Ye2, by (with_reducible repeat (first | apply Kd.R_alloc | apply Kd.R_drewN | apply Kd.R_drew)); exact Kd.R_mono (Kd.R_far (p := ⟨a8, 3, none⟩) (Kd.R_far (p := ⟨a8, 2, none⟩) (Kd.R_far (p := ⟨a8, 1, none⟩) (Kd.R_far (p := ⟨a8, 0, none⟩) (Kd.R_far (p := ⟨a7, 1, none⟩) (Kd.R_far (p := ⟨a7, 3, none⟩) (Kd.R_types (Kd.R_types ad.out a5.out (by decide)) a6.out (by decide)) (fun _ hk => hk.1.2) (.bool true)) (fun _ hk => hk.1.2) (.string (⟨#[]⟩ : ByteArray))) (fun _ hk => hk.2) (.int .i64 a0_0)) (fun _ hk => hk.2) (.string (⟨#[]⟩ : ByteArray))) (fun _ hk => hk.2) (.slice bm aa.length bn)) (fun _ hk => hk.2) (.bool true)) (fun _ hk => trivial), (bf HB.out)⟩
       ·rw [if_neg ay] at H
        have cN : (ai == 2) = false := beq_eq_false_iff_ne.mpr ay; have cO : (ai != 2) = true := bne_iff_ne.mpr ay
        by_cases az : (aa.length : Int) = 500
        ·rw [if_pos az] at H
         have cQ : ((aa.length : Int) == 500) = true := beq_iff_eq.mpr az; have cR : ((aa.length : Int) != 500) = false := bne_eq_false_iff_eq.mpr az; clear az; simp only [Option.some.injEq, Prod.mk.injEq] at H; obtain ⟨rfl, rfl, rfl, rfl⟩ := H; have hnb43 := am.out; have hnc43 := ak.out; have dL : wr.cell? ⟨a7, 0, none⟩ = some (.int .i64 a0_0) := bc a5 0; have dM : wr.cell? ⟨a7, 1, none⟩ = some (.string ah) := bc a5 1; have dN : wr.cell? ⟨a7, 2, none⟩ = some (al) := bc a5 2; have dO : wr.cell? ⟨a7, 3, none⟩ = some (.bool ae) := bc a5 3; have dP := blk_frozen a5.out 0; have dQ := blk_frozen a5.out 1; have dR := blk_frozen a5.out 2; have dS := blk_frozen a5.out 3
         go_wp2_with (first | ((with_reducible refine gc 22 rfl ?_); refine gl (some 28) _ (#[.string ab, .int .i64 a0_0]) Try.func22 ?_; (with_reducible refine (impl_front.calls k1 ab a0_0 ai ao aj _ aU.out).mono ?_); rintro e ar ⟨rfl, hb⟩; refine ⟨_, rfl, ?_⟩; refine Ya4 (Kd.R_below (kr ad.out) hb) (bb a5 hb) (bb a6 hb) (below_step (bf HB.out) hb) ?_; clear ad a5 a6 HB; intro ad a5 a6 HB; (try clear hb); (try clear hb2); (try clear hk); (try clear hi); have dT : ar.cell? ⟨a7, 0, none⟩ = some (.int .i64 a0_0) := bc a5 0; have dU : ar.cell? ⟨a7, 1, none⟩ = some (.string ah) := bc a5 1; have dV : ar.cell? ⟨a7, 2, none⟩ = some (al) := bc a5 2; have dW : ar.cell? ⟨a7, 3, none⟩ = some (.bool ae) := bc a5 3; have dX := blk_frozen a5.out 0; have dY := blk_frozen a5.out 1; have dZ := blk_frozen a5.out 2; have e0 := blk_frozen a5.out 3; obtain ⟨bo, bq, cS⟩ := Kd.R_slice ad.out; subst cS; have e1 : ar.cell? ⟨a8, 0, none⟩ = some (.int .i64 au) := bc a6 0; have e2 : ar.cell? ⟨a8, 1, none⟩ = some (.string av) := bc a6 1; have e3 : ar.cell? ⟨a8, 2, none⟩ = some (.slice none 0 0) := bc a6 2; have e4 : ar.cell? ⟨a8, 3, none⟩ = some (.bool aw) := bc a6 3; have e5 := blk_frozen a6.out 0; have e6 := blk_frozen a6.out 1; have e7 := blk_frozen a6.out 2; have e8 := blk_frozen a6.out 3))
         refine bodyPost_ret (results_cell_row rfl _ _ a8 25 #[.int .i64 a0_0, .string (⟨#[]⟩ : ByteArray), .slice bo aa.length bq, .bool true] (0, 0) _ rfl (bp a6.out) Try.underlying25 rfl (by kernel_rfl)) rfl ?_; exact ⟨_, Ye2, by (with_reducible repeat (first | apply Kd.R_alloc | apply Kd.R_drewN | apply Kd.R_drew)); exact Kd.R_mono (Kd.R_far (p := ⟨a8, 3, none⟩) (Kd.R_far (p := ⟨a8, 2, none⟩) (Kd.R_far (p := ⟨a8, 1, none⟩) (Kd.R_far (p := ⟨a8, 0, none⟩) (Kd.R_far (p := ⟨a7, 1, none⟩) (Kd.R_far (p := ⟨a7, 3, none⟩) (Kd.R_types (Kd.R_types ad.out a5.out (by decide)) a6.out (by decide)) (fun _ hk => hk.1.2) (.bool true)) (fun _ hk => hk.1.2) (.string (⟨#[]⟩ : ByteArray))) (fun _ hk => hk.2) (.int .i64 a0_0)) (fun _ hk => hk.2) (.string (⟨#[]⟩ : ByteArray))) (fun _ hk => hk.2) (.slice bo aa.length bq)) (fun _ hk => hk.2) (.bool true)) (fun _ hk => trivial), (bf HB.out)⟩
        ·rw [if_neg az] at H
         have cQ : ((aa.length : Int) == 500) = false := beq_eq_false_iff_ne.mpr az; have cR : ((aa.length : Int) != 500) = true := bne_iff_ne.mpr az
         by_cases aV : aa.length < 8796093022208
         ·rw [if_pos aV] at H
          have cT := Aside0.mk aV; clear aV
          obtain ⟨aW, aJ⟩ : ∃ y_ : List ByteArray, y_ = (aa ++ [ao]) := ⟨_, rfl⟩
          replace H : (if 0 ≤ aj then (if aj ≤ (ab.size : Int) then (impl_Feed.l0 k1 (ab.extract (aj : Int).toNat ab.size) a0_0 ah aW ae) else (none)) else (none)) = some (r1, r2, r3, r4) := by first | (rw [aJ]; with_reducible exact H) | (have H2_ := (Option.bind_some _ _).symm.trans H; rw [aJ]; with_reducible exact H2_) | (have H2_ := (Option.bind_some _ _).symm.trans H; with_reducible exact H2_) | with_reducible exact H | (rw [aJ]; exact H) | exact H
          have cU := Aside0.mk aJ; clear aJ
          by_cases aK : 0 ≤ aj
          ·rw [if_pos aK] at H
           have c50b0 := eq_true aK; have c50b1 : decide (0 ≤ aj) = true := decide_eq_true aK; clear aK
           by_cases aM : aj ≤ (ab.size : Int)
           ·rw [if_pos aM] at H
            have c51b0 := eq_true aM; have c51b1 : decide (aj ≤ (ab.size : Int)) = true := decide_eq_true aM; clear aM; have H' := Aside0.mk H; clear H; have hnb52 := am.out; have hnc52 := ak.out; have e9 : wr.cell? ⟨a7, 0, none⟩ = some (.int .i64 a0_0) := bc a5 0; have ea : wr.cell? ⟨a7, 1, none⟩ = some (.string ah) := bc a5 1; have eb : wr.cell? ⟨a7, 2, none⟩ = some (al) := bc a5 2; have ec : wr.cell? ⟨a7, 3, none⟩ = some (.bool ae) := bc a5 3; have ed := blk_frozen a5.out 0; have ee := blk_frozen a5.out 1; have ef := blk_frozen a5.out 2; have eg := blk_frozen a5.out 3
            go_wp2_with (first | ((with_reducible refine gc 22 rfl ?_); refine gl (some 28) _ (#[.string ab, .int .i64 a0_0]) Try.func22 ?_; (with_reducible refine (impl_front.calls k1 ab a0_0 ai ao aj _ aU.out).mono ?_); rintro e aX ⟨rfl, hb⟩; refine ⟨_, rfl, ?_⟩; refine Ya4 (Kd.R_below (kr ad.out) hb) (bb a5 hb) (bb a6 hb) (below_step (bf HB.out) hb) ?_; clear ad a5 a6 HB; intro ad a5 a6 HB; (try clear hb); (try clear hb2); (try clear hk); (try clear hi); have eh : aX.cell? ⟨a7, 0, none⟩ = some (.int .i64 a0_0) := bc a5 0; have ei : aX.cell? ⟨a7, 1, none⟩ = some (.string ah) := bc a5 1; have ej : aX.cell? ⟨a7, 2, none⟩ = some (al) := bc a5 2; have ek : aX.cell? ⟨a7, 3, none⟩ = some (.bool ae) := bc a5 3; have el := blk_frozen a5.out 0; have em := blk_frozen a5.out 1; have en := blk_frozen a5.out 2; have eo := blk_frozen a5.out 3; obtain ⟨b2, b3, cV⟩ := Kd.R_slice ad.out; subst cV) | ((with_reducible refine gate_builtin (b := .append) (xs := #[.tmp 49, .tmp 51]) rfl ?_); (try (refine gate_guard (by rfl) ?_; dsimp only)); at_builtin; refine Kd.R_append Kd.string (w0 := w) w.heap.size rfl (.tmp 49) (.tmp 51) 23 9 (.string ⟨#[]⟩) 16 rfl Try.underlying23 info9 rfl (by decide) (by omega) (.slice b2 aa.length b3) aa ao [.string ao] (fun _ => True) (fun _ => False) rfl rfl ?aP (fun _ hk => hk.elim) ?aF ?aO ?aB ?aS ?aL ?_; (case aP => exact rfl); (case aB => exact (bf HB.out)); (case aF => exact (fun _ _ => trivial)); (case aO => exact (kr ad.out)); (case aS => exact (below_size (bf HB.out))); (case aL => have := cT.out; omega); intro v344 aY ho hb hg hat; rw [← cU.out] at ho; refine Ya4 (blk_grown (g := a7) (o := .cells #[.int .i64 a0_0, .string ah, .slice b2 aa.length b3, .bool ae] 25 (0, 0)) (bk a5.out) hg (Kd.R_ne ad.out a5.out (by decide))) (blk_grown (g := a8) (o := .cells #[.int .i64 au, .string av, .slice none 0 0, .bool aw] 25 (0, 0)) (bk a6.out) hg (Kd.R_ne ad.out a6.out (by decide))) (hb) (ho) ?_; clear a5 a6 HB ad; intro a5 a6 HB bu; clear ho hb hg hat; obtain ⟨bv, bw, cW⟩ := Kd.R_slice bu.out; subst cW; have ep : aY.cell? ⟨a7, 0, none⟩ = some (.int .i64 a0_0) := bc a5 0; have eq : aY.cell? ⟨a7, 1, none⟩ = some (.string ah) := bc a5 1; have er : aY.cell? ⟨a7, 2, none⟩ = some (.slice b2 aa.length b3) := bc a5 2; have es : aY.cell? ⟨a7, 3, none⟩ = some (.bool ae) := bc a5 3; have et := blk_frozen a5.out 0; have eu := blk_frozen a5.out 1; have ev := blk_frozen a5.out 2; have ew := blk_frozen a5.out 3))
            go_roundg k1
            case measure => have := HK1.out; omega
            case rel => exact ⟨(ab.extract (aj : Int).toNat ab.size), (ah), (aW), (ae), (au), (av), (aw), (.slice bv aW.length bw), Ye1, H', ⟨by have := HK1.out; omega⟩, ⟨by (with_reducible repeat (first | apply Kd.R_alloc | apply Kd.R_drewN | apply Kd.R_drew)); exact Kd.R_mono (Kd.R_far (p := ⟨a7, 2, none⟩) (Kd.R_types bu.out a5.out (by decide)) (fun _ hk => hk.2) (.slice bv aW.length bw)) (fun _ hk => trivial)⟩, ⟨bp a5.out⟩, ⟨bkf a6.out ak.out⟩, ⟨bf HB.out⟩⟩
           ·rw [if_neg aM] at H
            exact absurd H (by simp)
          ·rw [if_neg aK] at H
           exact absurd H (by simp)
         ·rw [if_neg aV] at H
          exact absurd H (by simp)
   ·rw [if_neg aD] at H
    exact absurd H (by simp)
 ·replace c4 := Bool.eq_false_iff.mpr c4; subst c4
  have H1 : (some (0, (⟨#[]⟩ : ByteArray), ([] : List ByteArray), false)) = some (r1, r2, r3, r4) := by rw [if_neg (show ¬ (false = true) by decide)] at H; exact H
  clear H; have H := H1; clear H1; simp only [Option.some.injEq, Prod.mk.injEq] at H; obtain ⟨rfl, rfl, rfl, rfl⟩ := H
  go_enter Try.func5, Try.ntmps5
  go_wp2_with (first | ((with_reducible refine gd 2 rfl ?_); (try (refine gate_guard (by rfl) ?_; dsimp only)); refine bx 2 25 (#[.int .i64 a0_0, .string a0_1, .slice af a9.length ag, .bool a0_3]) ?_; intro a7 hg w60 hbox hb; refine Ya4 (below_step (be HB.out) hb) (hbox) (bs hg (be HB.out)) (bs hg (be HB.out)) ?_; clear HB; intro HB a5 b7 b8; clear hb hbox hg) | ((with_reducible refine gd 4 rfl ?_); (try (refine gate_guard (by rfl) ?_; dsimp only)); refine bx 4 25 (#[.int .i64 0, .string (⟨#[]⟩ : ByteArray), .slice none 0 0, .bool false]) ?_; intro a8 hg aZ hbox hb; refine Ya7 (bb a5 hb) (below_step (bf HB.out) hb) (hbox) (bs hg (bf HB.out)) (bs hg (bf HB.out)) (bl hg a5) (br hg a5) ?_; clear a5 HB; intro a5 HB a6 b9 ba am ak; clear hb hbox hg; have hnb62 := am.out; have hnc62 := ak.out; have ex : aZ.cell? ⟨a7, 0, none⟩ = some (.int .i64 a0_0) := bc a5 0; have ey : aZ.cell? ⟨a7, 1, none⟩ = some (.string a0_1) := bc a5 1; have ez : aZ.cell? ⟨a7, 2, none⟩ = some (.slice af a9.length ag) := bc a5 2; have eA : aZ.cell? ⟨a7, 3, none⟩ = some (.bool a0_3) := bc a5 3; have eB := blk_frozen a5.out 0; have eC := blk_frozen a5.out 1; have eD := blk_frozen a5.out 2; have eE := blk_frozen a5.out 3) | ((with_reducible refine gc 9 rfl ?_); refine gl (some 10) _ (#[.agg #[.int .i64 a0_0, .string a0_1, .slice af a9.length ag, .bool a0_3]]) Try.func9 ?_; (with_reducible refine (impl_ValidDecoder.calls k a0_0 a0_1 _ _ a9 a0_3 false _ ?side1 ?side2 A3.out).mono ?_); (case side1 => exact cb (Kd.C_below aG.out HB.out)); (case side2 => exact aH.out); rintro e w64 ⟨rfl, hb⟩; refine ⟨_, rfl, ?_⟩; refine Ya3 (bb a5 hb) (bb a6 hb) (below_step (bf HB.out) hb) ?_; clear a5 a6 HB; intro a5 a6 HB; (try clear hb); (try clear hb2); (try clear hk); (try clear hi); have eF : w64.cell? ⟨a8, 0, none⟩ = some (.int .i64 0) := bc a6 0; have eG : w64.cell? ⟨a8, 1, none⟩ = some (.string (⟨#[]⟩ : ByteArray)) := bc a6 1; have eH : w64.cell? ⟨a8, 2, none⟩ = some (.slice none 0 0) := bc a6 2; have eI : w64.cell? ⟨a8, 3, none⟩ = some (.bool false) := bc a6 3; have eJ := blk_frozen a6.out 0; have eK := blk_frozen a6.out 1; have eL := blk_frozen a6.out 2; have eM := blk_frozen a6.out 3))
  refine bodyPost_ret (results_cell_row rfl _ _ a8 25 #[.int .i64 0, .string (⟨#[]⟩ : ByteArray), .slice none 0 0, .bool false] (0, 0) _ rfl (bp a6.out) Try.underlying25 rfl (by kernel_rfl)) rfl ?_; exact ⟨_, Ye2, nl, (bf HB.out)⟩

end Go.Proofs.Ytknagppkeodggaa.P


namespace Go.Proofs.Ytknagppkeodggaa.P
open Go.RowKit Go.Proofs.YtknagppkeodggaaW.PrintWords Go.Proofs.YtknagppkeodggaaW.PrintLast Go.Proofs.YtknagppkeodggaaW.PrintMore
attribute [local go_sem] max2_int min2_int max_two min_two max_three min_three max_four min_four
set_option linter.unusedVariables false
set_option linter.unusedSimpArgs false

/-! ### laws_wTexts: function 13 -/
def laws_wTexts.l0 : Nat → List ByteArray → List ByteArray → Int → Option (Bool)
 | 0, _, _, _ => none
 | k + 1, x0, x1, x5 => if x5 < (x0.length : Int) then (if 0 ≤ x5 then (if x5 < (x1.length : Int) then (if (rdOf ByteArray.empty x0 x5).toList = (rdOf ByteArray.empty x1 x5).toList then (laws_wTexts.l0 k x0 x1 (wrap64 (x5 + 1))) else (some false)) else (none)) else (none)) else (some true)
def laws_wTexts.f (k : Nat) (l0 : List ByteArray) (l1 : List ByteArray) : Option (Bool) := if (l0.length : Int) = (l1.length : Int) then (laws_wTexts.l0 k l0 l1 0) else (some false)
theorem laws_wTexts.mono_l : ∀ k, (∀ y0 y1 y2, LeO (laws_wTexts.l0 k y0 y1 y2) (laws_wTexts.l0 (k + 1) y0 y1 y2))
 | 0 => fun _ _ _ r h => by simp [laws_wTexts.l0] at h
 | k + 1 => by
  have ih0 := laws_wTexts.mono_l k
  ·intro y0 y1 y2
   unfold laws_wTexts.l0
   repeat' first
   | (with_reducible exact ih0 _ _ _)
   | (with_reducible exact LeO.refl _)
   | (with_reducible exact LeO.none _)
   | (with_reducible refine LeO.ite ?_ ?_)
   | (with_reducible refine LeO.bind ?_ (fun _ => ?_))
   | exact ih0 _ _ _
   | exact LeO.none _
   | refine LeO.ite ?_ ?_
   | refine LeO.bind ?_ (fun _ => ?_)
theorem laws_wTexts.mono : ∀ a0 a1 k, LeO (laws_wTexts.f k a0 a1) (laws_wTexts.f (k + 1) a0 a1) := by
 intro a0 a1 k; have ih0 := laws_wTexts.mono_l k
 unfold laws_wTexts.f
 repeat' first
   | (with_reducible exact ih0 _ _ _)
   | (with_reducible exact LeO.refl _)
   | (with_reducible exact LeO.none _)
   | (with_reducible refine LeO.ite ?_ ?_)
   | (with_reducible refine LeO.bind ?_ (fun _ => ?_))
   | exact ih0 _ _ _
   | exact LeO.none _
   | refine LeO.ite ?_ ?_
   | refine LeO.bind ?_ (fun _ => ?_)
set_option maxHeartbeats 8000000 in
set_option maxRecDepth 100000 in
theorem laws_wTexts.calls (k : Nat) (A0 : Option Addr) (c0 : Nat) (l0 : List ByteArray) (A1 : Option Addr) (c1 : Nat) (l1 : List ByteArray) (r : Bool) (w : World) (hr0 : Kd.C Kd.string w A0 l0.length l0) (hc0 : l0.length ≤ c0) (hr1 : Kd.C Kd.string w A1 l1.length l1) (hc1 : l1.length ≤ c1) (h : laws_wTexts.f k l0 l1 = some r) :
  Calls Try.prog 13 #[.slice A0 l0.length c0, .slice A1 l1.length c1] w fun e w' => e = .returned (.bool r) ∧ Drawn0 w w' := by
 have HR0 := Aside0.mk hr0; have HC0 := Aside0.mk hc0; clear hr0 hc0; have HR1 := Aside0.mk hr1; have HC1 := Aside0.mk hc1; clear hr1 hc1; have H : (if (l0.length : Int) = (l1.length : Int) then (laws_wTexts.l0 k l0 l1 0) else (some false)) = some r := h; clear h
 by_cases c3 : (l0.length : Int) = (l1.length : Int)
 ·rw [if_pos c3] at H
  have a9 : ((l0.length : Int) == (l1.length : Int)) = true := beq_iff_eq.mpr c3; have aa : ((l0.length : Int) != (l1.length : Int)) = false := bne_eq_false_iff_eq.mpr c3
  have ab : (l0.length == l1.length) = true := by first | simpa using c3 | (simp at c3 ⊢; omega)
  clear c3; have H' := Aside0.mk H; clear H
  go_enter Try.func13, Try.ntmps13
  go_wp2
  repeat (go_quiet (fail); try go_wp2)
  go_loopg [5] k (fun kq v5 w' => ∃ (a2 : Int), v5 = .int .i64 a2 ∧ Aside0 (laws_wTexts.l0 kq l0 l1 a2 = some r) ∧ Aside0 (kq ≤ k) ∧ Drawn0 w w')
  case atStart => exact ⟨(0), Ye1, H', ⟨Nat.le_refl _⟩, dz⟩
  case round =>
   clear H'; (try clear c1); (try clear p2); (try clear c3); (try clear a9); (try clear aa); (try clear ab); obtain ⟨a2, rfl, HA, HK1, ⟨m1, rfl⟩⟩ := hrel
   cases gk with
   | zero => exact absurd HA.out (by simp [laws_wTexts.l0])
   | succ k1 =>
    have H := HA.out; clear HA; simp only [laws_wTexts.l0] at H
    by_cases c4 : a2 < (l0.length : Int)
    ·rw [if_pos c4] at H
     have ac : decide (a2 < (l0.length : Int)) = true := decide_eq_true c4; clear c4
     by_cases c5 : 0 ≤ a2
     ·rw [if_pos c5] at H
      have c5b0 : decide (0 ≤ a2) = true := decide_eq_true c5; clear c5
      by_cases c6 : a2 < (l1.length : Int)
      ·rw [if_pos c6] at H
       have c6b0 : decide (a2 < (l1.length : Int)) = true := decide_eq_true c6; clear c6
       by_cases c7 : (rdOf ByteArray.empty l0 a2).toList = (rdOf ByteArray.empty l1 a2).toList
       ·rw [if_pos c7] at H
        have ad : ((rdOf ByteArray.empty l0 a2).toList == (rdOf ByteArray.empty l1 a2).toList) = true := beq_iff_eq.mpr c7; have ae : ((rdOf ByteArray.empty l0 a2).toList != (rdOf ByteArray.empty l1 a2).toList) = false := bne_eq_false_iff_eq.mpr c7; clear c7; have H' := Aside0.mk H; clear H; have a3 : 0 ≤ (a2 : Int) := oda; have a4 : a2 < (l0.length : Int) := oda; obtain ⟨af, a7, ag⟩ := Kd.at_string HR0.out a2 a3 a4
        cases a7
        replace a3 := eq_true a3; replace a4 := eq_true a4; have a5 : 0 ≤ (a2 : Int) := oda; have a6 : a2 < (l1.length : Int) := oda; obtain ⟨ah, a8, ai⟩ := Kd.at_string HR1.out a2 a5 a6
        cases a8
        replace a5 := eq_true a5; replace a6 := eq_true a6
        go_wp2
        repeat (go_quiet (fail); try go_wp2)
        go_roundg k1
        case measure => have := HK1.out; omega
        case rel => exact ⟨(wrap64 (a2 + 1)), Ye1, H', ⟨by have := HK1.out; omega⟩, dz⟩
       ·rw [if_neg c7] at H
        have ad : ((rdOf ByteArray.empty l0 a2).toList == (rdOf ByteArray.empty l1 a2).toList) = false := beq_eq_false_iff_ne.mpr c7; have ae : ((rdOf ByteArray.empty l0 a2).toList != (rdOf ByteArray.empty l1 a2).toList) = true := bne_iff_ne.mpr c7; obtain rfl := Option.some.inj H; have a3 : 0 ≤ (a2 : Int) := oda; have a4 : a2 < (l0.length : Int) := oda; obtain ⟨af, a7, ag⟩ := Kd.at_string HR0.out a2 a3 a4
        cases a7
        replace a3 := eq_true a3; replace a4 := eq_true a4; have a5 : 0 ≤ (a2 : Int) := oda; have a6 : a2 < (l1.length : Int) := oda; obtain ⟨ah, a8, ai⟩ := Kd.at_string HR1.out a2 a5 a6
        cases a8
        replace a5 := eq_true a5; replace a6 := eq_true a6
        go_wp2
        repeat (go_quiet (fail); try go_wp2)
        go_ret
        exact ⟨Ye1, dz⟩
      ·rw [if_neg c6] at H
       exact absurd H (by simp)
     ·rw [if_neg c5] at H
      exact absurd H (by simp)
    ·rw [if_neg c4] at H
     have ac : decide (a2 < (l0.length : Int)) = false := decide_eq_false c4; clear c4; obtain rfl := Option.some.inj H
     go_wp2
     repeat (go_quiet (fail); try go_wp2)
     go_ret
     exact ⟨Ye1, dz⟩
 ·rw [if_neg c3] at H
  have a9 : ((l0.length : Int) == (l1.length : Int)) = false := beq_eq_false_iff_ne.mpr c3; have aa : ((l0.length : Int) != (l1.length : Int)) = true := bne_iff_ne.mpr c3
  have ab : (l0.length == l1.length) = false := by first | simpa using c3 | (simp at c3 ⊢; omega)
  obtain rfl := Option.some.inj H
  go_enter Try.func13, Try.ntmps13
  go_wp2
  repeat (go_quiet (fail); try go_wp2)
  go_ret
  exact ⟨Ye1, dz⟩

end Go.Proofs.Ytknagppkeodggaa.P


namespace Go.Proofs.Ytknagppkeodggaa.P
open Go.RowKit Go.Proofs.YtknagppkeodggaaW.PrintWords Go.Proofs.YtknagppkeodggaaW.PrintLast Go.Proofs.YtknagppkeodggaaW.PrintMore
attribute [local go_sem] max2_int min2_int max_two min_two max_three min_three max_four min_four
set_option linter.unusedVariables false
set_option linter.unusedSimpArgs false

/-! ### laws_wDecoder: function 6 -/
def laws_wDecoder.f (k : Nat) (a0_0 : Int) (a0_1 : ByteArray) (ac : List ByteArray) (a0_3 : Bool) (a1_0 : Int) (a1_1 : ByteArray) (ad : List ByteArray) (a1_3 : Bool) : Option (Bool) := if a0_0 = a1_0 then (if a0_1.toList = a1_1.toList then (if (a0_3 == a1_3) = true then ((laws_wTexts.f k ac ad).bind fun an => (some an)) else (some false)) else (some false)) else (some false)
theorem laws_wDecoder.mono : ∀ a0 a1 a2 a3 a4 a5 a6 a7 k, LeO (laws_wDecoder.f k a0 a1 a2 a3 a4 a5 a6 a7) (laws_wDecoder.f (k + 1) a0 a1 a2 a3 a4 a5 a6 a7) := by
 intro a0 a1 a2 a3 a4 a5 a6 a7 k
 unfold laws_wDecoder.f
 repeat' first
   | (with_reducible exact laws_wTexts.mono _ _ _)
   | (with_reducible exact LeO.refl _)
   | (with_reducible exact LeO.none _)
   | (with_reducible refine LeO.ite ?_ ?_)
   | (with_reducible refine LeO.bind ?_ (fun _ => ?_))
   | exact laws_wTexts.mono _ _ _
   | exact LeO.none _
   | refine LeO.ite ?_ ?_
   | refine LeO.bind ?_ (fun _ => ?_)
set_option maxHeartbeats 8000000 in
set_option maxRecDepth 100000 in
theorem laws_wDecoder.calls (k : Nat) (a0_0 : Int) (a0_1 : ByteArray) (ae : Option Addr) (af : Nat) (ac : List ByteArray) (a0_3 : Bool) (a1_0 : Int) (a1_1 : ByteArray) (ag : Option Addr) (ah : Nat) (ad : List ByteArray) (a1_3 : Bool) (r : Bool) (w : World) (au : Kd.C Kd.string w ae ac.length ac) (av : ac.length ≤ af) (aw : Kd.C Kd.string w ag ad.length ad) (ax : ad.length ≤ ah) (h : laws_wDecoder.f k a0_0 a0_1 ac a0_3 a1_0 a1_1 ad a1_3 = some r) :
  Calls Try.prog 6 #[.agg #[.int .i64 a0_0, .string a0_1, .slice ae ac.length af, .bool a0_3], .agg #[.int .i64 a1_0, .string a1_1, .slice ag ad.length ah, .bool a1_3]] w fun e w' => e = .returned (.bool r) ∧ Below w.heap.size w w' := by
 have hu25 := Try.underlying25; have ay := Aside0.mk au; have az := Aside0.mk av; clear au av; have aA := Aside0.mk aw; have aB := Aside0.mk ax; clear aw ax; have HB := Aside0.mk (Below.refl w.heap.size w); have H : (if a0_0 = a1_0 then (if a0_1.toList = a1_1.toList then (if (a0_3 == a1_3) = true then ((laws_wTexts.f k ac ad).bind fun an => (some an)) else (some false)) else (some false)) else (some false)) = some r := h; clear h
 by_cases c3 : a0_0 = a1_0
 ·rw [if_pos c3] at H
  have aC : (a0_0 == a1_0) = true := beq_iff_eq.mpr c3; have aD : (a0_0 != a1_0) = false := bne_eq_false_iff_eq.mpr c3; clear c3
  by_cases c4 : a0_1.toList = a1_1.toList
  ·rw [if_pos c4] at H
   have aE : (a0_1.toList == a1_1.toList) = true := beq_iff_eq.mpr c4; have aF : (a0_1.toList != a1_1.toList) = false := bne_eq_false_iff_eq.mpr c4; clear c4
   by_cases c5 : (a0_3 == a1_3) = true
   ·rw [if_pos c5] at H
    have aG : (a0_3 == a1_3) = true := c5; (try (have aH : decide (a0_3 = a1_3) = true := by simpa using c5)); (try (have aI : (a0_3 == a1_3) = true := by simpa using c5)); clear c5; replace H := Option.bind_eq_some_iff.mp H; obtain ⟨an, A60, H⟩ := H; replace H : (some an) = some r := H; have A6 := Aside0.mk A60; clear A60; obtain rfl := Option.some.inj H
    go_enter Try.func6, Try.ntmps6
    go_wp2_with (first | ((with_reducible refine gd 2 rfl ?_); refine bx 2 25 (#[.int .i64 a0_0, .string a0_1, .slice ae ac.length af, .bool a0_3]) ?_; intro aa hg w7 hbox hb; refine Ya4 (below_step (be HB.out) hb) (hbox) (bs hg (be HB.out)) (bs hg (be HB.out)) ?_; clear HB; intro HB a8 ao ap; clear hb hbox hg) | ((with_reducible refine gd 3 rfl ?_); refine bx 3 25 (#[.int .i64 a1_0, .string a1_1, .slice ag ad.length ah, .bool a1_3]) ?_; intro ab hg w8 hbox hb; refine Ya7 (bb a8 hb) (below_step (bf HB.out) hb) (hbox) (bs hg (bf HB.out)) (bs hg (bf HB.out)) (bl hg a8) (br hg a8) ?_; clear a8 HB; intro a8 HB a9 aq ar al am; clear hb hbox hg; have hnb9 := al.out; have hnc9 := am.out; have aJ : w8.cell? ⟨aa, 0, none⟩ = some (.int .i64 a0_0) := bc a8 0; have aK : w8.cell? ⟨aa, 1, none⟩ = some (.string a0_1) := bc a8 1; have aL : w8.cell? ⟨aa, 2, none⟩ = some (.slice ae ac.length af) := bc a8 2; have aM : w8.cell? ⟨aa, 3, none⟩ = some (.bool a0_3) := bc a8 3; have aN := blk_frozen a8.out 0; have aO := blk_frozen a8.out 1; have aP := blk_frozen a8.out 2; have aQ := blk_frozen a8.out 3; have aR : w8.cell? ⟨ab, 0, none⟩ = some (.int .i64 a1_0) := bc a9 0; have aS : w8.cell? ⟨ab, 1, none⟩ = some (.string a1_1) := bc a9 1; have aT : w8.cell? ⟨ab, 2, none⟩ = some (.slice ag ad.length ah) := bc a9 2; have aU : w8.cell? ⟨ab, 3, none⟩ = some (.bool a1_3) := bc a9 3; have aV := blk_frozen a9.out 0; have aW := blk_frozen a9.out 1; have aX := blk_frozen a9.out 2; have aY := blk_frozen a9.out 3) | (go_at_call 13; (with_reducible refine (laws_wTexts.calls k _ _ ac _ _ ad an _ ?side1 ?side2 ?side3 ?side4 A6.out).mono ?_); (case side1 => exact cb (Kd.C_below ay.out HB.out)); (case side2 => exact az.out); (case side3 => exact cb (Kd.C_below aA.out HB.out)); (case side4 => exact aB.out); rintro e w' ⟨rfl, ⟨nd, rfl⟩⟩))
    go_ret
    exact ⟨Ye2, (bf HB.out)⟩
   ·rw [if_neg c5] at H
    have aG : (a0_3 == a1_3) = false := by simpa using c5
    (try (have aH : decide (a0_3 = a1_3) = false := by simpa using c5)); (try (have aI : (a0_3 == a1_3) = false := by simpa using c5)); (try (have c5b3 : ¬ (a0_3 = a1_3) := by simpa using c5)); clear c5; obtain rfl := Option.some.inj H
    go_enter Try.func6, Try.ntmps6
    go_wp2_with (first | ((with_reducible refine gd 2 rfl ?_); refine bx 2 25 (#[.int .i64 a0_0, .string a0_1, .slice ae ac.length af, .bool a0_3]) ?_; intro aa hg w12 hbox hb; refine Ya4 (below_step (be HB.out) hb) (hbox) (bs hg (be HB.out)) (bs hg (be HB.out)) ?_; clear HB; intro HB a8 ao ap; clear hb hbox hg) | ((with_reducible refine gd 3 rfl ?_); refine bx 3 25 (#[.int .i64 a1_0, .string a1_1, .slice ag ad.length ah, .bool a1_3]) ?_; intro ab hg ai hbox hb; refine Ya7 (bb a8 hb) (below_step (bf HB.out) hb) (hbox) (bs hg (bf HB.out)) (bs hg (bf HB.out)) (bl hg a8) (br hg a8) ?_; clear a8 HB; intro a8 HB a9 aq ar al am; clear hb hbox hg; have hnb14 := al.out; have hnc14 := am.out; have aZ : ai.cell? ⟨aa, 0, none⟩ = some (.int .i64 a0_0) := bc a8 0; have b0 : ai.cell? ⟨aa, 1, none⟩ = some (.string a0_1) := bc a8 1; have b1 : ai.cell? ⟨aa, 2, none⟩ = some (.slice ae ac.length af) := bc a8 2; have b2 : ai.cell? ⟨aa, 3, none⟩ = some (.bool a0_3) := bc a8 3; have b3 := blk_frozen a8.out 0; have b4 := blk_frozen a8.out 1; have b5 := blk_frozen a8.out 2; have b6 := blk_frozen a8.out 3; have b7 : ai.cell? ⟨ab, 0, none⟩ = some (.int .i64 a1_0) := bc a9 0; have b8 : ai.cell? ⟨ab, 1, none⟩ = some (.string a1_1) := bc a9 1; have b9 : ai.cell? ⟨ab, 2, none⟩ = some (.slice ag ad.length ah) := bc a9 2; have ba : ai.cell? ⟨ab, 3, none⟩ = some (.bool a1_3) := bc a9 3; have bd := blk_frozen a9.out 0; have bg := blk_frozen a9.out 1; have bh := blk_frozen a9.out 2; have bi := blk_frozen a9.out 3))
    go_ret
    exact ⟨Ye2, (bf HB.out)⟩
  ·rw [if_neg c4] at H
   have aE : (a0_1.toList == a1_1.toList) = false := beq_eq_false_iff_ne.mpr c4; have aF : (a0_1.toList != a1_1.toList) = true := bne_iff_ne.mpr c4; obtain rfl := Option.some.inj H
   go_enter Try.func6, Try.ntmps6
   go_wp2_with (first | ((with_reducible refine gd 2 rfl ?_); refine bx 2 25 (#[.int .i64 a0_0, .string a0_1, .slice ae ac.length af, .bool a0_3]) ?_; intro aa hg w17 hbox hb; refine Ya4 (below_step (be HB.out) hb) (hbox) (bs hg (be HB.out)) (bs hg (be HB.out)) ?_; clear HB; intro HB a8 ao ap; clear hb hbox hg) | ((with_reducible refine gd 3 rfl ?_); refine bx 3 25 (#[.int .i64 a1_0, .string a1_1, .slice ag ad.length ah, .bool a1_3]) ?_; intro ab hg aj hbox hb; refine Ya7 (bb a8 hb) (below_step (bf HB.out) hb) (hbox) (bs hg (bf HB.out)) (bs hg (bf HB.out)) (bl hg a8) (br hg a8) ?_; clear a8 HB; intro a8 HB a9 aq ar al am; clear hb hbox hg; have hnb19 := al.out; have hnc19 := am.out; have bj : aj.cell? ⟨aa, 0, none⟩ = some (.int .i64 a0_0) := bc a8 0; have bm : aj.cell? ⟨aa, 1, none⟩ = some (.string a0_1) := bc a8 1; have bn : aj.cell? ⟨aa, 2, none⟩ = some (.slice ae ac.length af) := bc a8 2; have bo : aj.cell? ⟨aa, 3, none⟩ = some (.bool a0_3) := bc a8 3; have bq := blk_frozen a8.out 0; have bu := blk_frozen a8.out 1; have bv := blk_frozen a8.out 2; have bw := blk_frozen a8.out 3; have bz : aj.cell? ⟨ab, 0, none⟩ = some (.int .i64 a1_0) := bc a9 0; have bA : aj.cell? ⟨ab, 1, none⟩ = some (.string a1_1) := bc a9 1; have bB : aj.cell? ⟨ab, 2, none⟩ = some (.slice ag ad.length ah) := bc a9 2; have bC : aj.cell? ⟨ab, 3, none⟩ = some (.bool a1_3) := bc a9 3; have bD := blk_frozen a9.out 0; have bE := blk_frozen a9.out 1; have bF := blk_frozen a9.out 2; have bG := blk_frozen a9.out 3))
   go_ret
   exact ⟨Ye2, (bf HB.out)⟩
 ·rw [if_neg c3] at H
  have aC : (a0_0 == a1_0) = false := beq_eq_false_iff_ne.mpr c3; have aD : (a0_0 != a1_0) = true := bne_iff_ne.mpr c3; obtain rfl := Option.some.inj H
  go_enter Try.func6, Try.ntmps6
  go_wp2_with (first | ((with_reducible refine gd 2 rfl ?_); refine bx 2 25 (#[.int .i64 a0_0, .string a0_1, .slice ae ac.length af, .bool a0_3]) ?_; intro aa hg w22 hbox hb; refine Ya4 (below_step (be HB.out) hb) (hbox) (bs hg (be HB.out)) (bs hg (be HB.out)) ?_; clear HB; intro HB a8 ao ap; clear hb hbox hg) | ((with_reducible refine gd 3 rfl ?_); refine bx 3 25 (#[.int .i64 a1_0, .string a1_1, .slice ag ad.length ah, .bool a1_3]) ?_; intro ab hg ak hbox hb; refine Ya7 (bb a8 hb) (below_step (bf HB.out) hb) (hbox) (bs hg (bf HB.out)) (bs hg (bf HB.out)) (bl hg a8) (br hg a8) ?_; clear a8 HB; intro a8 HB a9 aq ar al am; clear hb hbox hg; have hnb24 := al.out; have hnc24 := am.out; have bH : ak.cell? ⟨aa, 0, none⟩ = some (.int .i64 a0_0) := bc a8 0; have bI : ak.cell? ⟨aa, 1, none⟩ = some (.string a0_1) := bc a8 1; have bJ : ak.cell? ⟨aa, 2, none⟩ = some (.slice ae ac.length af) := bc a8 2; have bK : ak.cell? ⟨aa, 3, none⟩ = some (.bool a0_3) := bc a8 3; have bL := blk_frozen a8.out 0; have bM := blk_frozen a8.out 1; have bN := blk_frozen a8.out 2; have bO := blk_frozen a8.out 3; have bP : ak.cell? ⟨ab, 0, none⟩ = some (.int .i64 a1_0) := bc a9 0; have bQ : ak.cell? ⟨ab, 1, none⟩ = some (.string a1_1) := bc a9 1; have bR : ak.cell? ⟨ab, 2, none⟩ = some (.slice ag ad.length ah) := bc a9 2; have bS : ak.cell? ⟨ab, 3, none⟩ = some (.bool a1_3) := bc a9 3; have bT := blk_frozen a9.out 0; have bU := blk_frozen a9.out 1; have bV := blk_frozen a9.out 2; have bW := blk_frozen a9.out 3))
  go_ret
  exact ⟨Ye2, (bf HB.out)⟩

end Go.Proofs.Ytknagppkeodggaa.P


namespace Go.Proofs.Ytknagppkeodggaa.P
open Go.RowKit Go.Proofs.YtknagppkeodggaaW.PrintWords Go.Proofs.YtknagppkeodggaaW.PrintLast Go.Proofs.YtknagppkeodggaaW.PrintMore
attribute [local go_sem] max2_int min2_int max_two min_two max_three min_three max_four min_four
set_option linter.unusedVariables false
set_option linter.unusedSimpArgs false

/-! ### spec_l1Many: function 26 -/
def spec_l1Many.l0 : Nat → ByteArray → Int → ByteArray → Option (ByteArray)
 | 0, _, _, _ => none
 | k + 1, x0, x1, x5 => if x1 > 0 then (if (Int.tmod x1 2) = 1 then (if x5.size + x0.size ≤ 9223372036854775807 then (if x0.size + x0.size ≤ 9223372036854775807 then (spec_l1Many.l0 k (x0 ++ x0) (wrap64 (Int.tdiv x1 2)) (x5 ++ x0)) else (none)) else (none)) else (if x0.size + x0.size ≤ 9223372036854775807 then (spec_l1Many.l0 k (x0 ++ x0) (wrap64 (Int.tdiv x1 2)) x5) else (none))) else (some x5)
def spec_l1Many.f (k : Nat) (a0 : ByteArray) (a1 : Int) : Option (ByteArray) := spec_l1Many.l0 k a0 a1 (⟨#[]⟩ : ByteArray)
theorem spec_l1Many.mono_l : ∀ k, (∀ y0 y1 y2, LeO (spec_l1Many.l0 k y0 y1 y2) (spec_l1Many.l0 (k + 1) y0 y1 y2))
 | 0 => fun _ _ _ r h => by simp [spec_l1Many.l0] at h
 | k + 1 => by
  have ih0 := spec_l1Many.mono_l k
  ·intro y0 y1 y2
   unfold spec_l1Many.l0
   repeat' first
   | (with_reducible exact ih0 _ _ _)
   | (with_reducible exact LeO.refl _)
   | (with_reducible exact LeO.none _)
   | (with_reducible refine LeO.ite ?_ ?_)
   | (with_reducible refine LeO.bind ?_ (fun _ => ?_))
   | exact ih0 _ _ _
   | exact LeO.none _
   | refine LeO.ite ?_ ?_
   | refine LeO.bind ?_ (fun _ => ?_)
theorem spec_l1Many.mono : ∀ a0 a1 k, LeO (spec_l1Many.f k a0 a1) (spec_l1Many.f (k + 1) a0 a1) := by
 intro a0 a1 k; have ih0 := spec_l1Many.mono_l k
 unfold spec_l1Many.f
 repeat' first
   | (with_reducible exact ih0 _ _ _)
   | (with_reducible exact LeO.refl _)
   | (with_reducible exact LeO.none _)
   | (with_reducible refine LeO.ite ?_ ?_)
   | (with_reducible refine LeO.bind ?_ (fun _ => ?_))
   | exact ih0 _ _ _
   | exact LeO.none _
   | refine LeO.ite ?_ ?_
   | refine LeO.bind ?_ (fun _ => ?_)
set_option maxHeartbeats 8000000 in
set_option maxRecDepth 100000 in
theorem spec_l1Many.calls (k : Nat) (a0 : ByteArray) (a1 : Int) (r : ByteArray) (w : World) (h : spec_l1Many.f k a0 a1 = some r) :
  Calls Try.prog 26 #[.string a0, .int .i64 a1] w fun e w' => e = .returned (.string r) ∧ Drawn0 w w' := by
 have H : (spec_l1Many.l0 k a0 a1 (⟨#[]⟩ : ByteArray)) = some r := h; clear h; have H' := Aside0.mk H; clear H
 go_enter Try.func26, Try.ntmps26
 go_wp2
 go_loopg [0, 1, 5] k (fun kq v0 v1 v5 w' => ∃ (a2 : ByteArray) (a3 : Int) (a4 : ByteArray), v0 = .string a2 ∧ v1 = .int .i64 a3 ∧ v5 = .string a4 ∧ Aside0 (spec_l1Many.l0 kq a2 a3 a4 = some r) ∧ Aside0 (kq ≤ k) ∧ Drawn0 w w')
 case atStart => exact ⟨(a0), (a1), ((⟨#[]⟩ : ByteArray)), Ye1, Ye1, Ye1, H', ⟨Nat.le_refl _⟩, dz⟩
 case round =>
  clear H'; (try clear c2); (try clear p2); obtain ⟨a2, a3, a4, rfl, rfl, rfl, HA, HK1, ⟨m1, rfl⟩⟩ := hrel
  cases gk with
  | zero => exact absurd HA.out (by simp [spec_l1Many.l0])
  | succ k1 =>
   have H := HA.out; clear HA; simp only [spec_l1Many.l0] at H
   by_cases c3 : a3 > 0
   ·rw [if_pos c3] at H
    have a5 : decide (0 < a3) = true := decide_eq_true c3; clear c3
    by_cases c4 : (Int.tmod a3 2) = 1
    ·rw [if_pos c4] at H
     have a6 : ((Int.tmod a3 2) == 1) = true := beq_iff_eq.mpr c4; have a7 : ((Int.tmod a3 2) != 1) = false := bne_eq_false_iff_eq.mpr c4; clear c4
     by_cases c5 : a4.size + a2.size ≤ 9223372036854775807
     ·rw [if_pos c5] at H
      have c5b0 := eq_true c5; have c5b1 : decide (a4.size + a2.size ≤ 9223372036854775807) = true := decide_eq_true c5
      try have c5b2 : (9223372036854775807 < a4.size + a2.size) = False := eq_false (Nat.not_lt.2 c5)
      by_cases c6 : a2.size + a2.size ≤ 9223372036854775807
      ·rw [if_pos c6] at H
       have c6b0 := eq_true c6; have c6b1 : decide (a2.size + a2.size ≤ 9223372036854775807) = true := decide_eq_true c6
       try have c6b2 : (9223372036854775807 < a2.size + a2.size) = False := eq_false (Nat.not_lt.2 c6)
       have H' := Aside0.mk H; clear H
       go_wp2
       go_roundg k1
       case measure => have := HK1.out; omega
       case rel => exact ⟨(a2 ++ a2), (wrap64 (Int.tdiv a3 2)), (a4 ++ a2), Ye1, Ye1, Ye1, H', ⟨by have := HK1.out; omega⟩, dz⟩
      ·rw [if_neg c6] at H
       exact absurd H (by simp)
     ·rw [if_neg c5] at H
      exact absurd H (by simp)
    ·rw [if_neg c4] at H
     have a6 : ((Int.tmod a3 2) == 1) = false := beq_eq_false_iff_ne.mpr c4; have a7 : ((Int.tmod a3 2) != 1) = true := bne_iff_ne.mpr c4
     by_cases c7 : a2.size + a2.size ≤ 9223372036854775807
     ·rw [if_pos c7] at H
      have c7b0 := eq_true c7; have c7b1 : decide (a2.size + a2.size ≤ 9223372036854775807) = true := decide_eq_true c7
      try have c7b2 : (9223372036854775807 < a2.size + a2.size) = False := eq_false (Nat.not_lt.2 c7)
      have H' := Aside0.mk H; clear H
      go_wp2
      go_roundg k1
      case measure => have := HK1.out; omega
      case rel => exact ⟨(a2 ++ a2), (wrap64 (Int.tdiv a3 2)), (a4), Ye1, Ye1, Ye1, H', ⟨by have := HK1.out; omega⟩, dz⟩
     ·rw [if_neg c7] at H
      exact absurd H (by simp)
   ·rw [if_neg c3] at H
    have a5 : decide (0 < a3) = false := decide_eq_false c3; clear c3; obtain rfl := Option.some.inj H
    go_wp2
    go_ret
    exact ⟨Ye1, dz⟩

end Go.Proofs.Ytknagppkeodggaa.P


namespace Go.Proofs.Ytknagppkeodggaa.P
open Go.RowKit Go.Proofs.YtknagppkeodggaaW.PrintWords Go.Proofs.YtknagppkeodggaaW.PrintLast Go.Proofs.YtknagppkeodggaaW.PrintMore
attribute [local go_sem] max2_int min2_int max_two min_two max_three min_three max_four min_four
set_option linter.unusedVariables false
set_option linter.unusedSimpArgs false

/-- A state of type 62 at block g of W; what its slices lead to came in by w0. -/
def IsS62 (w0 W : World) (g : Nat) (f0 : List Int) (f1 : Int) : Prop := ∃ A0 c0, W.heap[g]? = some (.cells #[.slice A0 f0.length c0, .int .i64 f1] 62 (0, 0)) ∧ w0.heap.size ≤ g ∧ Kd.C (Kd.int .u8) w0 A0 f0.length f0
theorem IsS62.grown {w0 W : World} {g : Nat} {f0 : List Int} {f1 : Int} {W1 : World} {row : Option Nat} (h : IsS62 w0 W g f0 f1) (hw : W.grownBy W1 row) (hne : some g ≠ row) : IsS62 w0 W1 g f0 f1 := by
 obtain ⟨A0, c0, hb, hg, hr0⟩ := h
 exact ⟨A0, c0, blk_grown hb hw hne, hg, hr0⟩
theorem IsS62.own_neN {w0 W : World} {g : Nat} {f0 : List Int} {f1 : Int} {α : Type} {d : Kd α} {e : Nat} {base : Nat} {ok : Nat → Prop} {v : Value} {xs : List α} (h : IsS62 w0 W g f0 f1) (ho : Kd.N d e W base ok v xs) (ht : e ≠ 62) : some g ≠ v.ownBlock := by
 obtain ⟨A0, c0, hb, hg, hr0⟩ := h
 exact Kd.N_ne ho hb ht
theorem IsS62.fresh {w0 W : World} {g : Nat} {f0 : List Int} {f1 : Int} (h : IsS62 w0 W g f0 f1) : ∀ k, W.heap.size ≤ k → k ≠ g := by
 obtain ⟨A0, c0, hb, hg, hr0⟩ := h
 exact Kd.freshB hb
theorem IsS62.kept {w0 W : World} {g : Nat} {f0 : List Int} {f1 : Int} {W1 : World} {S : Nat → Prop} (h : IsS62 w0 W g f0 f1) (hk : Kept W W1 S) (hne : ¬ S g) : IsS62 w0 W1 g f0 f1 := by
 obtain ⟨A0, c0, hb, hg, hr0⟩ := h
 exact ⟨A0, c0, blk_kept hb hk hne, hg, hr0⟩
theorem IsS62.below {w0 W : World} {g : Nat} {f0 : List Int} {f1 : Int} {W1 : World} (h : IsS62 w0 W g f0 f1) (hw : Below W.heap.size W W1) : IsS62 w0 W1 g f0 f1 := h.grown (grown_of_below hw none) (by simp)
theorem IsS62.alloc {w0 W : World} {g : Nat} {f0 : List Int} {f1 : Int} (h : IsS62 w0 W g f0 f1) (o : Obj) : IsS62 w0 (W.alloc o) g f0 f1 := h.below (below_alloc (Below.refl _ _) o)
theorem IsS62.drewN {w0 W : World} {g : Nat} {f0 : List Int} {f1 : Int} (h : IsS62 w0 W g f0 f1) (m : Nat) : IsS62 w0 (W.drewN m) g f0 f1 := h
theorem IsS62.drew {w0 W : World} {g : Nat} {f0 : List Int} {f1 : Int} (h : IsS62 w0 W g f0 f1) : IsS62 w0 W.drew g f0 f1 := h
theorem IsS62.at_ {w0 W : World} {g : Nat} {f0 : List Int} {f1 : Int} {w' : World} {m : Nat} (hq : W.drewN m = w') (h : IsS62 w0 W g f0 f1) : IsS62 w0 w' g f0 f1 := by subst hq; exact IsS62.drewN h m
theorem IsS62.apart {w0 W : World} {g : Nat} {f0 : List Int} {f1 : Int} {α : Type} {d : Kd α} {e : Nat} {base : Nat} {ok : Nat → Prop} {v : Value} {xs : List α} (h : IsS62 w0 W g f0 f1) (ho : d.R e W base ok v xs) (ht : ∀ q, q ∈ e :: d.E → q ≠ 62) : d.R e W base (fun k => ok k ∧ k ≠ g) v xs := by
 obtain ⟨A0, c0, hb, hg, hr0⟩ := h
 exact Kd.R_types ho hb ht
theorem IsS62.own_ne {w0 W : World} {g : Nat} {f0 : List Int} {f1 : Int} {α : Type} {d : Kd α} {e : Nat} {base : Nat} {ok : Nat → Prop} {v : Value} {xs : List α} (h : IsS62 w0 W g f0 f1) (ho : d.R e W base ok v xs) (ht : e ≠ 62) : some g ≠ v.ownBlock := by
 obtain ⟨A0, c0, hb, hg, hr0⟩ := h
 exact Kd.R_ne ho hb ht
theorem IsS62.apartQ {w0 W : World} {g : Nat} {f0 : List Int} {f1 : Int} {α : Type} {d : Kd α} {e : Nat} {base : Nat} {ok : Nat → Prop} {v : Value} {xs : List α} (h : IsS62 w0 W g f0 f1) (ho : d.Q e W base ok v xs) (ht : ∀ q, q ∈ e :: d.E → q ≠ 62) : d.Q e W base (fun k => ok k ∧ k ≠ g) v xs := by
 obtain ⟨A0, c0, hb, hg, hr0⟩ := h
 exact Kd.Q_types ho hb ht
theorem IsS62.own_neQ {w0 W : World} {g : Nat} {f0 : List Int} {f1 : Int} {α : Type} {d : Kd α} {e : Nat} {base : Nat} {ok : Nat → Prop} {v : Value} {xs : List α} (h : IsS62 w0 W g f0 f1) (ho : d.Q e W base ok v xs) (ht : e ≠ 62) : some g ≠ v.ownBlock := by
 obtain ⟨A0, c0, hb, hg, hr0⟩ := h
 exact Kd.Q_ne ho hb ht
theorem IsS62.apartS {w0 W : World} {g : Nat} {f0 : List Int} {f1 : Int} {α : Type} {d : Kd α} {e : Nat} {base : Nat} {ok : Nat → Prop} {v : Value} {xs : List α} (h : IsS62 w0 W g f0 f1) (ho : d.S e W base ok v xs) (ht : ∀ q, q ∈ e :: d.E → q ≠ 62) : d.S e W base (fun k => ok k ∧ k ≠ g) v xs := by
 obtain ⟨A0, c0, hb, hg, hr0⟩ := h
 exact Kd.S_types ho hb ht
theorem IsS62.own_neS {w0 W : World} {g : Nat} {f0 : List Int} {f1 : Int} {α : Type} {d : Kd α} {e : Nat} {base : Nat} {ok : Nat → Prop} {v : Value} {xs : List α} (h : IsS62 w0 W g f0 f1) (ho : d.S e W base ok v xs) (ht : e ≠ 62) : some g ≠ v.ownBlock := by
 obtain ⟨A0, c0, hb, hg, hr0⟩ := h
 exact Kd.S_ne ho hb ht
theorem IsS62.lt {w0 W : World} {g : Nat} {f0 : List Int} {f1 : Int} (h : IsS62 w0 W g f0 f1) : g < W.heap.size := by
 obtain ⟨A0, c0, hb, hg, hr0⟩ := h
 exact blk_lt hb
theorem IsS62.ge {w0 W : World} {g : Nat} {f0 : List Int} {f1 : Int} (h : IsS62 w0 W g f0 f1) : w0.heap.size ≤ g := by
 obtain ⟨A0, c0, hb, hg, hr0⟩ := h
 exact hg
theorem IsS62.ne_blk {w0 W : World} {g : Nat} {f0 : List Int} {f1 : Int} {a : Nat} {cs : Array Value} {t : TypeId} {fr : Nat × Nat} (h : IsS62 w0 W g f0 f1) (hb2 : W.heap[a]? = some (.cells cs t fr)) (ht : t ≠ 62) : g ≠ a := by
 obtain ⟨A0, c0, hb, hg, hr0⟩ := h
 rintro rfl
 rw [hb] at hb2
 injection hb2 with hb2
 injection hb2 with _ ht2
 exact ht ht2.symm
theorem IsS62.far {w0 W : World} {g : Nat} {f0 : List Int} {f1 : Int} {p : Addr} (h : IsS62 w0 W g f0 f1) (hne : g ≠ p.block) (u : Value) : IsS62 w0 (W.setCell p u) g f0 f1 := by
 obtain ⟨A0, c0, hb, hg, hr0⟩ := h
 exact ⟨A0, c0, blk_far hb hne u, hg, hr0⟩
theorem cellS62_0 {W : World} {g : Nat} {A0 : Option Addr} {c0 : Nat} {f0 : List Int} {f1 : Int} (h : W.heap[g]? = some (.cells #[.slice A0 f0.length c0, .int .i64 f1] 62 (0, 0))) : W.cell? ⟨g, 0, none⟩ = some (.slice A0 f0.length c0) := (blk_cell h 0).trans rfl
theorem cellS62_1 {W : World} {g : Nat} {A0 : Option Addr} {c0 : Nat} {f0 : List Int} {f1 : Int} (h : W.heap[g]? = some (.cells #[.slice A0 f0.length c0, .int .i64 f1] 62 (0, 0))) : W.cell? ⟨g, 1, none⟩ = some (.int .i64 f1) := (blk_cell h 1).trans rfl
theorem IsS62.set_1 {w0 W : World} {g : Nat} {f0 : List Int} {f1 : Int} (h : IsS62 w0 W g f0 f1) (x : Int) : IsS62 w0 (W.setCell ⟨g, 1, none⟩ (.int .i64 x)) g f0 x := by
 obtain ⟨A0, c0, hb, hg, hr0⟩ := h
 exact ⟨A0, c0, by simpa using blk_set hb 1 (.int .i64 x), hg, hr0⟩
theorem IsS62.new (w0 W : World) (A0 : Option Addr) (c0 : Nat) (f0 : List Int) (f1 : Int) (hB : Below w0.heap.size w0 W) (hr0 : Kd.C (Kd.int .u8) w0 A0 f0.length f0) : IsS62 w0 (W.alloc (.cells #[.slice A0 f0.length c0, .int .i64 f1] 62)) W.heap.size f0 f1 := ⟨A0, c0, by simpa using heap_alloc_new W _, hB.size, hr0⟩

/-! ### spec_l1Open: function 14 -/
def spec_l1Open.f (l0 : List Int) : Option (List Int × Int) := if (l0.length : Int) > 2000 then (if 2000 ≤ (l0.length : Int) then (some (l0.take 2000, 0)) else (none)) else (some (l0, 0))
set_option maxHeartbeats 8000000 in
set_option maxRecDepth 100000 in
theorem spec_l1Open.calls (A0 : Option Addr) (c0 : Nat) (l0 : List Int) (r1 : List Int) (r2 : Int) (w0 w : World) (hB : Below w0.heap.size w0 w) (hr0 : Kd.C (Kd.int .u8) w0 A0 l0.length l0) (hc0 : l0.length ≤ c0) (h : spec_l1Open.f l0 = some (r1, r2)) :
  Calls Try.prog 14 #[.slice A0 l0.length c0] w fun e w' => ∃ g_ : Nat, e = .returned (.pointer (some ⟨g_, 0, none⟩)) ∧ IsS62 w0 w' g_ r1 r2 ∧ Below w0.heap.size w0 w' ∧ Below w.heap.size w w' := by
 have hu62 := Try.underlying62; have HR0 := Aside0.mk hr0; have HC0 := Aside0.mk hc0; clear hr0 hc0; have HBW := Aside0.mk (Below.refl w.heap.size w); have HW0 := Aside0.mk hB.size; have HB := Aside0.mk hB; clear hB; have H : (if (l0.length : Int) > 2000 then (if 2000 ≤ (l0.length : Int) then (some (l0.take 2000, 0)) else (none)) else (some (l0, 0))) = some (r1, r2) := h; clear h
 by_cases c2 : (l0.length : Int) > 2000
 ·rw [if_pos c2] at H
  have a4 : decide (2000 < (l0.length : Int)) = true := decide_eq_true c2; have a5 : decide (2000 < l0.length) = true := decide_eq_true (by omega); clear c2
  by_cases c3 : 2000 ≤ (l0.length : Int)
  ·rw [if_pos c3] at H
   have c3b0 := eq_true c3; have c3b1 : decide (2000 ≤ (l0.length : Int)) = true := decide_eq_true c3; clear c3; simp only [Option.some.injEq, Prod.mk.injEq] at H; obtain ⟨rfl, rfl⟩ := H; obtain ⟨i04, hi04, _, hsz4, _⟩ := info_parts info5; obtain ⟨hcut4, hA4, hC4⟩ := print_take_of (P := Try.prog) (Value.int .u8) 0 22 5 .i64 Try.underlying22 hi04 hsz4 A0 c0 l0 2000 (by omega) (oda) HC0.out; have a6 := Aside0.mk (Kd.C_of_reads (h1 := fun _ => rfl) (hA4 _ (Kd.reads_of_C HR0.out))); have HC157 := Aside0.mk hC4; clear hA4 hC4 hi04 hsz4
   go_enter Try.func14, Try.ntmps14
   go_wp2_with (first | ((with_reducible refine gd 10 rfl ?_); refine bx 10 62 (#[.slice A0 (l0.take 2000).length c0, .int .i64 0]) ?_; intro a0 hg w5 hbox hb; refine Ya5 (below_step HBW.out hb) (below_step (be HB.out) hb) (hbox) (bs hg (be HBW.out)) ((Nat.le_trans HW0.out (bs hg (be HBW.out)) : w0.heap.size ≤ a0)) ?_; clear HBW HB; intro HBW HB a7 a8 a1; clear hb hbox hg))
   go_ret
   exact ⟨_, rfl, (show IsS62 w0 _ a0 (l0.take 2000) 0 from ⟨_, _, bk a7.out, a1.out, a6.out⟩), (by first | exact be1 HB.out a1.out | exact be HB.out), (by first | exact be1 HBW.out a8.out | exact be HBW.out)⟩
  ·rw [if_neg c3] at H
   exact absurd H (by simp)
 ·rw [if_neg c2] at H
  have a4 : decide (2000 < (l0.length : Int)) = false := decide_eq_false c2; have a5 : decide (2000 < l0.length) = false := decide_eq_false (by omega); clear c2; simp only [Option.some.injEq, Prod.mk.injEq] at H; obtain ⟨rfl, rfl⟩ := H
  go_enter Try.func14, Try.ntmps14
  go_wp2_with (first | ((with_reducible refine gd 10 rfl ?_); refine bx 10 62 (#[.slice A0 l0.length c0, .int .i64 0]) ?_; intro a2 hg w6 hbox hb; refine Ya5 (below_step HBW.out hb) (below_step (be HB.out) hb) (hbox) (bs hg (be HBW.out)) ((Nat.le_trans HW0.out (bs hg (be HBW.out)) : w0.heap.size ≤ a2)) ?_; clear HBW HB; intro HBW HB a9 aa a3; clear hb hbox hg))
  go_ret
  exact ⟨_, rfl, (show IsS62 w0 _ a2 l0 0 from ⟨_, _, bk a9.out, a3.out, HR0.out⟩), (by first | exact be1 HB.out a3.out | exact be HB.out), (by first | exact be1 HBW.out aa.out | exact be HBW.out)⟩

end Go.Proofs.Ytknagppkeodggaa.P


namespace Go.Proofs.Ytknagppkeodggaa.P
open Go.RowKit Go.Proofs.YtknagppkeodggaaW.PrintWords Go.Proofs.YtknagppkeodggaaW.PrintLast Go.Proofs.YtknagppkeodggaaW.PrintMore
attribute [local go_sem] max2_int min2_int max_two min_two max_three min_three max_four min_four
set_option linter.unusedVariables false
set_option linter.unusedSimpArgs false

/-! ### spec_l1In: function 24 -/
def spec_l1In.f (a0 : Int) (a1 : Int) (a2 : Int) : Option (Bool) := if a0 ≥ a1 then (some (decide (a0 ≤ a2))) else (some false)
set_option maxHeartbeats 8000000 in
set_option maxRecDepth 100000 in
theorem spec_l1In.calls (a0 : Int) (a1 : Int) (a2 : Int) (r : Bool) (w : World) (h : spec_l1In.f a0 a1 a2 = some r) :
  Calls Try.prog 24 #[.int .i64 a0, .int .i64 a1, .int .i64 a2] w fun e w' => e = .returned (.bool r) ∧ Drawn0 w w' := by
 have H : (if a0 ≥ a1 then (some (decide (a0 ≤ a2))) else (some false)) = some r := h; clear h
 by_cases c4 : a0 ≥ a1
 ·rw [if_pos c4] at H
  have a3 : decide (a1 ≤ a0) = true := decide_eq_true c4; clear c4; obtain rfl := Option.some.inj H
  go_enter Try.func24, Try.ntmps24
  go_wp2
  go_ret
  exact ⟨Ye1, dz⟩
 ·rw [if_neg c4] at H
  have a3 : decide (a1 ≤ a0) = false := decide_eq_false c4; clear c4; obtain rfl := Option.some.inj H
  go_enter Try.func24, Try.ntmps24
  go_wp2
  go_ret
  exact ⟨Ye1, dz⟩

end Go.Proofs.Ytknagppkeodggaa.P


namespace Go.Proofs.Ytknagppkeodggaa.P
open Go.RowKit Go.Proofs.YtknagppkeodggaaW.PrintWords Go.Proofs.YtknagppkeodggaaW.PrintLast Go.Proofs.YtknagppkeodggaaW.PrintMore
attribute [local go_sem] max2_int min2_int max_two min_two max_three min_three max_four min_four
set_option linter.unusedVariables false
set_option linter.unusedSimpArgs false

/-! ### spec_l2Short: function 34 -/
def spec_l2Short.l0 : Nat → Int → List Int → Option (ByteArray)
 | 0, _, _ => none
 | k + 1, x0, x3 => if x0 > 127 then (if x3.length < 140737488355328 then (spec_l2Short.l0 k (IntKind.u64.wrap (Int.tdiv x0 128)) (x3 ++ [(IntKind.u64.wrap ((Int.tmod x0 128) + 128)) % 256])) else (none)) else (if x3.length < 140737488355328 then (some (strOfNums (x3 ++ [(x0) % 256]))) else (none))
def spec_l2Short.f (k : Nat) (a0 : Int) : Option (ByteArray) := spec_l2Short.l0 k a0 (([] : List Int))
theorem spec_l2Short.mono_l : ∀ k, (∀ y0 y1, LeO (spec_l2Short.l0 k y0 y1) (spec_l2Short.l0 (k + 1) y0 y1))
 | 0 => fun _ _ r h => by simp [spec_l2Short.l0] at h
 | k + 1 => by
  have ih0 := spec_l2Short.mono_l k
  ·intro y0 y1
   unfold spec_l2Short.l0
   repeat' first
   | (with_reducible exact ih0 _ _)
   | (with_reducible exact LeO.refl _)
   | (with_reducible exact LeO.none _)
   | (with_reducible refine LeO.ite ?_ ?_)
   | (with_reducible refine LeO.bind ?_ (fun _ => ?_))
   | exact ih0 _ _
   | exact LeO.none _
   | refine LeO.ite ?_ ?_
   | refine LeO.bind ?_ (fun _ => ?_)
theorem spec_l2Short.mono : ∀ a0 k, LeO (spec_l2Short.f k a0) (spec_l2Short.f (k + 1) a0) := by
 intro a0 k; have ih0 := spec_l2Short.mono_l k
 unfold spec_l2Short.f
 repeat' first
   | (with_reducible exact ih0 _ _)
   | (with_reducible exact LeO.refl _)
   | (with_reducible exact LeO.none _)
   | (with_reducible refine LeO.ite ?_ ?_)
   | (with_reducible refine LeO.bind ?_ (fun _ => ?_))
   | exact ih0 _ _
   | exact LeO.none _
   | refine LeO.ite ?_ ?_
   | refine LeO.bind ?_ (fun _ => ?_)
set_option maxHeartbeats 8000000 in
set_option maxRecDepth 100000 in
theorem spec_l2Short.calls (k : Nat) (a0 : Int) (r : ByteArray) (w : World) (h : spec_l2Short.f k a0 = some r) :
  Calls Try.prog 34 #[.int .u64 a0] w fun e w' => e = .returned (.string r) ∧ Below w.heap.size w w' := by
 have HB := Aside0.mk (Below.refl w.heap.size w); have H : (spec_l2Short.l0 k a0 (([] : List Int))) = some r := h; clear h
 obtain ⟨a7, a3⟩ : ∃ y_ : List Int, y_ = (([] : List Int)) := ⟨_, rfl⟩
 replace H : (spec_l2Short.l0 k a0 a7) = some r := by first | (rw [a3]; with_reducible exact H) | (have H2_ := (Option.bind_some _ _).symm.trans H; rw [a3]; with_reducible exact H2_) | (have H2_ := (Option.bind_some _ _).symm.trans H; with_reducible exact H2_) | with_reducible exact H | (rw [a3]; exact H) | exact H
 have a8 := Aside0.mk a3; clear a3; have H' := Aside0.mk H; clear H
 go_enter Try.func34, Try.ntmps34
 go_wp2_with (first | ((with_reducible refine gd 4 rfl ?_); refine Kd.R_lit (Kd.int .u8) _ 5 ?hg (N := 4) ?hd (xs := ([] : List Int)) (inner := []) (ok := fun _ => True) (okp := fun _ => True) ?hr ?hp (fun _ hk => hk) trivial (Below.refl _ _) (Nat.le_refl _) (by simp) ?_; (case hd => rfl); (case hg => rfl); (case hr => first | (go_simp; done) | (go_simp; rfl)); (case hp => exact (Reps.none _ _)); intro v106 w2 ho3 hb hg_ hnew_; clear hg_ hnew_; (first | rw [← a8.out] at ho3 | (simp only [Int.reduceToNat] at ho3; rw [← a8.out] at ho3)); refine Ya2 (Kd.R_lower ho3 (below_size (be HB.out))) (below_step (be HB.out) hb) ?_; clear HB; intro aa HB; clear hb ho3))
 go_loopg [0, 3] k (fun kq v0 v3 w' => ∃ (a1 : Int) (a2 : List Int), v0 = .int .u64 a1 ∧ Aside0 (spec_l2Short.l0 kq a1 a2 = some r) ∧ Aside0 (kq ≤ k) ∧ Aside0 (Kd.R (Kd.int .u8) 5 w' w.heap.size (fun _ => True) v3 a2) ∧ Aside0 (Below w.heap.size w w'))
 case atStart => exact ⟨(a0), (a7), Ye1, H', ⟨Nat.le_refl _⟩, ⟨kr aa.out⟩, ⟨be HB.out⟩⟩
 case round =>
  clear H'; (try clear p2); (try clear c3); obtain ⟨a1, a2, rfl, HA, HK1, a6, HB⟩ := hrel
  cases gk with
  | zero => exact absurd HA.out (by simp [spec_l2Short.l0])
  | succ k1 =>
   have H := HA.out; clear HA; simp only [spec_l2Short.l0] at H
   by_cases c4 : a1 > 127
   ·rw [if_pos c4] at H
    have ab : decide (127 < a1) = true := decide_eq_true c4; clear c4
    by_cases c5 : a2.length < 140737488355328
    ·rw [if_pos c5] at H
     have ac := Aside0.mk c5; clear c5
     obtain ⟨a9, a4⟩ : ∃ y_ : List Int, y_ = (a2 ++ [(IntKind.u64.wrap ((Int.tmod a1 128) + 128)) % 256]) := ⟨_, rfl⟩
     replace H : (spec_l2Short.l0 k1 (IntKind.u64.wrap (Int.tdiv a1 128)) a9) = some r := by first | (rw [a4]; with_reducible exact H) | (have H2_ := (Option.bind_some _ _).symm.trans H; rw [a4]; with_reducible exact H2_) | (have H2_ := (Option.bind_some _ _).symm.trans H; with_reducible exact H2_) | with_reducible exact H | (rw [a4]; exact H) | exact H
     have ad := Aside0.mk a4; clear a4; have H' := Aside0.mk H; clear H
     go_wp2_with (first | ((with_reducible refine gate_builtin (b := .append) (xs := #[.tmp 7, .tmp 12]) rfl ?_); at_builtin; refine Kd.R_append (Kd.int .u8) (w0 := w) w.heap.size rfl (.tmp 7) (.tmp 12) 22 5 (.int .u8 0) 1 rfl Try.underlying22 info5 rfl (by decide) (by omega) u3 a2 ((IntKind.u64.wrap ((Int.tmod a1 128) + 128)) % 256) [.int .u8 ((IntKind.u64.wrap ((Int.tmod a1 128) + 128)) % 256)] (fun _ => True) (fun _ => False) rfl rfl ?aP (fun _ hk => hk.elim) ?aF ?aO ?aB ?aS ?aL ?_; (case aP => exact rfl); (case aB => exact (be HB.out)); (case aF => exact (fun _ _ => trivial)); (case aO => exact (kr a6.out)); (case aS => exact (below_size (be HB.out))); (case aL => have := ac.out; omega); intro v109 w6 ho hb hg hat; rw [← ad.out] at ho; refine Ya2 (hb) (ho) ?_; clear HB a6; intro HB ae; clear ho hb hg hat))
     go_roundg k1
     case measure => have := HK1.out; omega
     case rel => exact ⟨(IntKind.u64.wrap (Int.tdiv a1 128)), (a9), Ye1, H', ⟨by have := HK1.out; omega⟩, ⟨kr ae.out⟩, ⟨be HB.out⟩⟩
    ·rw [if_neg c5] at H
     exact absurd H (by simp)
   ·rw [if_neg c4] at H
    have ab : decide (127 < a1) = false := decide_eq_false c4; clear c4
    by_cases c7 : a2.length < 140737488355328
    ·rw [if_pos c7] at H
     have af := Aside0.mk c7; clear c7
     obtain ⟨ag, a5⟩ : ∃ y_ : List Int, y_ = (a2 ++ [(a1) % 256]) := ⟨_, rfl⟩
     replace H : (some (strOfNums ag)) = some r := by first | (rw [a5]; with_reducible exact H) | (have H2_ := (Option.bind_some _ _).symm.trans H; rw [a5]; with_reducible exact H2_) | (have H2_ := (Option.bind_some _ _).symm.trans H; with_reducible exact H2_) | with_reducible exact H | (rw [a5]; exact H) | exact H
     have ah := Aside0.mk a5; clear a5; obtain rfl := Option.some.inj H
     go_wp2_with (first | ((with_reducible refine gate_builtin (b := .append) (xs := #[.tmp 16, .tmp 19]) rfl ?_); at_builtin; refine Kd.R_append (Kd.int .u8) (w0 := w) w.heap.size rfl (.tmp 16) (.tmp 19) 22 5 (.int .u8 0) 1 rfl Try.underlying22 info5 rfl (by decide) (by omega) u3 a2 ((a1) % 256) [.int .u8 ((a1) % 256)] (fun _ => True) (fun _ => False) rfl rfl ?aP (fun _ hk => hk.elim) ?aF ?aO ?aB ?aS ?aL ?_; (case aP => exact rfl); (case aB => exact (be HB.out)); (case aF => exact (fun _ _ => trivial)); (case aO => exact (kr a6.out)); (case aS => exact (below_size (be HB.out))); (case aL => have := af.out; omega); intro v112 w8 ho hb hg hat; rw [← ah.out] at ho; refine Ya2 (hb) (ho) ?_; clear HB a6; intro HB ai; clear ho hb hg hat; have hcv9 := own_string (P := Try.prog) Try.underlying22 Try.underlying5 Try.underlying9 (Kd.own_of_R ai.out)))
     go_ret
     exact ⟨Ye2, be HB.out⟩
    ·rw [if_neg c7] at H
     exact absurd H (by simp)

end Go.Proofs.Ytknagppkeodggaa.P


namespace Go.Proofs.Ytknagppkeodggaa.P
open Go.RowKit Go.Proofs.YtknagppkeodggaaW.PrintWords Go.Proofs.YtknagppkeodggaaW.PrintLast Go.Proofs.YtknagppkeodggaaW.PrintMore
attribute [local go_sem] max2_int min2_int max_two min_two max_three min_three max_four min_four
set_option linter.unusedVariables false
set_option linter.unusedSimpArgs false

/-! ### spec_l2Text: function 32 -/
def spec_l2Text.f (k : Nat) (a0 : ByteArray) : Option (ByteArray) := (spec_l2Short.f k (IntKind.u64.wrap ((a0.size : Int)))).bind fun a1 => (if a1.size + a0.size ≤ 9223372036854775807 then (some (a1 ++ a0)) else (none))
theorem spec_l2Text.mono : ∀ a0 k, LeO (spec_l2Text.f k a0) (spec_l2Text.f (k + 1) a0) := by
 intro a0 k
 unfold spec_l2Text.f
 repeat' first
   | (with_reducible exact spec_l2Short.mono _ _)
   | (with_reducible exact LeO.refl _)
   | (with_reducible exact LeO.none _)
   | (with_reducible refine LeO.ite ?_ ?_)
   | (with_reducible refine LeO.bind ?_ (fun _ => ?_))
   | exact spec_l2Short.mono _ _
   | exact LeO.none _
   | refine LeO.ite ?_ ?_
   | refine LeO.bind ?_ (fun _ => ?_)
set_option maxHeartbeats 8000000 in
set_option maxRecDepth 100000 in
theorem spec_l2Text.calls (k : Nat) (a0 : ByteArray) (r : ByteArray) (w : World) (h : spec_l2Text.f k a0 = some r) :
  Calls Try.prog 32 #[.string a0] w fun e w' => e = .returned (.string r) ∧ Below w.heap.size w w' := by
 have HB := Aside0.mk (Below.refl w.heap.size w); have H : ((spec_l2Short.f k (IntKind.u64.wrap ((a0.size : Int)))).bind fun a1 => (if a1.size + a0.size ≤ 9223372036854775807 then (some (a1 ++ a0)) else (none))) = some r := h; clear h; replace H := Option.bind_eq_some_iff.mp H; obtain ⟨a1, A20, H⟩ := H; replace H : (if a1.size + a0.size ≤ 9223372036854775807 then (some (a1 ++ a0)) else (none)) = some r := H; have A2 := Aside0.mk A20; clear A20
 by_cases c3 : a1.size + a0.size ≤ 9223372036854775807
 ·rw [if_pos c3] at H
  have c3b0 := eq_true c3; have c3b1 : decide (a1.size + a0.size ≤ 9223372036854775807) = true := decide_eq_true c3
  try have c3b2 : (9223372036854775807 < a1.size + a0.size) = False := eq_false (Nat.not_lt.2 c3)
  obtain rfl := Option.some.inj H
  go_enter Try.func32, Try.ntmps32
  go_wp2_with (first | ((with_reducible refine gc 34 rfl ?_); refine goesL_ (some 6) rfl rfl Try.func34 (by kernel_rfl) rfl #[.int .u64 (IntKind.u64.wrap ((a0.size : Int)))] rfl (by (try simp only [List.map_toArray, List.map_cons, List.map_nil]); first | done | rfl | (have e_ : IntKind.u64.wrap (a0.size : Int) = (a0.size : Int) := (by (simp [IntKind.wrap, IntKind.bits, IntKind.signed]; omega)); rw [e_]; rfl) | (simp only [List.length_drop, List.length_take]; rfl)) ?_; (with_reducible refine (spec_l2Short.calls k (IntKind.u64.wrap ((a0.size : Int))) a1 _ A2.out).mono ?_); rintro e w4 ⟨rfl, hb⟩; refine ⟨_, rfl, ?_⟩; refine Ya1 (below_step (be HB.out) hb) ?_; clear HB; intro HB; (try clear hb); (try clear hb2); (try clear hk); (try clear hi)))
  go_ret
  exact ⟨Ye2, be HB.out⟩
 ·rw [if_neg c3] at H
  exact absurd H (by simp)

end Go.Proofs.Ytknagppkeodggaa.P


namespace Go.Proofs.Ytknagppkeodggaa.P
open Go.RowKit Go.Proofs.YtknagppkeodggaaW.PrintWords Go.Proofs.YtknagppkeodggaaW.PrintLast Go.Proofs.YtknagppkeodggaaW.PrintMore
attribute [local go_sem] max2_int min2_int max_two min_two max_three min_three max_four min_four
set_option linter.unusedVariables false
set_option linter.unusedSimpArgs false

/-! ### spec_Sum: function 19 -/
mutual
def spec_Sum.l0 : Nat → ByteArray → Int → Int → Int → Option (ByteArray)
 | 0, _, _, _, _ => none
 | k + 1, x0, x1, x5, x6 => if x6 < (x0.size : Int) then (if 0 ≤ x6 then (spec_Sum.l0 k x0 x1 (IntKind.u64.wrap ((Go.bits .xor .u64 x5 (IntKind.u64.wrap (bt x0 x6))) * 1099511628211)) (wrap64 (x6 + 1))) else (none)) else (spec_Sum.l1 k x1 x5 (⟨#[]⟩ : ByteArray) 0)
def spec_Sum.l1 : Nat → Int → Int → ByteArray → Int → Option (ByteArray)
 | 0, _, _, _, _ => none
 | k + 1, x1, x5, x7, x8 => if x8 < x1 then ((some (([(Int.tmod x5 256) % 256] : List Int) : List Int)).bind fun a4 => (if (strOfNums a4).size + x7.size ≤ 9223372036854775807 then (spec_Sum.l1 k x1 (IntKind.u64.wrap (Int.tdiv x5 256)) ((strOfNums a4) ++ x7) (wrap64 (x8 + 1))) else (none))) else (some x7)
end
def spec_Sum.f (k : Nat) (a0 : ByteArray) (a1 : Int) : Option (ByteArray) := (spec_l1In.f a1 1 8).bind fun a7 => (if a7 = true then (spec_Sum.l0 k a0 a1 14695981039346656037 0) else (some (⟨#[]⟩ : ByteArray)))
theorem spec_Sum.mono_l : ∀ k, (∀ y0 y1 y2 y3, LeO (spec_Sum.l0 k y0 y1 y2 y3) (spec_Sum.l0 (k + 1) y0 y1 y2 y3)) ∧ (∀ y0 y1 y2 y3, LeO (spec_Sum.l1 k y0 y1 y2 y3) (spec_Sum.l1 (k + 1) y0 y1 y2 y3))
 | 0 => ⟨fun _ _ _ _ r h => by simp [spec_Sum.l0] at h, fun _ _ _ _ r h => by simp [spec_Sum.l1] at h⟩
 | k + 1 => by
  obtain ⟨ih0, ih1⟩ := spec_Sum.mono_l k; refine ⟨?_, ?_⟩
  ·intro y0 y1 y2 y3
   unfold spec_Sum.l0
   repeat' first
   | (with_reducible exact ih0 _ _ _ _)
   | (with_reducible exact ih1 _ _ _ _)
   | (with_reducible exact LeO.refl _)
   | (with_reducible exact LeO.none _)
   | (with_reducible refine LeO.ite ?_ ?_)
   | (with_reducible refine LeO.bind ?_ (fun _ => ?_))
   | exact ih0 _ _ _ _
   | exact ih1 _ _ _ _
   | exact LeO.none _
   | refine LeO.ite ?_ ?_
   | refine LeO.bind ?_ (fun _ => ?_)
  ·intro y0 y1 y2 y3
   unfold spec_Sum.l1
   repeat' first
   | (with_reducible exact ih0 _ _ _ _)
   | (with_reducible exact ih1 _ _ _ _)
   | (with_reducible exact LeO.refl _)
   | (with_reducible exact LeO.none _)
   | (with_reducible refine LeO.ite ?_ ?_)
   | (with_reducible refine LeO.bind ?_ (fun _ => ?_))
   | exact ih0 _ _ _ _
   | exact ih1 _ _ _ _
   | exact LeO.none _
   | refine LeO.ite ?_ ?_
   | refine LeO.bind ?_ (fun _ => ?_)
theorem spec_Sum.mono : ∀ a0 a1 k, LeO (spec_Sum.f k a0 a1) (spec_Sum.f (k + 1) a0 a1) := by
 intro a0 a1 k; obtain ⟨ih0, ih1⟩ := spec_Sum.mono_l k
 unfold spec_Sum.f
 repeat' first
   | (with_reducible exact ih0 _ _ _ _)
   | (with_reducible exact ih1 _ _ _ _)
   | (with_reducible exact LeO.refl _)
   | (with_reducible exact LeO.none _)
   | (with_reducible refine LeO.ite ?_ ?_)
   | (with_reducible refine LeO.bind ?_ (fun _ => ?_))
   | exact ih0 _ _ _ _
   | exact ih1 _ _ _ _
   | exact LeO.none _
   | refine LeO.ite ?_ ?_
   | refine LeO.bind ?_ (fun _ => ?_)
set_option maxHeartbeats 8000000 in
set_option maxRecDepth 100000 in
theorem spec_Sum.calls (k : Nat) (a0 : ByteArray) (a1 : Int) (r : ByteArray) (w : World) (h : spec_Sum.f k a0 a1 = some r) :
  Calls Try.prog 19 #[.string a0, .int .i64 a1] w fun e w' => e = .returned (.string r) ∧ Below w.heap.size w w' := by
 have HB := Aside0.mk (Below.refl w.heap.size w); have H : ((spec_l1In.f a1 1 8).bind fun a7 => (if a7 = true then (spec_Sum.l0 k a0 a1 14695981039346656037 0) else (some (⟨#[]⟩ : ByteArray)))) = some r := h; clear h; replace H := Option.bind_eq_some_iff.mp H; obtain ⟨a7, A30, H⟩ := H; replace H : (if a7 = true then (spec_Sum.l0 k a0 a1 14695981039346656037 0) else (some (⟨#[]⟩ : ByteArray))) = some r := H; have A3 := Aside0.mk A30; clear A30
 by_cases c4 : a7 = true
 ·subst c4
  have H1 : (spec_Sum.l0 k a0 a1 14695981039346656037 0) = some r := by rw [if_pos rfl] at H; exact H
  clear H; have H := H1; clear H1; have H' := Aside0.mk H; clear H
  go_enter Try.func19, Try.ntmps19
  go_wp2_with (first | ((with_reducible refine gc 24 rfl ?_); refine gl (some 10) _ (#[.int .i64 a1, .int .i64 1, .int .i64 8]) Try.func24 ?_; (with_reducible refine (spec_l1In.calls a1 1 8 true _ A3.out).mono ?_); rintro e w' ⟨rfl, ⟨nd, rfl⟩⟩; refine ⟨_, rfl, ?_⟩))
  go_loopg [5, 6] k (fun kq v5 v6 w' => ∃ (a8 : Int) (a2 : Int), v5 = .int .u64 a8 ∧ v6 = .int .i64 a2 ∧ Aside0 (spec_Sum.l0 kq a0 a1 a8 a2 = some r) ∧ Aside0 (kq ≤ k) ∧ Aside0 (Below w.heap.size w w'))
  case atStart => exact ⟨(14695981039346656037), (0), Ye1, Ye1, H', ⟨Nat.le_refl _⟩, ⟨be HB.out⟩⟩
  case round =>
   clear H'; (try clear c1); (try clear c2); (try clear p2); (try clear c4); obtain ⟨a8, a2, rfl, rfl, HA, HK1, HB⟩ := hrel
   cases gk with
   | zero => exact absurd HA.out (by simp [spec_Sum.l0])
   | succ k1 =>
    have H := HA.out; clear HA; simp only [spec_Sum.l0] at H
    by_cases c5 : a2 < (a0.size : Int)
    ·rw [if_pos c5] at H
     have aa : decide (a2 < (a0.size : Int)) = true := decide_eq_true c5; clear c5
     by_cases c6 : 0 ≤ a2
     ·rw [if_pos c6] at H
      have ac : decide (0 ≤ a2) = true := decide_eq_true c6; clear c6; have H' := Aside0.mk H; clear H; have p7 : 0 ≤ (a2 : Int) := oda; have q7 : a2 < (a0.size : Int) := oda; have hx7 := bt_at a0 a2; replace p7 := eq_true p7; replace q7 := eq_true q7
      go_wp2
      go_roundg k1
      case measure => have := HK1.out; omega
      case rel => exact ⟨(IntKind.u64.wrap ((Go.bits .xor .u64 a8 (IntKind.u64.wrap (bt a0 a2))) * 1099511628211)), (wrap64 (a2 + 1)), Ye1, Ye1, H', ⟨by have := HK1.out; omega⟩, ⟨be HB.out⟩⟩
     ·rw [if_neg c6] at H
      exact absurd H (by simp)
    ·rw [if_neg c5] at H
     have aa : decide (a2 < (a0.size : Int)) = false := decide_eq_false c5; clear c5; have H' := Aside0.mk H; clear H
     go_wp2
     go_loopg [5, 7, 8] k1 (fun kq v5 v7 v8 w' => ∃ (a3 : Int) (a5 : ByteArray) (a6 : Int), v5 = .int .u64 a3 ∧ v7 = .string a5 ∧ v8 = .int .i64 a6 ∧ Aside0 (spec_Sum.l1 kq a1 a3 a5 a6 = some r) ∧ Aside0 (kq ≤ k1) ∧ Aside0 (Below w.heap.size w w'))
     case atStart => exact ⟨(a8), ((⟨#[]⟩ : ByteArray)), (0), Ye1, Ye1, Ye1, H', ⟨Nat.le_refl _⟩, ⟨be HB.out⟩⟩
     case round =>
      clear H'; (try clear c1); (try clear c2); (try clear p2); (try clear c4); (try clear c5); (try clear aa); (try clear c6); (try clear ac); (try clear p6); (try clear p7); (try clear q7); (try clear hx7); (try clear p2); (try clear p7); (try clear q7); obtain ⟨a3, a5, a6, rfl, rfl, rfl, HA, HK2, HB⟩ := hrel
      cases gk with
      | zero => exact absurd HA.out (by simp [spec_Sum.l1])
      | succ k2 =>
       have H := HA.out; clear HA; simp only [spec_Sum.l1] at H
       by_cases c8 : a6 < a1
       ·rw [if_pos c8] at H
        have ad : decide (a6 < a1) = true := decide_eq_true c8; clear c8
        obtain ⟨a4, a9⟩ : ∃ y_ : List Int, y_ = (([(Int.tmod a3 256) % 256] : List Int)) := ⟨_, rfl⟩
        replace H : (if (strOfNums a4).size + a5.size ≤ 9223372036854775807 then (spec_Sum.l1 k2 a1 (IntKind.u64.wrap (Int.tdiv a3 256)) ((strOfNums a4) ++ a5) (wrap64 (a6 + 1))) else (none)) = some r := by first | (rw [a9]; with_reducible exact H) | (have H2_ := (Option.bind_some _ _).symm.trans H; rw [a9]; with_reducible exact H2_) | (have H2_ := (Option.bind_some _ _).symm.trans H; with_reducible exact H2_) | with_reducible exact H | (rw [a9]; exact H) | exact H
        have ab := Aside0.mk a9; clear a9
        by_cases c9 : (strOfNums a4).size + a5.size ≤ 9223372036854775807
        ·rw [if_pos c9] at H
         have c9b0 := eq_true c9; have c9b1 : decide ((strOfNums a4).size + a5.size ≤ 9223372036854775807) = true := decide_eq_true c9
         try have c9b2 : (9223372036854775807 < (strOfNums a4).size + a5.size) = False := eq_false (Nat.not_lt.2 c9)
         have H' := Aside0.mk H; clear H
         go_wp2_with (first | ((with_reducible refine gd 33 rfl ?_); refine Kd.R_lit (Kd.int .u8) _ 5 ?hg (N := 33) ?hd (xs := ([(Int.tmod a3 256) % 256] : List Int)) (inner := [.int .u8 ((Int.tmod a3 256) % 256)]) (ok := fun _ => True) (okp := fun _ => True) ?hr ?hp (fun _ hk => hk) trivial (Below.refl _ _) (Nat.le_refl _) (by simp) ?_; (case hd => rfl); (case hg => rfl); (case hr => first | (go_simp; done) | (go_simp; rfl)); (case hp => exact (Reps.one (show Kd.M (Kd.int .u8) _ _ _ ((Int.tmod a3 256) % 256) [.int .u8 ((Int.tmod a3 256) % 256)] from rfl) (Reps.none _ _))); intro v103 w10 ho11 hb hg_ hnew_; clear hg_ hnew_; (first | rw [← ab.out] at ho11 | (simp only [Int.reduceToNat] at ho11; rw [← ab.out] at ho11)); refine Ya2 (Kd.R_lower ho11 (below_size (be HB.out))) (below_step (be HB.out) hb) ?_; clear HB; intro ae HB; clear hb ho11; have hcv12 := own_string (P := Try.prog) Try.underlying22 Try.underlying5 Try.underlying9 (Kd.own_of_R ae.out)))
         go_roundg k2
         case measure => have := HK1.out; have := HK2.out; omega
         case rel => exact ⟨(IntKind.u64.wrap (Int.tdiv a3 256)), ((strOfNums a4) ++ a5), (wrap64 (a6 + 1)), Ye1, Ye1, Ye1, H', ⟨by have := HK1.out; have := HK2.out; omega⟩, ⟨be HB.out⟩⟩
        ·rw [if_neg c9] at H
         exact absurd H (by simp)
       ·rw [if_neg c8] at H
        have ad : decide (a6 < a1) = false := decide_eq_false c8; clear c8; obtain rfl := Option.some.inj H
        go_wp2
        go_ret
        exact ⟨Ye2, be HB.out⟩
 ·replace c4 := Bool.eq_false_iff.mpr c4; subst c4
  have H1 : (some (⟨#[]⟩ : ByteArray)) = some r := by rw [if_neg (show ¬ (false = true) by decide)] at H; exact H
  clear H; have H := H1; clear H1; obtain rfl := Option.some.inj H
  go_enter Try.func19, Try.ntmps19
  go_wp2_with (first | ((with_reducible refine gc 24 rfl ?_); refine gl (some 10) _ (#[.int .i64 a1, .int .i64 1, .int .i64 8]) Try.func24 ?_; (with_reducible refine (spec_l1In.calls a1 1 8 false _ A3.out).mono ?_); rintro e w' ⟨rfl, ⟨nd, rfl⟩⟩; refine ⟨_, rfl, ?_⟩))
  go_ret
  exact ⟨Ye2, be HB.out⟩

end Go.Proofs.Ytknagppkeodggaa.P


namespace Go.Proofs.Ytknagppkeodggaa.P
open Go.RowKit Go.Proofs.YtknagppkeodggaaW.PrintWords Go.Proofs.YtknagppkeodggaaW.PrintLast Go.Proofs.YtknagppkeodggaaW.PrintMore
attribute [local go_sem] max2_int min2_int max_two min_two max_three min_three max_four min_four
set_option linter.unusedVariables false
set_option linter.unusedSimpArgs false

/-! ### spec_Encode: function 12 -/
mutual
def spec_Encode.j0 : Nat → List ByteArray → Int → Bool → Option (ByteArray)
 | 0, _, _, _ => none
 | k + 1, x0, x1, x14 => if x14 = true then (some (⟨#[]⟩ : ByteArray)) else (spec_Encode.l0 k x0 x1 (([] : List Int)) 0)
def spec_Encode.l0 : Nat → List ByteArray → Int → List Int → Int → Option (ByteArray)
 | 0, _, _, _, _ => none
 | k + 1, x0, x1, x5, x6 => if x6 < (x0.length : Int) then (if 0 ≤ x6 then ((spec_l1In.f ((rdOf ByteArray.empty x0 x6).size : Int) 1 1000).bind fun af => (if af = true then ((spec_l2Text.f k (rdOf ByteArray.empty x0 x6)).bind fun a5 => (if x5.length + a5.size < 140737488355328 then ((some (x5 ++ bytesOf a5 : List Int)).bind fun a4 => ((spec_Sum.f k (rdOf ByteArray.empty x0 x6) x1).bind fun a3 => (if a4.length + a3.size < 140737488355328 then (spec_Encode.l0 k x0 x1 (a4 ++ bytesOf a3) (wrap64 (x6 + 1))) else (none)))) else (none))) else (some (⟨#[]⟩ : ByteArray)))) else (none)) else (some (strOfNums x5))
end
def spec_Encode.f (k : Nat) (l0 : List ByteArray) (a1 : Int) : Option (ByteArray) := (spec_l1In.f a1 1 8).bind fun a9 => (if a9 = true then (spec_Encode.j0 k l0 a1 (decide ((l0.length : Int) > 500))) else (spec_Encode.j0 k l0 a1 true))
theorem spec_Encode.mono_l : ∀ k, (∀ y0 y1 y2, LeO (spec_Encode.j0 k y0 y1 y2) (spec_Encode.j0 (k + 1) y0 y1 y2)) ∧ (∀ y0 y1 y2 y3, LeO (spec_Encode.l0 k y0 y1 y2 y3) (spec_Encode.l0 (k + 1) y0 y1 y2 y3))
 | 0 => ⟨fun _ _ _ r h => by simp [spec_Encode.j0] at h, fun _ _ _ _ r h => by simp [spec_Encode.l0] at h⟩
 | k + 1 => by
  obtain ⟨ih0, ih1⟩ := spec_Encode.mono_l k; refine ⟨?_, ?_⟩
  ·intro y0 y1 y2
   unfold spec_Encode.j0
   repeat' first
   | (with_reducible exact ih0 _ _ _)
   | (with_reducible exact ih1 _ _ _ _)
   | (with_reducible exact spec_Sum.mono _ _ _)
   | (with_reducible exact spec_l2Text.mono _ _)
   | (with_reducible exact LeO.refl _)
   | (with_reducible exact LeO.none _)
   | (with_reducible refine LeO.ite ?_ ?_)
   | (with_reducible refine LeO.bind ?_ (fun _ => ?_))
   | exact ih0 _ _ _
   | exact ih1 _ _ _ _
   | exact spec_Sum.mono _ _ _
   | exact spec_l2Text.mono _ _
   | exact LeO.none _
   | refine LeO.ite ?_ ?_
   | refine LeO.bind ?_ (fun _ => ?_)
  ·intro y0 y1 y2 y3
   unfold spec_Encode.l0
   repeat' first
   | (with_reducible exact ih0 _ _ _)
   | (with_reducible exact ih1 _ _ _ _)
   | (with_reducible exact spec_Sum.mono _ _ _)
   | (with_reducible exact spec_l2Text.mono _ _)
   | (with_reducible exact LeO.refl _)
   | (with_reducible exact LeO.none _)
   | (with_reducible refine LeO.ite ?_ ?_)
   | (with_reducible refine LeO.bind ?_ (fun _ => ?_))
   | exact ih0 _ _ _
   | exact ih1 _ _ _ _
   | exact spec_Sum.mono _ _ _
   | exact spec_l2Text.mono _ _
   | exact LeO.none _
   | refine LeO.ite ?_ ?_
   | refine LeO.bind ?_ (fun _ => ?_)
theorem spec_Encode.mono : ∀ a0 a1 k, LeO (spec_Encode.f k a0 a1) (spec_Encode.f (k + 1) a0 a1) := by
 intro a0 a1 k; obtain ⟨ih0, ih1⟩ := spec_Encode.mono_l k
 unfold spec_Encode.f
 repeat' first
   | (with_reducible exact ih0 _ _ _)
   | (with_reducible exact ih1 _ _ _ _)
   | (with_reducible exact spec_Sum.mono _ _ _)
   | (with_reducible exact spec_l2Text.mono _ _)
   | (with_reducible exact LeO.refl _)
   | (with_reducible exact LeO.none _)
   | (with_reducible refine LeO.ite ?_ ?_)
   | (with_reducible refine LeO.bind ?_ (fun _ => ?_))
   | exact ih0 _ _ _
   | exact ih1 _ _ _ _
   | exact spec_Sum.mono _ _ _
   | exact spec_l2Text.mono _ _
   | exact LeO.none _
   | refine LeO.ite ?_ ?_
   | refine LeO.bind ?_ (fun _ => ?_)
set_option maxHeartbeats 8000000 in
set_option maxRecDepth 100000 in
theorem spec_Encode.calls (k : Nat) (A0 : Option Addr) (c0 : Nat) (l0 : List ByteArray) (a1 : Int) (r : ByteArray) (w : World) (hr0 : Kd.C Kd.string w A0 l0.length l0) (hc0 : l0.length ≤ c0) (h : spec_Encode.f k l0 a1 = some r) :
  Calls Try.prog 12 #[.slice A0 l0.length c0, .int .i64 a1] w fun e w' => e = .returned (.string r) ∧ Below w.heap.size w w' := by
 have ag := Aside0.mk hr0; have HC0 := Aside0.mk hc0; clear hr0 hc0; have HB := Aside0.mk (Below.refl w.heap.size w); have H : ((spec_l1In.f a1 1 8).bind fun a9 => (if a9 = true then (spec_Encode.j0 k l0 a1 (decide ((l0.length : Int) > 500))) else (spec_Encode.j0 k l0 a1 true))) = some r := h; clear h; have am := Aside0.mk H; clear H
 go_enter Try.func12, Try.ntmps12
 go_upto_region 1 with (fail)
 go_cut [14] (fun v14 wc => ∃ (kq : Nat) (ah : Bool), v14 = .bool ah ∧ Aside0 (spec_Encode.j0 kq l0 a1 ah = some r) ∧ Aside0 (kq ≤ k) ∧ Aside0 (Below w.heap.size w wc))
 case first =>
  have H := am.out; clear am; replace H := Option.bind_eq_some_iff.mp H; obtain ⟨a9, A40, H⟩ := H; replace H : (if a9 = true then (spec_Encode.j0 k l0 a1 (decide ((l0.length : Int) > 500))) else (spec_Encode.j0 k l0 a1 true)) = some r := H; have A4 := Aside0.mk A40; clear A40
  by_cases c5 : a9 = true
  ·subst c5
   have H1 : (spec_Encode.j0 k l0 a1 (decide ((l0.length : Int) > 500))) = some r := by rw [if_pos rfl] at H; exact H
   clear H; have H := H1; clear H1; have H' := Aside0.mk H; clear H
   go_wp2_with (first | ((with_reducible refine gc 24 rfl ?_); refine gl (some 8) _ (#[.int .i64 a1, .int .i64 1, .int .i64 8]) Try.func24 ?_; (with_reducible refine (spec_l1In.calls a1 1 8 true _ A4.out).mono ?_); rintro e w' ⟨rfl, ⟨nd, rfl⟩⟩; refine ⟨_, rfl, ?_⟩))
   go_meet
   case rel => exact ⟨_, (decide ((l0.length : Int) > 500)), Ye1, H', ⟨by first | omega | exact Nat.le_refl _⟩, ⟨be HB.out⟩⟩
  ·replace c5 := Bool.eq_false_iff.mpr c5; subst c5
   have H1 : (spec_Encode.j0 k l0 a1 true) = some r := by rw [if_neg (show ¬ (false = true) by decide)] at H; exact H
   clear H; have H := H1; clear H1; have H' := Aside0.mk H; clear H
   go_wp2_with (first | ((with_reducible refine gc 24 rfl ?_); refine gl (some 8) _ (#[.int .i64 a1, .int .i64 1, .int .i64 8]) Try.func24 ?_; (with_reducible refine (spec_l1In.calls a1 1 8 false _ A4.out).mono ?_); rintro e w' ⟨rfl, ⟨nd, rfl⟩⟩; refine ⟨_, rfl, ?_⟩))
   go_meet
   case rel => exact ⟨_, (true), Ye1, H', ⟨by first | omega | exact Nat.le_refl _⟩, ⟨be HB.out⟩⟩
 case rest =>
  clear am; (try clear c1); (try clear c2); (try clear p2); (try clear c5); obtain ⟨kq, ah, rfl, HA, HJ2, HB⟩ := hcut
  cases kq with
  | zero => exact absurd HA.out (by simp [spec_Encode.j0])
  | succ ai =>
   have H := HA.out; clear HA; simp only [spec_Encode.j0] at H
   by_cases c6 : ah = true
   ·subst c6
    have H1 : (some (⟨#[]⟩ : ByteArray)) = some r := by rw [if_pos rfl] at H; exact H
    clear H; have H := H1; clear H1; obtain rfl := Option.some.inj H
    go_wp2
    go_ret
    exact ⟨Ye2, be HB.out⟩
   ·replace c6 := Bool.eq_false_iff.mpr c6; subst c6
    have H1 : (spec_Encode.l0 ai l0 a1 (([] : List Int)) 0) = some r := by rw [if_neg (show ¬ (false = true) by decide)] at H; exact H
    clear H; have H := H1; clear H1
    obtain ⟨aw, ab⟩ : ∃ y_ : List Int, y_ = (([] : List Int)) := ⟨_, rfl⟩
    replace H : (spec_Encode.l0 ai l0 a1 aw 0) = some r := by first | (rw [ab]; with_reducible exact H) | (have H2_ := (Option.bind_some _ _).symm.trans H; rw [ab]; with_reducible exact H2_) | (have H2_ := (Option.bind_some _ _).symm.trans H; with_reducible exact H2_) | with_reducible exact H | (rw [ab]; exact H) | exact H
    have ax := Aside0.mk ab; clear ab; have H' := Aside0.mk H; clear H
    go_wp2_with (first | ((with_reducible refine gd 15 rfl ?_); (try (refine gate_guard (by rfl) ?_; dsimp only)); refine Kd.R_lit (Kd.int .u8) _ 5 ?hg (N := 15) ?hd (xs := ([] : List Int)) (inner := []) (ok := fun _ => True) (okp := fun _ => True) ?hr ?hp (fun _ hk => hk) trivial (Below.refl _ _) (Nat.le_refl _) (by simp) ?_; (case hd => rfl); (case hg => rfl); (case hr => first | (go_simp; done) | (go_simp; rfl)); (case hp => exact (Reps.none _ _)); intro v143 w7 ho8 hb hg_ hnew_; clear hg_ hnew_; (first | rw [← ax.out] at ho8 | (simp only [Int.reduceToNat] at ho8; rw [← ax.out] at ho8)); refine Ya2 (Kd.R_lower ho8 (below_size (be HB.out))) (below_step (be HB.out) hb) ?_; clear HB; intro aF HB; clear hb ho8))
    go_loopg [5, 6] ai (fun kq v5 v6 w' => ∃ (a6 : List Int) (a2 : Int), v6 = .int .i64 a2 ∧ Aside0 (spec_Encode.l0 kq l0 a1 a6 a2 = some r) ∧ Aside0 (kq ≤ ai) ∧ Aside0 (Kd.R (Kd.int .u8) 5 w' w.heap.size (fun _ => True) v5 a6) ∧ Aside0 (Below w.heap.size w w'))
    case atStart => exact ⟨(aw), (0), Ye1, H', ⟨Nat.le_refl _⟩, ⟨kr aF.out⟩, ⟨be HB.out⟩⟩
    case round =>
     clear H'; (try clear c1); (try clear c2); (try clear p2); (try clear c5); (try clear c6); (try clear p2); obtain ⟨a6, a2, rfl, HA, HK2, aa, HB⟩ := hrel
     cases gk with
     | zero => exact absurd HA.out (by simp [spec_Encode.l0])
     | succ k2 =>
      have H := HA.out; clear HA; simp only [spec_Encode.l0] at H
      by_cases c9 : a2 < (l0.length : Int)
      ·rw [if_pos c9] at H
       have aG : decide (a2 < (l0.length : Int)) = true := decide_eq_true c9; clear c9
       by_cases c10 : 0 ≤ a2
       ·rw [if_pos c10] at H
        have c10b0 : decide (0 ≤ a2) = true := decide_eq_true c10; clear c10; replace H := Option.bind_eq_some_iff.mp H; obtain ⟨af, ay, H⟩ := H; replace H : (if af = true then ((spec_l2Text.f k2 (rdOf ByteArray.empty l0 a2)).bind fun a5 => (if a6.length + a5.size < 140737488355328 then ((some (a6 ++ bytesOf a5 : List Int)).bind fun a4 => ((spec_Sum.f k2 (rdOf ByteArray.empty l0 a2) a1).bind fun a3 => (if a4.length + a3.size < 140737488355328 then (spec_Encode.l0 k2 l0 a1 (a4 ++ bytesOf a3) (wrap64 (a2 + 1))) else (none)))) else (none))) else (some (⟨#[]⟩ : ByteArray))) = some r := H; have A11 := Aside0.mk ay; clear ay
        by_cases aj : af = true
        ·subst aj
         have H1 : ((spec_l2Text.f k2 (rdOf ByteArray.empty l0 a2)).bind fun a5 => (if a6.length + a5.size < 140737488355328 then ((some (a6 ++ bytesOf a5 : List Int)).bind fun a4 => ((spec_Sum.f k2 (rdOf ByteArray.empty l0 a2) a1).bind fun a3 => (if a4.length + a3.size < 140737488355328 then (spec_Encode.l0 k2 l0 a1 (a4 ++ bytesOf a3) (wrap64 (a2 + 1))) else (none)))) else (none))) = some r := by rw [if_pos rfl] at H; exact H
         clear H; have H := H1; clear H1; replace H := Option.bind_eq_some_iff.mp H; obtain ⟨a5, az, H⟩ := H; replace H : (if a6.length + a5.size < 140737488355328 then ((some (a6 ++ bytesOf a5 : List Int)).bind fun a4 => ((spec_Sum.f k2 (rdOf ByteArray.empty l0 a2) a1).bind fun a3 => (if a4.length + a3.size < 140737488355328 then (spec_Encode.l0 k2 l0 a1 (a4 ++ bytesOf a3) (wrap64 (a2 + 1))) else (none)))) else (none)) = some r := H; have A13 := Aside0.mk az; clear az
         by_cases ak : a6.length + a5.size < 140737488355328
         ·rw [if_pos ak] at H
          have aH := Aside0.mk ak; clear ak
          obtain ⟨a4, ac⟩ : ∃ y_ : List Int, y_ = (a6 ++ bytesOf a5) := ⟨_, rfl⟩
          replace H : ((spec_Sum.f k2 (rdOf ByteArray.empty l0 a2) a1).bind fun a3 => (if a4.length + a3.size < 140737488355328 then (spec_Encode.l0 k2 l0 a1 (a4 ++ bytesOf a3) (wrap64 (a2 + 1))) else (none))) = some r := by first | (rw [ac]; with_reducible exact H) | (have H2_ := (Option.bind_some _ _).symm.trans H; rw [ac]; with_reducible exact H2_) | (have H2_ := (Option.bind_some _ _).symm.trans H; with_reducible exact H2_) | with_reducible exact H | (rw [ac]; exact H) | exact H
          have aI := Aside0.mk ac; clear ac; replace H := Option.bind_eq_some_iff.mp H; obtain ⟨a3, aA, H⟩ := H; replace H : (if a4.length + a3.size < 140737488355328 then (spec_Encode.l0 k2 l0 a1 (a4 ++ bytesOf a3) (wrap64 (a2 + 1))) else (none)) = some r := H; have A15 := Aside0.mk aA; clear aA
          by_cases al : a4.length + a3.size < 140737488355328
          ·rw [if_pos al] at H
           have aJ := Aside0.mk al; clear al
           obtain ⟨an, ad⟩ : ∃ y_ : List Int, y_ = (a4 ++ bytesOf a3) := ⟨_, rfl⟩
           replace H : (spec_Encode.l0 k2 l0 a1 an (wrap64 (a2 + 1))) = some r := by first | (rw [ad]; with_reducible exact H) | (have H2_ := (Option.bind_some _ _).symm.trans H; rw [ad]; with_reducible exact H2_) | (have H2_ := (Option.bind_some _ _).symm.trans H; with_reducible exact H2_) | with_reducible exact H | (rw [ad]; exact H) | exact H
           have aK := Aside0.mk ad; clear ad; have H' := Aside0.mk H; clear H; have a7 : 0 ≤ (a2 : Int) := oda; have a8 : a2 < (l0.length : Int) := oda; obtain ⟨ao, ap, aM⟩ := Kd.at_string (Kd.C_below ag.out HB.out) a2 a7 a8
           cases ap
           replace a7 := eq_true a7; replace a8 := eq_true a8
           go_wp2_with (first | ((with_reducible refine gc 24 rfl ?_); refine gl (some 27) _ (#[.int .i64 ((rdOf ByteArray.empty l0 a2).size : Int), .int .i64 1, .int .i64 1000]) Try.func24 ?_; (with_reducible refine (spec_l1In.calls ((rdOf ByteArray.empty l0 a2).size : Int) 1 1000 true _ A11.out).mono ?_); rintro e w' ⟨rfl, ⟨nd, rfl⟩⟩; refine ⟨_, rfl, ?_⟩; have aq : 0 ≤ (a2 : Int) := oda; have ar : a2 < (l0.length : Int) := oda; obtain ⟨aN, aP, aC⟩ := Kd.at_string ag.out a2 aq ar; obtain rfl : ao = aN := (by injection aP); replace aC := pw_cell_below HB.out aC; replace aq := eq_true aq; replace ar := eq_true ar) | ((with_reducible refine gc 32 rfl ?_); refine gl (some 34) _ (#[.string (rdOf ByteArray.empty l0 a2)]) Try.func32 ?_; (with_reducible refine (spec_l2Text.calls k2 (rdOf ByteArray.empty l0 a2) a5 _ A13.out).mono ?_); rintro e w17 ⟨rfl, hb⟩; refine ⟨_, rfl, ?_⟩; refine Ya2 (Kd.R_below (kr aa.out) hb) (below_step (be HB.out) hb) ?_; clear aa HB; intro aa HB; (try clear hb); (try clear hb2); (try clear hk); (try clear hi)) | (at_builtin; refine print_append_str (w0 := w) w.heap.size rfl (.tmp 29) _ 22 9 5 rfl Try.underlying22 Try.underlying9 info5 u5 a6 a5 rfl rfl ?aO ?aB ?aS ?aL ?_; (case aB => exact (be HB.out)); (case aO => exact (Kd.own_of_R (kr aa.out))); (case aS => exact (below_size (be HB.out))); (case aL => have := aH.out; omega); intro aD w18 ho0 hb hg; have ho := Kd.R_of_own (h1 := fun _ => rfl) (ok := fun _ => True) ho0 (fun _ _ => trivial); clear ho0; have hat := True.intro; rw [← aI.out] at ho; change Kd.R (Kd.int .u8) 5 w18 w.heap.size (fun _ => True) aD a4 at ho; refine Ya2 (hb) (ho) ?_; clear HB aa; intro HB ae; clear ho hb hg hat; have au : 0 ≤ (a2 : Int) := oda; have av : a2 < (l0.length : Int) := oda; obtain ⟨aQ, aR, aE⟩ := Kd.at_string ag.out a2 au av; obtain rfl : ao = aQ := (by injection aR); replace aE := pw_cell_below HB.out aE; replace au := eq_true au; replace av := eq_true av) | ((with_reducible refine gc 19 rfl ?_); refine gl (some 42) _ (#[.string (rdOf ByteArray.empty l0 a2), .int .i64 a1]) Try.func19 ?_; (with_reducible refine (spec_Sum.calls k2 (rdOf ByteArray.empty l0 a2) a1 a3 _ A15.out).mono ?_); rintro e w19 ⟨rfl, hb⟩; refine ⟨_, rfl, ?_⟩; refine Ya2 (Kd.R_below (kr ae.out) hb) (below_step (be HB.out) hb) ?_; clear ae HB; intro ae HB; (try clear hb); (try clear hb2); (try clear hk); (try clear hi)) | (at_builtin; refine print_append_str (w0 := w) w.heap.size rfl (.tmp 36) _ 22 9 5 rfl Try.underlying22 Try.underlying9 info5 aD a4 a3 rfl rfl ?aO ?aB ?aS ?aL ?_; (case aB => exact (be HB.out)); (case aO => exact (Kd.own_of_R (kr ae.out))); (case aS => exact (below_size (be HB.out))); (case aL => have := aJ.out; omega); intro aT w20 ho0 hb hg; have ho := Kd.R_of_own (h1 := fun _ => rfl) (ok := fun _ => True) ho0 (fun _ _ => trivial); clear ho0; have hat := True.intro; rw [← aK.out] at ho; change Kd.R (Kd.int .u8) 5 w20 w.heap.size (fun _ => True) aT an at ho; refine Ya2 (hb) (ho) ?_; clear HB ae; intro HB aU; clear ho hb hg hat))
           go_roundg k2
           case measure => have := HJ2.out; have := HK2.out; omega
           case rel => exact ⟨(an), (wrap64 (a2 + 1)), Ye1, H', ⟨by have := HJ2.out; have := HK2.out; omega⟩, ⟨kr aU.out⟩, ⟨be HB.out⟩⟩
          ·rw [if_neg al] at H
           exact absurd H (by simp)
         ·rw [if_neg ak] at H
          exact absurd H (by simp)
        ·replace aj := Bool.eq_false_iff.mpr aj; subst aj
         have H1 : (some (⟨#[]⟩ : ByteArray)) = some r := by rw [if_neg (show ¬ (false = true) by decide)] at H; exact H
         clear H; have H := H1; clear H1; obtain rfl := Option.some.inj H; have a7 : 0 ≤ (a2 : Int) := oda; have a8 : a2 < (l0.length : Int) := oda; obtain ⟨ao, ap, aM⟩ := Kd.at_string (Kd.C_below ag.out HB.out) a2 a7 a8
         cases ap
         replace a7 := eq_true a7; replace a8 := eq_true a8
         go_wp2_with (first | ((with_reducible refine gc 24 rfl ?_); refine gl (some 27) _ (#[.int .i64 ((rdOf ByteArray.empty l0 a2).size : Int), .int .i64 1, .int .i64 1000]) Try.func24 ?_; (with_reducible refine (spec_l1In.calls ((rdOf ByteArray.empty l0 a2).size : Int) 1 1000 false _ A11.out).mono ?_); rintro e w' ⟨rfl, ⟨nd, rfl⟩⟩; refine ⟨_, rfl, ?_⟩))
         go_ret
         exact ⟨Ye2, be HB.out⟩
       ·rw [if_neg c10] at H
        exact absurd H (by simp)
      ·rw [if_neg c9] at H
       have aG : decide (a2 < (l0.length : Int)) = false := decide_eq_false c9; clear c9; obtain rfl := Option.some.inj H; have hcv21 := own_string (P := Try.prog) Try.underlying22 Try.underlying5 Try.underlying9 (Kd.own_of_R aa.out)
       go_wp2
       go_ret
       exact ⟨Ye2, be HB.out⟩

end Go.Proofs.Ytknagppkeodggaa.P


namespace Go.Proofs.Ytknagppkeodggaa.P
open Go.RowKit Go.Proofs.YtknagppkeodggaaW.PrintWords Go.Proofs.YtknagppkeodggaaW.PrintLast Go.Proofs.YtknagppkeodggaaW.PrintMore
attribute [local go_sem] max2_int min2_int max_two min_two max_three min_three max_four min_four
set_option linter.unusedVariables false
set_option linter.unusedSimpArgs false

/-! ### spec_l3Front: function 23 -/
mutual
def spec_l3Front.l0 : Nat → ByteArray → Int → Int → Int → Int → Option (Int × ByteArray × Int)
 | 0, _, _, _, _, _ => none
 | k + 1, x0, x1, x7, x8, x9 => if x9 ≥ (x0.size : Int) then (if x9 ≥ 2 then (some (2, (⟨#[]⟩ : ByteArray), 0)) else (some (0, (⟨#[]⟩ : ByteArray), 0))) else (if 0 ≤ x9 then (if x9 < (x0.size : Int) then (if (wrap64 (bt x0 x9)) < 128 then ((spec_l1In.f (wrap64 (x7 + (wrap64 ((Int.tmod (wrap64 (bt x0 x9)) 128) * x8)))) 1 1000).bind fun an => (if an = true then ((spec_l2Short.f k (IntKind.u64.wrap (wrap64 (x7 + (wrap64 ((Int.tmod (wrap64 (bt x0 x9)) 128) * x8)))))).bind fun a9 => (if 0 ≤ (wrap64 (x9 + 1)) then (if (wrap64 (x9 + 1)) ≤ (x0.size : Int) then (spec_l3Front.j1 k x0 x1 (wrap64 (x7 + (wrap64 ((Int.tmod (wrap64 (bt x0 x9)) 128) * x8)))) (wrap64 (x9 + 1)) (a9.toList != (x0.extract 0 ((wrap64 (x9 + 1)) : Int).toNat).toList)) else (none)) else (none))) else (spec_l3Front.j1 k x0 x1 (wrap64 (x7 + (wrap64 ((Int.tmod (wrap64 (bt x0 x9)) 128) * x8)))) (wrap64 (x9 + 1)) true))) else (if (wrap64 (x9 + 1)) ≥ 2 then (some (2, (⟨#[]⟩ : ByteArray), 0)) else (spec_l3Front.l0 k x0 x1 (wrap64 (x7 + (wrap64 ((Int.tmod (wrap64 (bt x0 x9)) 128) * x8)))) (wrap64 (x8 * 128)) (wrap64 (x9 + 1))))) else (none)) else (none))
def spec_l3Front.j1 : Nat → ByteArray → Int → Int → Int → Bool → Option (Int × ByteArray × Int)
 | 0, _, _, _, _, _ => none
 | k + 1, x0, x1, x7, x9, x47 => if x47 = true then (some (2, (⟨#[]⟩ : ByteArray), 0)) else (if (x0.size : Int) < (wrap64 ((wrap64 (x9 + x7)) + x1)) then (some (0, (⟨#[]⟩ : ByteArray), 0)) else (if 0 ≤ x9 then (if x9 ≤ (wrap64 (x9 + x7)) then (if (wrap64 (x9 + x7)) ≤ (x0.size : Int) then ((spec_Sum.f k (x0.extract (x9 : Int).toNat ((wrap64 (x9 + x7)) : Int).toNat) x1).bind fun a7 => (if 0 ≤ (wrap64 (x9 + x7)) then (if (wrap64 (x9 + x7)) ≤ (wrap64 ((wrap64 (x9 + x7)) + x1)) then (if (wrap64 ((wrap64 (x9 + x7)) + x1)) ≤ (x0.size : Int) then (if a7.toList = (x0.extract ((wrap64 (x9 + x7)) : Int).toNat ((wrap64 ((wrap64 (x9 + x7)) + x1)) : Int).toNat).toList then (some (1, x0.extract (x9 : Int).toNat ((wrap64 (x9 + x7)) : Int).toNat, wrap64 ((wrap64 (x9 + x7)) + x1))) else (some (2, (⟨#[]⟩ : ByteArray), 0))) else (none)) else (none)) else (none))) else (none)) else (none)) else (none)))
end
def spec_l3Front.f (k : Nat) (a0 : ByteArray) (a1 : Int) : Option (Int × ByteArray × Int) := spec_l3Front.l0 k a0 a1 0 1 0
theorem spec_l3Front.mono_l : ∀ k, (∀ y0 y1 y2 y3 y4, LeO (spec_l3Front.l0 k y0 y1 y2 y3 y4) (spec_l3Front.l0 (k + 1) y0 y1 y2 y3 y4)) ∧ (∀ y0 y1 y2 y3 y4, LeO (spec_l3Front.j1 k y0 y1 y2 y3 y4) (spec_l3Front.j1 (k + 1) y0 y1 y2 y3 y4))
 | 0 => ⟨fun _ _ _ _ _ r h => by simp [spec_l3Front.l0] at h, fun _ _ _ _ _ r h => by simp [spec_l3Front.j1] at h⟩
 | k + 1 => by
  obtain ⟨ih0, ih1⟩ := spec_l3Front.mono_l k; refine ⟨?_, ?_⟩
  ·intro y0 y1 y2 y3 y4
   unfold spec_l3Front.l0
   repeat' first
   | (with_reducible exact ih0 _ _ _ _ _)
   | (with_reducible exact ih1 _ _ _ _ _)
   | (with_reducible exact spec_Sum.mono _ _ _)
   | (with_reducible exact spec_l2Short.mono _ _)
   | (with_reducible exact LeO.refl _)
   | (with_reducible exact LeO.none _)
   | (with_reducible refine LeO.ite ?_ ?_)
   | (with_reducible refine LeO.bind ?_ (fun _ => ?_))
   | exact ih0 _ _ _ _ _
   | exact ih1 _ _ _ _ _
   | exact spec_Sum.mono _ _ _
   | exact spec_l2Short.mono _ _
   | exact LeO.none _
   | refine LeO.ite ?_ ?_
   | refine LeO.bind ?_ (fun _ => ?_)
  ·intro y0 y1 y2 y3 y4
   unfold spec_l3Front.j1
   repeat' first
   | (with_reducible exact ih0 _ _ _ _ _)
   | (with_reducible exact ih1 _ _ _ _ _)
   | (with_reducible exact spec_Sum.mono _ _ _)
   | (with_reducible exact spec_l2Short.mono _ _)
   | (with_reducible exact LeO.refl _)
   | (with_reducible exact LeO.none _)
   | (with_reducible refine LeO.ite ?_ ?_)
   | (with_reducible refine LeO.bind ?_ (fun _ => ?_))
   | exact ih0 _ _ _ _ _
   | exact ih1 _ _ _ _ _
   | exact spec_Sum.mono _ _ _
   | exact spec_l2Short.mono _ _
   | exact LeO.none _
   | refine LeO.ite ?_ ?_
   | refine LeO.bind ?_ (fun _ => ?_)
theorem spec_l3Front.mono : ∀ a0 a1 k, LeO (spec_l3Front.f k a0 a1) (spec_l3Front.f (k + 1) a0 a1) := by
 intro a0 a1 k; obtain ⟨ih0, ih1⟩ := spec_l3Front.mono_l k
 unfold spec_l3Front.f
 repeat' first
   | (with_reducible exact ih0 _ _ _ _ _)
   | (with_reducible exact ih1 _ _ _ _ _)
   | (with_reducible exact spec_Sum.mono _ _ _)
   | (with_reducible exact spec_l2Short.mono _ _)
   | (with_reducible exact LeO.refl _)
   | (with_reducible exact LeO.none _)
   | (with_reducible refine LeO.ite ?_ ?_)
   | (with_reducible refine LeO.bind ?_ (fun _ => ?_))
   | exact ih0 _ _ _ _ _
   | exact ih1 _ _ _ _ _
   | exact spec_Sum.mono _ _ _
   | exact spec_l2Short.mono _ _
   | exact LeO.none _
   | refine LeO.ite ?_ ?_
   | refine LeO.bind ?_ (fun _ => ?_)
def spec_l3Front.T15 : Bool × List (List Nat × List Nat) := (true, [([], []), ([0], [0]), ([1], [1]), ([2, 1], [2]), ([3], [3]), ([4, 3], [3, 4]), ([5, 3, 3], [3, 5]), ([3], [3]), ([3], [3]), ([7, 8, 3], [3, 7, 8]), ([6, 9, 3], [3, 6, 9]), ([3, 10], [3, 10])])
def spec_l3Front.B15 : List Nat := [0, 1, 3, 7, 15, 31, 63, 15, 15, 399, 1023, 2047]
theorem spec_l3Front.tab15 : rtab .any (opsOf Try.f23 15) = spec_l3Front.T15 := by kernel_rfl
theorem spec_l3Front.bits15 : waitsOk spec_l3Front.T15.2 spec_l3Front.B15 = true := by kernel_rfl
def spec_l3Front.T20 : Bool × List (List Nat × List Nat) := (true, [([], []), ([], []), ([0, 1], [0, 1]), ([], []), ([], []), ([], []), ([4, 5], [4, 5]), ([], []), ([], []), ([7, 8], [7, 8]), ([], []), ([9, 10], [9, 10]), ([3, 6, 11], [3, 6, 11]), ([2, 12], [2, 12])])
def spec_l3Front.B20 : List Nat := [0, 0, 3, 0, 0, 0, 48, 0, 0, 384, 0, 1920, 4088, 8191]
theorem spec_l3Front.tab20 : rtab .any (opsOf Try.f23 20) = spec_l3Front.T20 := by kernel_rfl
theorem spec_l3Front.bits20 : waitsOk spec_l3Front.T20.2 spec_l3Front.B20 = true := by kernel_rfl
set_option maxHeartbeats 8000000 in
set_option maxRecDepth 100000 in
theorem spec_l3Front.calls (k : Nat) (a0 : ByteArray) (a1 : Int) (r1 : Int) (r2 : ByteArray) (r3 : Int) (w : World) (h : spec_l3Front.f k a0 a1 = some (r1, r2, r3)) :
  Calls Try.prog 23 #[.string a0, .int .i64 a1] w fun e w' => e = .returned (.tuple #[.int .i64 r1, .string r2, .int .i64 r3]) ∧ Below w.heap.size w w' := by
 have HB := Aside0.mk (Below.refl w.heap.size w); have H : (spec_l3Front.l0 k a0 a1 0 1 0) = some (r1, r2, r3) := h; clear h; have H' := Aside0.mk H; clear H
 go_enter Try.func23, Try.ntmps23
 go_wp2
 go_loopg [7, 8, 9] k (fun kq v7 v8 v9 w' => ∃ (a4 : Int) (a3 : Int) (a2 : Int), v7 = .int .i64 a4 ∧ v8 = .int .i64 a3 ∧ v9 = .int .i64 a2 ∧ Aside0 (spec_l3Front.l0 kq a0 a1 a4 a3 a2 = some (r1, r2, r3)) ∧ Aside0 (kq ≤ k) ∧ Aside0 (Below w.heap.size w w'))
 case atStart => exact ⟨(0), (1), (0), Ye1, Ye1, Ye1, H', ⟨Nat.le_refl _⟩, ⟨be HB.out⟩⟩
 case round =>
  clear H'; (try clear c2); (try clear p2); obtain ⟨a4, a3, a2, rfl, rfl, rfl, HA, HK1, HB⟩ := hrel
  cases gk with
  | zero => exact absurd HA.out (by simp [spec_l3Front.l0])
  | succ k1 =>
   have H := HA.out; clear HA; simp only [spec_l3Front.l0] at H
   by_cases c3 : a2 ≥ (a0.size : Int)
   ·rw [if_pos c3] at H
    have ay : decide ((a0.size : Int) ≤ a2) = true := decide_eq_true c3; clear c3
    by_cases c4 : a2 ≥ 2
    ·rw [if_pos c4] at H
     have az : decide (2 ≤ a2) = true := decide_eq_true c4; clear c4; simp only [Option.some.injEq, Prod.mk.injEq] at H; obtain ⟨rfl, rfl, rfl⟩ := H
     go_wp2
     go_ret3
     exact ⟨Ye2, be HB.out⟩
    ·rw [if_neg c4] at H
     have az : decide (2 ≤ a2) = false := decide_eq_false c4; clear c4; simp only [Option.some.injEq, Prod.mk.injEq] at H; obtain ⟨rfl, rfl, rfl⟩ := H
     go_wp2
     go_ret3
     exact ⟨Ye2, be HB.out⟩
   ·rw [if_neg c3] at H
    have ay : decide ((a0.size : Int) ≤ a2) = false := decide_eq_false c3; clear c3
    by_cases c5 : 0 ≤ a2
    ·rw [if_pos c5] at H
     have aF : decide (0 ≤ a2) = true := decide_eq_true c5; clear c5
     by_cases c6 : a2 < (a0.size : Int)
     ·rw [if_pos c6] at H
      have aG : decide (a2 < (a0.size : Int)) = true := decide_eq_true c6; clear c6
      by_cases c8 : (wrap64 (bt a0 a2)) < 128
      ·rw [if_pos c8] at H
       have aA : decide ((wrap64 (bt a0 a2)) < 128) = true := decide_eq_true c8; clear c8; have av := Aside0.mk H; clear H; have p7 : 0 ≤ (a2 : Int) := oda; have q7 : a2 < (a0.size : Int) := oda; have hx7 := bt_at a0 a2; replace p7 := eq_true p7; replace q7 := eq_true q7
       go_upto_region 15 with (fail)
       go_cut [47] (fun v47 wc => ∃ (kq : Nat) (ao : Bool), v47 = .bool ao ∧ Aside0 (spec_l3Front.j1 kq a0 a1 (wrap64 (a4 + (wrap64 ((Int.tmod (wrap64 (bt a0 a2)) 128) * a3)))) (wrap64 (a2 + 1)) ao = some (r1, r2, r3)) ∧ Aside0 (kq ≤ k1) ∧ Aside0 (Below w.heap.size w wc))
       case first =>
        have H := av.out; clear av; replace H := Option.bind_eq_some_iff.mp H; obtain ⟨an, aB, H⟩ := H; replace H : (if an = true then ((spec_l2Short.f k1 (IntKind.u64.wrap (wrap64 (a4 + (wrap64 ((Int.tmod (wrap64 (bt a0 a2)) 128) * a3)))))).bind fun a9 => (if 0 ≤ (wrap64 (a2 + 1)) then (if (wrap64 (a2 + 1)) ≤ (a0.size : Int) then (spec_l3Front.j1 k1 a0 a1 (wrap64 (a4 + (wrap64 ((Int.tmod (wrap64 (bt a0 a2)) 128) * a3)))) (wrap64 (a2 + 1)) (a9.toList != (a0.extract 0 ((wrap64 (a2 + 1)) : Int).toNat).toList)) else (none)) else (none))) else (spec_l3Front.j1 k1 a0 a1 (wrap64 (a4 + (wrap64 ((Int.tmod (wrap64 (bt a0 a2)) 128) * a3)))) (wrap64 (a2 + 1)) true)) = some (r1, r2, r3) := H; have aw := Aside0.mk aB; clear aB
        by_cases ai : an = true
        ·subst ai
         have H1 : ((spec_l2Short.f k1 (IntKind.u64.wrap (wrap64 (a4 + (wrap64 ((Int.tmod (wrap64 (bt a0 a2)) 128) * a3)))))).bind fun a9 => (if 0 ≤ (wrap64 (a2 + 1)) then (if (wrap64 (a2 + 1)) ≤ (a0.size : Int) then (spec_l3Front.j1 k1 a0 a1 (wrap64 (a4 + (wrap64 ((Int.tmod (wrap64 (bt a0 a2)) 128) * a3)))) (wrap64 (a2 + 1)) (a9.toList != (a0.extract 0 ((wrap64 (a2 + 1)) : Int).toNat).toList)) else (none)) else (none))) = some (r1, r2, r3) := by rw [if_pos rfl] at H; exact H
         clear H; have H := H1; clear H1; replace H := Option.bind_eq_some_iff.mp H; obtain ⟨a9, aC, H⟩ := H; replace H : (if 0 ≤ (wrap64 (a2 + 1)) then (if (wrap64 (a2 + 1)) ≤ (a0.size : Int) then (spec_l3Front.j1 k1 a0 a1 (wrap64 (a4 + (wrap64 ((Int.tmod (wrap64 (bt a0 a2)) 128) * a3)))) (wrap64 (a2 + 1)) (a9.toList != (a0.extract 0 ((wrap64 (a2 + 1)) : Int).toNat).toList)) else (none)) else (none)) = some (r1, r2, r3) := H; have A12 := Aside0.mk aC; clear aC
         obtain ⟨aa, ab⟩ : ∃ j_ : Int, (wrap64 (a2 + 1)) = j_ := ⟨_, rfl⟩
         replace H : (if 0 ≤ (aa) then (if (aa) ≤ (a0.size : Int) then (spec_l3Front.j1 k1 a0 a1 (wrap64 (a4 + (wrap64 ((Int.tmod (wrap64 (bt a0 a2)) 128) * a3)))) aa (a9.toList != (a0.extract 0 ((aa) : Int).toNat).toList)) else (none)) else (none)) = some (r1, r2, r3) := by first | (rw [ab] at H; exact H) | (simp only [ab] at H ⊢; exact H)
         (try rw [ab] at aw); (try rw [ab] at A12); have hji13w : (IntKind.i64.wrap (a2 + 1)) = aa := (i64_w _).trans ab
         by_cases ae : 0 ≤ (aa)
         ·rw [if_pos ae] at H
          have aH := eq_true ae; have aI : decide (0 ≤ (aa)) = true := decide_eq_true ae; clear ae
          by_cases af : (aa) ≤ (a0.size : Int)
          ·rw [if_pos af] at H
           have aJ := eq_true af; have aK : decide ((aa) ≤ (a0.size : Int)) = true := decide_eq_true af; clear af; have H' := Aside0.mk H; clear H
           try go_wp2
           refine Ya1 (below_drew1 HB.out) ?_; clear HB; intro HB; refine start_ (n := 12) (S := fun w' => True) (ds := []) (fb 12 0) (by kernel_rfl) rfl rfl trivial (fun hHeld => ?_); refine with_tabW spec_l3Front.tab15 spec_l3Front.bits15 (fun HT_ HW_ => ?_); generalize wr.drew = w16 at HB hHeld ⊢; refine pu 0 36 (fb 12 1) HT_ ?_; refine o1 1 (some 37) (fb 12 3) HT_ (fun K hK => ?_); refine gs _ (#[.int .i64 (wrap64 (a4 + (wrap64 ((Int.tmod (wrap64 (bt a0 a2)) 128) * a3)))), .int .i64 1, .int .i64 1000]) Try.func24 ?_; (with_reducible refine (spec_l1In.calls (wrap64 (a4 + (wrap64 ((Int.tmod (wrap64 (bt a0 a2)) 128) * a3)))) 1 1000 true _ aw.out).mono ?_); rintro e w' ⟨rfl, ⟨nd, rfl⟩⟩; refine ⟨_, rfl, ?_⟩; refine hK.out _ _ trivial (fun hHeld => ?_); clear hK K; refine nm 37 ?_; refine pu 2 38 (fb 12 7) HT_ ?_; refine pu 3 39 (fb 12 15) HT_ ?_; refine pu 4 40 (fb 12 31) HT_ ?_; refine pu 5 41 (fb 12 63) HT_ ?_; refine pu 7 43 (fb 12 191) HT_ ?_; refine pu 8 44 (fb 12 447) HT_ ?_; refine pu 9 45 (fb 12 959) HT_ ?_; refine o1 6 (some 42) (fb 12 1023) HT_ (fun K hK => ?_); refine gs _ (#[.int .u64 (IntKind.u64.wrap (wrap64 (a4 + (wrap64 ((Int.tmod (wrap64 (bt a0 a2)) 128) * a3)))))]) Try.func34 ?_; (with_reducible refine (spec_l2Short.calls k1 (IntKind.u64.wrap (wrap64 (a4 + (wrap64 ((Int.tmod (wrap64 (bt a0 a2)) 128) * a3))))) a9 _ A12.out).mono ?_); rintro e w17 ⟨rfl, hb⟩; refine ⟨_, rfl, ?_⟩; refine Ya1 (below_step (be HB.out) hb) ?_; clear HB; intro HB; (try clear hb); (try clear hb2); (try clear hk); (try clear hi); refine hK.out _ _ trivial (fun hHeld => ?_); clear hK K; refine nm 42 ?_; refine pu 10 46 (fb 12 2047) HT_ ?_; refine pu 11 47 (fb 12 4095) HT_ ?_; refine done_ (done_of HT_.out (by kernel_rfl)) ?_
           try go_wp2
           go_meet
           case rel => exact ⟨_, ((a9.toList != (a0.extract 0 ((aa) : Int).toNat).toList)), (by first | rfl | (simp; done) | (simp only [← ab] <;> (first | rfl | simp)) | (simp [*]; done)), (by first | exact H' | (subst ab; exact H') | (simp only [← ab] at H' ⊢; exact H')), ⟨by have := HK1.out; first | omega | exact Nat.le_refl _⟩, ⟨be HB.out⟩⟩
          ·rw [if_neg af] at H
           exact absurd H (by simp)
         ·rw [if_neg ae] at H
          exact absurd H (by simp)
        ·replace ai := Bool.eq_false_iff.mpr ai; subst ai
         have H1 : (spec_l3Front.j1 k1 a0 a1 (wrap64 (a4 + (wrap64 ((Int.tmod (wrap64 (bt a0 a2)) 128) * a3)))) (wrap64 (a2 + 1)) true) = some (r1, r2, r3) := by rw [if_neg (show ¬ (false = true) by decide)] at H; exact H
         clear H; have H := H1; clear H1; have H' := Aside0.mk H; clear H
         try go_wp2
         refine Ya1 (below_drew1 HB.out) ?_; clear HB; intro HB; refine start_ (n := 12) (S := fun w' => True) (ds := []) (fb 12 0) (by kernel_rfl) rfl rfl trivial (fun hHeld => ?_); refine with_tabW spec_l3Front.tab15 spec_l3Front.bits15 (fun HT_ HW_ => ?_); generalize wr.drew = w18 at HB hHeld ⊢; refine pu 0 36 (fb 12 1) HT_ ?_; refine o1 1 (some 37) (fb 12 3) HT_ (fun K hK => ?_); refine gs _ (#[.int .i64 (wrap64 (a4 + (wrap64 ((Int.tmod (wrap64 (bt a0 a2)) 128) * a3)))), .int .i64 1, .int .i64 1000]) Try.func24 ?_; (with_reducible refine (spec_l1In.calls (wrap64 (a4 + (wrap64 ((Int.tmod (wrap64 (bt a0 a2)) 128) * a3)))) 1 1000 false _ aw.out).mono ?_); rintro e w' ⟨rfl, ⟨nd, rfl⟩⟩; refine ⟨_, rfl, ?_⟩; refine hK.out _ _ trivial (fun hHeld => ?_); clear hK K; refine nm 37 ?_; refine pu 2 38 (fb 12 7) HT_ ?_; refine pu 3 39 (fb 12 15) HT_ ?_; refine pn 4 40 (fb 12 31) HT_ ?_; refine pn 5 41 (fb 12 63) HT_ ?_; refine pn 6 42 (fb 12 127) HT_ ?_; refine pn 7 43 (fb 12 255) HT_ ?_; refine pn 8 44 (fb 12 511) HT_ ?_; refine pn 9 45 (fb 12 1023) HT_ ?_; refine pn 10 46 (fb 12 2047) HT_ ?_; refine pu 11 47 (fb 12 4095) HT_ ?_; refine done_ (done_of HT_.out (by kernel_rfl)) ?_
         try go_wp2
         go_meet
         case rel => exact ⟨_, (true), Ye1, H', ⟨by have := HK1.out; first | omega | exact Nat.le_refl _⟩, ⟨be HB.out⟩⟩
       case rest =>
        clear av; (try clear c1); (try clear c2); (try clear p2); (try clear c3); (try clear ay); (try clear c4); (try clear az); (try clear c5); (try clear aF); (try clear c6); (try clear aG); (try clear p6); (try clear p7); (try clear q7); (try clear hx7); (try clear c8); (try clear aA); (try clear ai); (try clear ae); (try clear aH); (try clear aI); (try clear af); (try clear aJ); (try clear aK); (try clear p2); (try clear p7); (try clear q7); obtain ⟨kq, ao, rfl, HA, HJ8, HB⟩ := hcut
        cases kq with
        | zero => exact absurd HA.out (by simp [spec_l3Front.j1])
        | succ ap =>
         have H := HA.out; clear HA; simp only [spec_l3Front.j1] at H
         by_cases aq : ao = true
         ·subst aq
          have H1 : (some (2, (⟨#[]⟩ : ByteArray), 0)) = some (r1, r2, r3) := by rw [if_pos rfl] at H; exact H
          clear H; have H := H1; clear H1; simp only [Option.some.injEq, Prod.mk.injEq] at H; obtain ⟨rfl, rfl, rfl⟩ := H
          go_wp2
          go_ret3
          exact ⟨Ye2, be HB.out⟩
         ·replace aq := Bool.eq_false_iff.mpr aq; subst aq
          have H1 : (if (a0.size : Int) < (wrap64 ((wrap64 ((wrap64 (a2 + 1)) + (wrap64 (a4 + (wrap64 ((Int.tmod (wrap64 (bt a0 a2)) 128) * a3)))))) + a1)) then (some (0, (⟨#[]⟩ : ByteArray), 0)) else (if 0 ≤ (wrap64 (a2 + 1)) then (if (wrap64 (a2 + 1)) ≤ (wrap64 ((wrap64 (a2 + 1)) + (wrap64 (a4 + (wrap64 ((Int.tmod (wrap64 (bt a0 a2)) 128) * a3)))))) then (if (wrap64 ((wrap64 (a2 + 1)) + (wrap64 (a4 + (wrap64 ((Int.tmod (wrap64 (bt a0 a2)) 128) * a3)))))) ≤ (a0.size : Int) then ((spec_Sum.f ap (a0.extract ((wrap64 (a2 + 1)) : Int).toNat ((wrap64 ((wrap64 (a2 + 1)) + (wrap64 (a4 + (wrap64 ((Int.tmod (wrap64 (bt a0 a2)) 128) * a3)))))) : Int).toNat) a1).bind fun a7 => (if 0 ≤ (wrap64 ((wrap64 (a2 + 1)) + (wrap64 (a4 + (wrap64 ((Int.tmod (wrap64 (bt a0 a2)) 128) * a3)))))) then (if (wrap64 ((wrap64 (a2 + 1)) + (wrap64 (a4 + (wrap64 ((Int.tmod (wrap64 (bt a0 a2)) 128) * a3)))))) ≤ (wrap64 ((wrap64 ((wrap64 (a2 + 1)) + (wrap64 (a4 + (wrap64 ((Int.tmod (wrap64 (bt a0 a2)) 128) * a3)))))) + a1)) then (if (wrap64 ((wrap64 ((wrap64 (a2 + 1)) + (wrap64 (a4 + (wrap64 ((Int.tmod (wrap64 (bt a0 a2)) 128) * a3)))))) + a1)) ≤ (a0.size : Int) then (if a7.toList = (a0.extract ((wrap64 ((wrap64 (a2 + 1)) + (wrap64 (a4 + (wrap64 ((Int.tmod (wrap64 (bt a0 a2)) 128) * a3)))))) : Int).toNat ((wrap64 ((wrap64 ((wrap64 (a2 + 1)) + (wrap64 (a4 + (wrap64 ((Int.tmod (wrap64 (bt a0 a2)) 128) * a3)))))) + a1)) : Int).toNat).toList then (some (1, a0.extract ((wrap64 (a2 + 1)) : Int).toNat ((wrap64 ((wrap64 (a2 + 1)) + (wrap64 (a4 + (wrap64 ((Int.tmod (wrap64 (bt a0 a2)) 128) * a3)))))) : Int).toNat, wrap64 ((wrap64 ((wrap64 (a2 + 1)) + (wrap64 (a4 + (wrap64 ((Int.tmod (wrap64 (bt a0 a2)) 128) * a3)))))) + a1))) else (some (2, (⟨#[]⟩ : ByteArray), 0))) else (none)) else (none)) else (none))) else (none)) else (none)) else (none))) = some (r1, r2, r3) := by rw [if_neg (show ¬ (false = true) by decide)] at H; exact H
          clear H; have H := H1; clear H1
          by_cases ag : (a0.size : Int) < (wrap64 ((wrap64 ((wrap64 (a2 + 1)) + (wrap64 (a4 + (wrap64 ((Int.tmod (wrap64 (bt a0 a2)) 128) * a3)))))) + a1))
          ·rw [if_pos ag] at H
           have aD : decide ((a0.size : Int) < (wrap64 ((wrap64 ((wrap64 (a2 + 1)) + (wrap64 (a4 + (wrap64 ((Int.tmod (wrap64 (bt a0 a2)) 128) * a3)))))) + a1))) = true := decide_eq_true ag; clear ag; simp only [Option.some.injEq, Prod.mk.injEq] at H; obtain ⟨rfl, rfl, rfl⟩ := H
           go_wp2
           go_ret3
           exact ⟨Ye2, be HB.out⟩
          ·rw [if_neg ag] at H
           have aD : decide ((a0.size : Int) < (wrap64 ((wrap64 ((wrap64 (a2 + 1)) + (wrap64 (a4 + (wrap64 ((Int.tmod (wrap64 (bt a0 a2)) 128) * a3)))))) + a1))) = false := decide_eq_false ag; clear ag
           obtain ⟨a5, ac⟩ : ∃ j_ : Int, (wrap64 (a2 + 1)) = j_ := ⟨_, rfl⟩
           (try clear hji13w); (try clear ab)
           replace H : (if 0 ≤ (a5) then (if (a5) ≤ (wrap64 ((a5) + (wrap64 (a4 + (wrap64 ((Int.tmod (wrap64 (bt a0 a2)) 128) * a3)))))) then (if (wrap64 ((a5) + (wrap64 (a4 + (wrap64 ((Int.tmod (wrap64 (bt a0 a2)) 128) * a3)))))) ≤ (a0.size : Int) then ((spec_Sum.f ap (a0.extract ((a5) : Int).toNat ((wrap64 ((a5) + (wrap64 (a4 + (wrap64 ((Int.tmod (wrap64 (bt a0 a2)) 128) * a3)))))) : Int).toNat) a1).bind fun a7 => (if 0 ≤ (wrap64 ((a5) + (wrap64 (a4 + (wrap64 ((Int.tmod (wrap64 (bt a0 a2)) 128) * a3)))))) then (if (wrap64 ((a5) + (wrap64 (a4 + (wrap64 ((Int.tmod (wrap64 (bt a0 a2)) 128) * a3)))))) ≤ (wrap64 ((wrap64 ((a5) + (wrap64 (a4 + (wrap64 ((Int.tmod (wrap64 (bt a0 a2)) 128) * a3)))))) + a1)) then (if (wrap64 ((wrap64 ((a5) + (wrap64 (a4 + (wrap64 ((Int.tmod (wrap64 (bt a0 a2)) 128) * a3)))))) + a1)) ≤ (a0.size : Int) then (if a7.toList = (a0.extract ((wrap64 ((a5) + (wrap64 (a4 + (wrap64 ((Int.tmod (wrap64 (bt a0 a2)) 128) * a3)))))) : Int).toNat ((wrap64 ((wrap64 ((a5) + (wrap64 (a4 + (wrap64 ((Int.tmod (wrap64 (bt a0 a2)) 128) * a3)))))) + a1)) : Int).toNat).toList then (some (1, a0.extract ((a5) : Int).toNat ((wrap64 ((a5) + (wrap64 (a4 + (wrap64 ((Int.tmod (wrap64 (bt a0 a2)) 128) * a3)))))) : Int).toNat, wrap64 ((wrap64 ((a5) + (wrap64 (a4 + (wrap64 ((Int.tmod (wrap64 (bt a0 a2)) 128) * a3)))))) + a1))) else (some (2, (⟨#[]⟩ : ByteArray), 0))) else (none)) else (none)) else (none))) else (none)) else (none)) else (none)) = some (r1, r2, r3) := by first | (rw [ac] at H; exact H) | (simp only [ac] at H ⊢; exact H)
           (try rw [ac] at aD); have hji21w : (IntKind.i64.wrap (a2 + 1)) = a5 := (i64_w _).trans ac
           by_cases aj : 0 ≤ (a5)
           ·rw [if_pos aj] at H
            have c22b0 := eq_true aj; have c22b1 : decide (0 ≤ (a5)) = true := decide_eq_true aj; clear aj
            by_cases ak : (a5) ≤ (wrap64 ((a5) + (wrap64 (a4 + (wrap64 ((Int.tmod (wrap64 (bt a0 a2)) 128) * a3))))))
            ·rw [if_pos ak] at H
             have aL := eq_true ak; have aM : decide ((a5) ≤ (wrap64 ((a5) + (wrap64 (a4 + (wrap64 ((Int.tmod (wrap64 (bt a0 a2)) 128) * a3))))))) = true := decide_eq_true ak
             by_cases al : (wrap64 ((a5) + (wrap64 (a4 + (wrap64 ((Int.tmod (wrap64 (bt a0 a2)) 128) * a3)))))) ≤ (a0.size : Int)
             ·rw [if_pos al] at H
              have aN := eq_true al; have aO : decide ((wrap64 ((a5) + (wrap64 (a4 + (wrap64 ((Int.tmod (wrap64 (bt a0 a2)) 128) * a3)))))) ≤ (a0.size : Int)) = true := decide_eq_true al; replace H := Option.bind_eq_some_iff.mp H; obtain ⟨a7, aE, H⟩ := H; replace H : (if 0 ≤ (wrap64 ((a5) + (wrap64 (a4 + (wrap64 ((Int.tmod (wrap64 (bt a0 a2)) 128) * a3)))))) then (if (wrap64 ((a5) + (wrap64 (a4 + (wrap64 ((Int.tmod (wrap64 (bt a0 a2)) 128) * a3)))))) ≤ (wrap64 ((wrap64 ((a5) + (wrap64 (a4 + (wrap64 ((Int.tmod (wrap64 (bt a0 a2)) 128) * a3)))))) + a1)) then (if (wrap64 ((wrap64 ((a5) + (wrap64 (a4 + (wrap64 ((Int.tmod (wrap64 (bt a0 a2)) 128) * a3)))))) + a1)) ≤ (a0.size : Int) then (if a7.toList = (a0.extract ((wrap64 ((a5) + (wrap64 (a4 + (wrap64 ((Int.tmod (wrap64 (bt a0 a2)) 128) * a3)))))) : Int).toNat ((wrap64 ((wrap64 ((a5) + (wrap64 (a4 + (wrap64 ((Int.tmod (wrap64 (bt a0 a2)) 128) * a3)))))) + a1)) : Int).toNat).toList then (some (1, a0.extract ((a5) : Int).toNat ((wrap64 ((a5) + (wrap64 (a4 + (wrap64 ((Int.tmod (wrap64 (bt a0 a2)) 128) * a3)))))) : Int).toNat, wrap64 ((wrap64 ((a5) + (wrap64 (a4 + (wrap64 ((Int.tmod (wrap64 (bt a0 a2)) 128) * a3)))))) + a1))) else (some (2, (⟨#[]⟩ : ByteArray), 0))) else (none)) else (none)) else (none)) = some (r1, r2, r3) := H; have ax := Aside0.mk aE; clear aE
              obtain ⟨a6, a8⟩ : ∃ j_ : Int, (wrap64 ((a5) + (wrap64 (a4 + (wrap64 ((Int.tmod (wrap64 (bt a0 a2)) 128) * a3)))))) = j_ := ⟨_, rfl⟩
              replace H : (if 0 ≤ (a6) then (if (a6) ≤ (wrap64 ((a6) + a1)) then (if (wrap64 ((a6) + a1)) ≤ (a0.size : Int) then (if a7.toList = (a0.extract ((a6) : Int).toNat ((wrap64 ((a6) + a1)) : Int).toNat).toList then (some (1, a0.extract ((a5) : Int).toNat ((a6) : Int).toNat, wrap64 ((a6) + a1))) else (some (2, (⟨#[]⟩ : ByteArray), 0))) else (none)) else (none)) else (none)) = some (r1, r2, r3) := by first | (rw [a8] at H; exact H) | (simp only [a8] at H ⊢; exact H)
              (try rw [a8] at aL); (try rw [a8] at aM); (try rw [a8] at ak); (try rw [a8] at aN); (try rw [a8] at aO); (try rw [a8] at al); (try rw [a8] at ax); have hji26w : (IntKind.i64.wrap ((a5) + (wrap64 (a4 + (wrap64 ((Int.tmod (wrap64 (bt a0 a2)) 128) * a3)))))) = a6 := (i64_w _).trans a8
              by_cases am : 0 ≤ (a6)
              ·rw [if_pos am] at H
               have c27b0 := eq_true am; have c27b1 : decide (0 ≤ (a6)) = true := decide_eq_true am; clear am
               by_cases ar : (a6) ≤ (wrap64 ((a6) + a1))
               ·rw [if_pos ar] at H
                have c28b0 := eq_true ar; have c28b1 : decide ((a6) ≤ (wrap64 ((a6) + a1))) = true := decide_eq_true ar
                by_cases au : (wrap64 ((a6) + a1)) ≤ (a0.size : Int)
                ·rw [if_pos au] at H
                 have c29b0 := eq_true au; have c29b1 : decide ((wrap64 ((a6) + a1)) ≤ (a0.size : Int)) = true := decide_eq_true au
                 by_cases ad : a7.toList = (a0.extract ((a6) : Int).toNat ((wrap64 ((a6) + a1)) : Int).toNat).toList
                 ·rw [if_pos ad] at H
                  have aP : (a7.toList == (a0.extract ((a6) : Int).toNat ((wrap64 ((a6) + a1)) : Int).toNat).toList) = true := beq_iff_eq.mpr ad; have aQ : (a7.toList != (a0.extract ((a6) : Int).toNat ((wrap64 ((a6) + a1)) : Int).toNat).toList) = false := bne_eq_false_iff_eq.mpr ad; clear ad; simp only [Option.some.injEq, Prod.mk.injEq] at H; obtain ⟨rfl, rfl, rfl⟩ := H
                  try go_wp2
                  refine Ya1 (below_drew1 HB.out) ?_; clear HB; intro HB; refine start_ (n := 14) (S := fun w' => True) (ds := []) (fb 14 0) (by kernel_rfl) rfl rfl trivial (fun hHeld => ?_); refine with_tabW spec_l3Front.tab20 spec_l3Front.bits20 (fun HT_ HW_ => ?_); generalize wc.drew = w31 at HB hHeld ⊢; refine pu 0 62 (fb 14 1) HT_ ?_; refine pu 1 63 (fb 14 3) HT_ ?_; refine pu 3 65 (fb 14 11) HT_ ?_; refine pu 4 66 (fb 14 27) HT_ ?_; refine pu 5 67 (fb 14 59) HT_ ?_; refine pu 6 68 (fb 14 123) HT_ ?_; refine pu 7 69 (fb 14 251) HT_ ?_; refine pu 8 70 (fb 14 507) HT_ ?_; refine pu 9 71 (fb 14 1019) HT_ ?_; refine pu 10 72 (fb 14 2043) HT_ ?_; refine pu 11 73 (fb 14 4091) HT_ ?_; refine pu 12 74 (fb 14 8187) HT_ ?_; refine o1 2 (some 64) (fb 14 8191) HT_ (fun K hK => ?_); refine goes_ Try.func19 (by kernel_rfl) rfl #[.string (a0.extract ((a5) : Int).toNat ((a6) : Int).toNat), .int .i64 a1] (by rfl) rfl rfl (by (try simp only [List.map_toArray, List.map_cons, List.map_nil]); first | done | (simp only [ac, a8]; rfl) | rfl | (simp only [List.length_drop, List.length_take]; rfl)) ?_; (with_reducible refine (spec_Sum.calls ap (a0.extract ((a5) : Int).toNat ((a6) : Int).toNat) a1 a7 _ ax.out).mono ?_); rintro e w32 ⟨rfl, hb⟩; refine ⟨_, rfl, ?_⟩; refine Ya1 (below_step (be HB.out) hb) ?_; clear HB; intro HB; (try clear hb); (try clear hb2); (try clear hk); (try clear hi); refine hK.out _ _ trivial (fun hHeld => ?_); clear hK K; refine nm 64 ?_; refine pu 13 75 (fb 14 16383) HT_ ?_; refine done_ (done_of HT_.out (by kernel_rfl)) ?_
                  try go_wp2
                  go_ret3
                  exact ⟨by first | rfl | (simp [errW_none, errW_some] <;> rfl) | (simp only [← ac, ← a8]; first | rfl | (simp [errW_none, errW_some] <;> rfl)) | (simp [*, errW_none, errW_some] <;> rfl), be HB.out⟩
                 ·rw [if_neg ad] at H
                  have aP : (a7.toList == (a0.extract ((a6) : Int).toNat ((wrap64 ((a6) + a1)) : Int).toNat).toList) = false := beq_eq_false_iff_ne.mpr ad; have aQ : (a7.toList != (a0.extract ((a6) : Int).toNat ((wrap64 ((a6) + a1)) : Int).toNat).toList) = true := bne_iff_ne.mpr ad; simp only [Option.some.injEq, Prod.mk.injEq] at H; obtain ⟨rfl, rfl, rfl⟩ := H
                  try go_wp2
                  refine Ya1 (below_drew1 HB.out) ?_; clear HB; intro HB; refine start_ (n := 14) (S := fun w' => True) (ds := []) (fb 14 0) (by kernel_rfl) rfl rfl trivial (fun hHeld => ?_); refine with_tabW spec_l3Front.tab20 spec_l3Front.bits20 (fun HT_ HW_ => ?_); generalize wc.drew = w33 at HB hHeld ⊢; refine pu 0 62 (fb 14 1) HT_ ?_; refine pu 1 63 (fb 14 3) HT_ ?_; refine pu 3 65 (fb 14 11) HT_ ?_; refine pu 4 66 (fb 14 27) HT_ ?_; refine pu 5 67 (fb 14 59) HT_ ?_; refine pu 6 68 (fb 14 123) HT_ ?_; refine pu 7 69 (fb 14 251) HT_ ?_; refine pu 8 70 (fb 14 507) HT_ ?_; refine pu 9 71 (fb 14 1019) HT_ ?_; refine pu 10 72 (fb 14 2043) HT_ ?_; refine pu 11 73 (fb 14 4091) HT_ ?_; refine pu 12 74 (fb 14 8187) HT_ ?_; refine o1 2 (some 64) (fb 14 8191) HT_ (fun K hK => ?_); refine goes_ Try.func19 (by kernel_rfl) rfl #[.string (a0.extract ((a5) : Int).toNat ((a6) : Int).toNat), .int .i64 a1] (by rfl) rfl rfl (by (try simp only [List.map_toArray, List.map_cons, List.map_nil]); first | done | (simp only [ac, a8]; rfl) | rfl | (simp only [List.length_drop, List.length_take]; rfl)) ?_; (with_reducible refine (spec_Sum.calls ap (a0.extract ((a5) : Int).toNat ((a6) : Int).toNat) a1 a7 _ ax.out).mono ?_); rintro e w34 ⟨rfl, hb⟩; refine ⟨_, rfl, ?_⟩; refine Ya1 (below_step (be HB.out) hb) ?_; clear HB; intro HB; (try clear hb); (try clear hb2); (try clear hk); (try clear hi); refine hK.out _ _ trivial (fun hHeld => ?_); clear hK K; refine nm 64 ?_; refine pu 13 75 (fb 14 16383) HT_ ?_; refine done_ (done_of HT_.out (by kernel_rfl)) ?_
                  try go_wp2
                  go_ret3
                  exact ⟨by first | rfl | (simp [errW_none, errW_some] <;> rfl) | (simp only [← ac, ← a8]; first | rfl | (simp [errW_none, errW_some] <;> rfl)) | (simp [*, errW_none, errW_some] <;> rfl), be HB.out⟩
                ·rw [if_neg au] at H
                 exact absurd H (by simp)
               ·rw [if_neg ar] at H
                exact absurd H (by simp)
              ·rw [if_neg am] at H
               exact absurd H (by simp)
             ·rw [if_neg al] at H
              exact absurd H (by simp)
            ·rw [if_neg ak] at H
             exact absurd H (by simp)
           ·rw [if_neg aj] at H
            exact absurd H (by simp)
      ·rw [if_neg c8] at H
       have aA : decide ((wrap64 (bt a0 a2)) < 128) = false := decide_eq_false c8; clear c8
       by_cases ah : (wrap64 (a2 + 1)) ≥ 2
       ·rw [if_pos ah] at H
        have aR : decide (2 ≤ (wrap64 (a2 + 1))) = true := decide_eq_true ah; clear ah; simp only [Option.some.injEq, Prod.mk.injEq] at H; obtain ⟨rfl, rfl, rfl⟩ := H; have p7 : 0 ≤ (a2 : Int) := oda; have q7 : a2 < (a0.size : Int) := oda; have hx7 := bt_at a0 a2; replace p7 := eq_true p7; replace q7 := eq_true q7
        go_wp2
        go_ret3
        exact ⟨Ye2, be HB.out⟩
       ·rw [if_neg ah] at H
        have aR : decide (2 ≤ (wrap64 (a2 + 1))) = false := decide_eq_false ah; clear ah; have H' := Aside0.mk H; clear H; have p7 : 0 ≤ (a2 : Int) := oda; have q7 : a2 < (a0.size : Int) := oda; have hx7 := bt_at a0 a2; replace p7 := eq_true p7; replace q7 := eq_true q7
        go_wp2
        go_roundg k1
        case measure => have := HK1.out; omega
        case rel => exact ⟨(wrap64 (a4 + (wrap64 ((Int.tmod (wrap64 (bt a0 a2)) 128) * a3)))), (wrap64 (a3 * 128)), (wrap64 (a2 + 1)), Ye1, Ye1, Ye1, H', ⟨by have := HK1.out; omega⟩, ⟨be HB.out⟩⟩
     ·rw [if_neg c6] at H
      exact absurd H (by simp)
    ·rw [if_neg c5] at H
     exact absurd H (by simp)

end Go.Proofs.Ytknagppkeodggaa.P


namespace Go.Proofs.Ytknagppkeodggaa.P
open Go.RowKit Go.Proofs.YtknagppkeodggaaW.PrintWords Go.Proofs.YtknagppkeodggaaW.PrintLast Go.Proofs.YtknagppkeodggaaW.PrintMore
attribute [local go_sem] max2_int min2_int max_two min_two max_three min_three max_four min_four
set_option linter.unusedVariables false
set_option linter.unusedSimpArgs false

/-! ### spec_ValidDecoder: function 8 -/
mutual
def spec_ValidDecoder.j0 : Nat → Bool → Int → ByteArray → List ByteArray → Bool → Option (Bool)
 | 0, _, _, _, _, _ => none
 | k + 1, x16, af, ad, ae, ag => if x16 = true then (some false) else (spec_ValidDecoder.l0 k 0 af ad ae ag)
def spec_ValidDecoder.l0 : Nat → Int → Int → ByteArray → List ByteArray → Bool → Option (Bool)
 | 0, _, _, _, _, _ => none
 | k + 1, x3, af, ad, ae, ag => if x3 < (ae.length : Int) then (if 0 ≤ x3 then ((spec_l1In.f ((rdOf ByteArray.empty ae x3).size : Int) 1 1000).bind fun ah => (if ah = true then (spec_ValidDecoder.l0 k (wrap64 (x3 + 1)) af ad ae ag) else (some false))) else (none)) else (if ag = true then (some (ad.toList == ([] : List UInt8))) else ((spec_l3Front.f k ad af).bind fun bt121 => (some (bt121.1 == 0))))
end
def spec_ValidDecoder.f (k : Nat) (a0_0 : Int) (a0_1 : ByteArray) (a5 : List ByteArray) (a0_3 : Bool) : Option (Bool) := (spec_l1In.f a0_0 1 8).bind fun ac => (if ac = true then (spec_ValidDecoder.j0 k (decide ((a5.length : Int) > 500)) a0_0 a0_1 a5 a0_3) else (spec_ValidDecoder.j0 k true a0_0 a0_1 a5 a0_3))
theorem spec_ValidDecoder.mono_l : ∀ k, (∀ y0 y1 y2 y3 y4, LeO (spec_ValidDecoder.j0 k y0 y1 y2 y3 y4) (spec_ValidDecoder.j0 (k + 1) y0 y1 y2 y3 y4)) ∧ (∀ y0 y1 y2 y3 y4, LeO (spec_ValidDecoder.l0 k y0 y1 y2 y3 y4) (spec_ValidDecoder.l0 (k + 1) y0 y1 y2 y3 y4))
 | 0 => ⟨fun _ _ _ _ _ r h => by simp [spec_ValidDecoder.j0] at h, fun _ _ _ _ _ r h => by simp [spec_ValidDecoder.l0] at h⟩
 | k + 1 => by
  obtain ⟨ih0, ih1⟩ := spec_ValidDecoder.mono_l k; refine ⟨?_, ?_⟩
  ·intro y0 y1 y2 y3 y4
   unfold spec_ValidDecoder.j0
   repeat' first
   | (with_reducible exact ih0 _ _ _ _ _)
   | (with_reducible exact ih1 _ _ _ _ _)
   | (with_reducible exact spec_l3Front.mono _ _ _)
   | (with_reducible exact LeO.refl _)
   | (with_reducible exact LeO.none _)
   | (with_reducible refine LeO.ite ?_ ?_)
   | (with_reducible refine LeO.bind ?_ (fun _ => ?_))
   | exact ih0 _ _ _ _ _
   | exact ih1 _ _ _ _ _
   | exact spec_l3Front.mono _ _ _
   | exact LeO.none _
   | refine LeO.ite ?_ ?_
   | refine LeO.bind ?_ (fun _ => ?_)
  ·intro y0 y1 y2 y3 y4
   unfold spec_ValidDecoder.l0
   repeat' first
   | (with_reducible exact ih0 _ _ _ _ _)
   | (with_reducible exact ih1 _ _ _ _ _)
   | (with_reducible exact spec_l3Front.mono _ _ _)
   | (with_reducible exact LeO.refl _)
   | (with_reducible exact LeO.none _)
   | (with_reducible refine LeO.ite ?_ ?_)
   | (with_reducible refine LeO.bind ?_ (fun _ => ?_))
   | exact ih0 _ _ _ _ _
   | exact ih1 _ _ _ _ _
   | exact spec_l3Front.mono _ _ _
   | exact LeO.none _
   | refine LeO.ite ?_ ?_
   | refine LeO.bind ?_ (fun _ => ?_)
theorem spec_ValidDecoder.mono : ∀ a0 a1 a2 a3 k, LeO (spec_ValidDecoder.f k a0 a1 a2 a3) (spec_ValidDecoder.f (k + 1) a0 a1 a2 a3) := by
 intro a0 a1 a2 a3 k; obtain ⟨ih0, ih1⟩ := spec_ValidDecoder.mono_l k
 unfold spec_ValidDecoder.f
 repeat' first
   | (with_reducible exact ih0 _ _ _ _ _)
   | (with_reducible exact ih1 _ _ _ _ _)
   | (with_reducible exact spec_l3Front.mono _ _ _)
   | (with_reducible exact LeO.refl _)
   | (with_reducible exact LeO.none _)
   | (with_reducible refine LeO.ite ?_ ?_)
   | (with_reducible refine LeO.bind ?_ (fun _ => ?_))
   | exact ih0 _ _ _ _ _
   | exact ih1 _ _ _ _ _
   | exact spec_l3Front.mono _ _ _
   | exact LeO.none _
   | refine LeO.ite ?_ ?_
   | refine LeO.bind ?_ (fun _ => ?_)
set_option maxHeartbeats 8000000 in
set_option maxRecDepth 100000 in
theorem spec_ValidDecoder.calls (k : Nat) (a0_0 : Int) (a0_1 : ByteArray) (a8 : Option Addr) (a9 : Nat) (a5 : List ByteArray) (a0_3 : Bool) (r : Bool) (w : World) (ao : Kd.C Kd.string w a8 a5.length a5) (ap : a5.length ≤ a9) (h : spec_ValidDecoder.f k a0_0 a0_1 a5 a0_3 = some r) :
  Calls Try.prog 8 #[.agg #[.int .i64 a0_0, .string a0_1, .slice a8 a5.length a9, .bool a0_3]] w fun e w' => e = .returned (.bool r) ∧ Below w.heap.size w w' := by
 have hu25 := Try.underlying25; have aq := Aside0.mk ao; have HC0_2 := Aside0.mk ap; clear ao ap; have HB := Aside0.mk (Below.refl w.heap.size w); have H : ((spec_l1In.f a0_0 1 8).bind fun ac => (if ac = true then (spec_ValidDecoder.j0 k (decide ((a5.length : Int) > 500)) a0_0 a0_1 a5 a0_3) else (spec_ValidDecoder.j0 k true a0_0 a0_1 a5 a0_3))) = some r := h; clear h; have al := Aside0.mk H; clear H
 go_enter Try.func8, Try.ntmps8
 go_upto_region 1 with (first | ((with_reducible refine gd 1 rfl ?_); (try (refine gate_guard (by rfl) ?_; dsimp only)); refine bx 1 25 (#[.int .i64 a0_0, .string a0_1, .slice a8 a5.length a9, .bool a0_3]) ?_; intro a6 hg w3 hbox hb; refine Ya4 (below_step (be HB.out) hb) (hbox) (bs hg (be HB.out)) (bs hg (be HB.out)) ?_; clear HB; intro HB a4 GW117 GE117; clear hb hbox hg))
 (try simp only [Act.put, List.setIfInBounds_toArray, List.set_cons_zero, List.set_cons_succ])
 go_cut [16] (fun v16 wc => ∃ (kq : Nat) (ai : Bool), v16 = .bool ai ∧ Aside0 (spec_ValidDecoder.j0 kq ai a0_0 a0_1 a5 a0_3 = some r) ∧ Aside0 (kq ≤ k) ∧ Aside0 (wc.heap[a6]? = some (.cells #[.int .i64 a0_0, .string a0_1, (.slice a8 a5.length a9), .bool a0_3] 25 (0, 0))) ∧ Aside0 (Below w.heap.size w wc))
 case first =>
  have H := al.out; clear al; replace H := Option.bind_eq_some_iff.mp H; obtain ⟨ac, A40, H⟩ := H; replace H : (if ac = true then (spec_ValidDecoder.j0 k (decide ((a5.length : Int) > 500)) a0_0 a0_1 a5 a0_3) else (spec_ValidDecoder.j0 k true a0_0 a0_1 a5 a0_3)) = some r := H; have A4 := Aside0.mk A40; clear A40
  by_cases c5 : ac = true
  ·subst c5
   have H1 : (spec_ValidDecoder.j0 k (decide ((a5.length : Int) > 500)) a0_0 a0_1 a5 a0_3) = some r := by rw [if_pos rfl] at H; exact H
   clear H; have H := H1; clear H1; have H' := Aside0.mk H; clear H; have ar : w3.cell? ⟨a6, 0, none⟩ = some (.int .i64 a0_0) := bc a4 0; have au : w3.cell? ⟨a6, 1, none⟩ = some (.string a0_1) := bc a4 1; have av : w3.cell? ⟨a6, 2, none⟩ = some (.slice a8 a5.length a9) := bc a4 2; have aw : w3.cell? ⟨a6, 3, none⟩ = some (.bool a0_3) := bc a4 3; have ax := blk_frozen a4.out 0; have ay := blk_frozen a4.out 1; have az := blk_frozen a4.out 2; have aA := blk_frozen a4.out 3
   go_wp2_with (first | ((with_reducible refine gc 24 rfl ?_); refine gl (some 9) _ (#[.int .i64 a0_0, .int .i64 1, .int .i64 8]) Try.func24 ?_; (with_reducible refine (spec_l1In.calls a0_0 1 8 true _ A4.out).mono ?_); rintro e w' ⟨rfl, ⟨nd, rfl⟩⟩; refine ⟨_, rfl, ?_⟩))
   go_meet
   case rel => exact ⟨_, (decide ((a5.length : Int) > 500)), Ye1, H', ⟨by first | omega | exact Nat.le_refl _⟩, ⟨bk a4.out⟩, ⟨bf HB.out⟩⟩
  ·replace c5 := Bool.eq_false_iff.mpr c5; subst c5
   have H1 : (spec_ValidDecoder.j0 k true a0_0 a0_1 a5 a0_3) = some r := by rw [if_neg (show ¬ (false = true) by decide)] at H; exact H
   clear H; have H := H1; clear H1; have H' := Aside0.mk H; clear H; have aB : w3.cell? ⟨a6, 0, none⟩ = some (.int .i64 a0_0) := bc a4 0; have aC : w3.cell? ⟨a6, 1, none⟩ = some (.string a0_1) := bc a4 1; have aD : w3.cell? ⟨a6, 2, none⟩ = some (.slice a8 a5.length a9) := bc a4 2; have aE : w3.cell? ⟨a6, 3, none⟩ = some (.bool a0_3) := bc a4 3; have aF := blk_frozen a4.out 0; have aG := blk_frozen a4.out 1; have aH := blk_frozen a4.out 2; have aI := blk_frozen a4.out 3
   go_wp2_with (first | ((with_reducible refine gc 24 rfl ?_); refine gl (some 9) _ (#[.int .i64 a0_0, .int .i64 1, .int .i64 8]) Try.func24 ?_; (with_reducible refine (spec_l1In.calls a0_0 1 8 false _ A4.out).mono ?_); rintro e w' ⟨rfl, ⟨nd, rfl⟩⟩; refine ⟨_, rfl, ?_⟩))
   go_meet
   case rel => exact ⟨_, (true), Ye1, H', ⟨by first | omega | exact Nat.le_refl _⟩, ⟨bk a4.out⟩, ⟨bf HB.out⟩⟩
 case rest =>
  clear al; (try clear c2); (try clear p2); (try clear c5); (try clear ar); (try clear au); (try clear av); (try clear aw); (try clear aB); (try clear aC); (try clear aD); (try clear aE); (try clear ax); (try clear ay); (try clear az); (try clear aA); (try clear aF); (try clear aG); (try clear aH); (try clear aI); obtain ⟨kq, ai, rfl, HA, HJ1, a4, HB⟩ := hcut
  cases kq with
  | zero => exact absurd HA.out (by simp [spec_ValidDecoder.j0])
  | succ am =>
   have H := HA.out; clear HA; simp only [spec_ValidDecoder.j0] at H
   by_cases c8 : ai = true
   ·subst c8
    have H1 : (some false) = some r := by rw [if_pos rfl] at H; exact H
    clear H; have H := H1; clear H1; obtain rfl := Option.some.inj H
    go_wp2
    go_ret
    exact ⟨Ye2, (bf HB.out)⟩
   ·replace c8 := Bool.eq_false_iff.mpr c8; subst c8
    have H1 : (spec_ValidDecoder.l0 am 0 a0_0 a0_1 a5 a0_3) = some r := by rw [if_neg (show ¬ (false = true) by decide)] at H; exact H
    clear H; have H := H1; clear H1; have H' := Aside0.mk H; clear H
    go_wp2
    go_loopg [3] am (fun kq v3 w' => ∃ (a7 : Int), v3 = .int .i64 a7 ∧ Aside0 (spec_ValidDecoder.l0 kq a7 a0_0 a0_1 a5 a0_3 = some r) ∧ Aside0 (kq ≤ am) ∧ Aside0 (w'.heap[a6]? = some (.cells #[.int .i64 a0_0, .string a0_1, (.slice a8 a5.length a9), .bool a0_3] 25 (0, 0))) ∧ Aside0 (Below w.heap.size w w'))
    case atStart => exact ⟨(0), Ye1, H', ⟨Nat.le_refl _⟩, ⟨bk a4.out⟩, ⟨bf HB.out⟩⟩
    case round =>
     clear H'; (try clear c2); (try clear p2); (try clear c5); (try clear c8); (try clear ar); (try clear au); (try clear av); (try clear aw); (try clear aB); (try clear aC); (try clear aD); (try clear aE); (try clear ax); (try clear ay); (try clear az); (try clear aA); (try clear aF); (try clear aG); (try clear aH); (try clear aI); (try clear p2); obtain ⟨a7, rfl, HA, HK2, a4, HB⟩ := hrel
     cases gk with
     | zero => exact absurd HA.out (by simp [spec_ValidDecoder.l0])
     | succ k2 =>
      have H := HA.out; clear HA; simp only [spec_ValidDecoder.l0] at H
      by_cases c9 : a7 < (a5.length : Int)
      ·rw [if_pos c9] at H
       have aM : decide (a7 < (a5.length : Int)) = true := decide_eq_true c9; clear c9
       by_cases c10 : 0 ≤ a7
       ·rw [if_pos c10] at H
        have c10b0 : decide (0 ≤ a7) = true := decide_eq_true c10; clear c10; replace H := Option.bind_eq_some_iff.mp H; obtain ⟨ah, aJ, H⟩ := H; replace H : (if ah = true then (spec_ValidDecoder.l0 k2 (wrap64 (a7 + 1)) a0_0 a0_1 a5 a0_3) else (some false)) = some r := H; have A11 := Aside0.mk aJ; clear aJ
        by_cases aj : ah = true
        ·subst aj
         have H1 : (spec_ValidDecoder.l0 k2 (wrap64 (a7 + 1)) a0_0 a0_1 a5 a0_3) = some r := by rw [if_pos rfl] at H; exact H
         clear H; have H := H1; clear H1; have H' := Aside0.mk H; clear H; have aR : wr.cell? ⟨a6, 0, none⟩ = some (.int .i64 a0_0) := bc a4 0; have aS : wr.cell? ⟨a6, 1, none⟩ = some (.string a0_1) := bc a4 1; have aT : wr.cell? ⟨a6, 2, none⟩ = some (.slice a8 a5.length a9) := bc a4 2; have aU : wr.cell? ⟨a6, 3, none⟩ = some (.bool a0_3) := bc a4 3; have aV := blk_frozen a4.out 0; have aW := blk_frozen a4.out 1; have aX := blk_frozen a4.out 2; have aY := blk_frozen a4.out 3; have aa : 0 ≤ (a7 : Int) := oda; have ab : a7 < (a5.length : Int) := oda; obtain ⟨aN, an, aO⟩ := Kd.at_string (Kd.C_below aq.out HB.out) a7 aa ab
         cases an
         replace aa := eq_true aa; replace ab := eq_true ab
         go_wp2_with (first | ((with_reducible refine gc 24 rfl ?_); refine gl (some 30) _ (#[.int .i64 ((rdOf ByteArray.empty a5 a7).size : Int), .int .i64 1, .int .i64 1000]) Try.func24 ?_; (with_reducible refine (spec_l1In.calls ((rdOf ByteArray.empty a5 a7).size : Int) 1 1000 true _ A11.out).mono ?_); rintro e w' ⟨rfl, ⟨nd, rfl⟩⟩; refine ⟨_, rfl, ?_⟩))
         go_roundg k2
         case measure => have := HJ1.out; have := HK2.out; omega
         case rel => exact ⟨(wrap64 (a7 + 1)), Ye1, H', ⟨by have := HJ1.out; have := HK2.out; omega⟩, ⟨bk a4.out⟩, ⟨bf HB.out⟩⟩
        ·replace aj := Bool.eq_false_iff.mpr aj; subst aj
         have H1 : (some false) = some r := by rw [if_neg (show ¬ (false = true) by decide)] at H; exact H
         clear H; have H := H1; clear H1; obtain rfl := Option.some.inj H; have aZ : wr.cell? ⟨a6, 0, none⟩ = some (.int .i64 a0_0) := bc a4 0; have b0 : wr.cell? ⟨a6, 1, none⟩ = some (.string a0_1) := bc a4 1; have b1 : wr.cell? ⟨a6, 2, none⟩ = some (.slice a8 a5.length a9) := bc a4 2; have b2 : wr.cell? ⟨a6, 3, none⟩ = some (.bool a0_3) := bc a4 3; have b3 := blk_frozen a4.out 0; have b4 := blk_frozen a4.out 1; have b5 := blk_frozen a4.out 2; have b6 := blk_frozen a4.out 3; have aa : 0 ≤ (a7 : Int) := oda; have ab : a7 < (a5.length : Int) := oda; obtain ⟨aN, an, aO⟩ := Kd.at_string (Kd.C_below aq.out HB.out) a7 aa ab
         cases an
         replace aa := eq_true aa; replace ab := eq_true ab
         go_wp2_with (first | ((with_reducible refine gc 24 rfl ?_); refine gl (some 30) _ (#[.int .i64 ((rdOf ByteArray.empty a5 a7).size : Int), .int .i64 1, .int .i64 1000]) Try.func24 ?_; (with_reducible refine (spec_l1In.calls ((rdOf ByteArray.empty a5 a7).size : Int) 1 1000 false _ A11.out).mono ?_); rintro e w' ⟨rfl, ⟨nd, rfl⟩⟩; refine ⟨_, rfl, ?_⟩))
         go_ret
         exact ⟨Ye2, (bf HB.out)⟩
       ·rw [if_neg c10] at H
        exact absurd H (by simp)
      ·rw [if_neg c9] at H
       have aM : decide (a7 < (a5.length : Int)) = false := decide_eq_false c9; clear c9
       by_cases ak : a0_3 = true
       ·subst ak
        have H1 : (some (a0_1.toList == ([] : List UInt8))) = some r := by rw [if_pos rfl] at H; exact H
        clear H; have H := H1; clear H1; obtain rfl := Option.some.inj H; have b7 : wr.cell? ⟨a6, 0, none⟩ = some (.int .i64 a0_0) := bc a4 0; have b8 : wr.cell? ⟨a6, 1, none⟩ = some (.string a0_1) := bc a4 1; have b9 : wr.cell? ⟨a6, 2, none⟩ = some (.slice a8 a5.length a9) := bc a4 2; have ba : wr.cell? ⟨a6, 3, none⟩ = some (.bool true) := bc a4 3; have bd := blk_frozen a4.out 0; have bg := blk_frozen a4.out 1; have bh := blk_frozen a4.out 2; have bi := blk_frozen a4.out 3
        go_wp2
        go_ret
        exact ⟨Ye2, (bf HB.out)⟩
       ·replace ak := Bool.eq_false_iff.mpr ak; subst ak
        have H1 : ((spec_l3Front.f k2 a0_1 a0_0).bind fun bt121 => (some (bt121.1 == 0))) = some r := by rw [if_neg (show ¬ (false = true) by decide)] at H; exact H
        clear H; have H := H1; clear H1; replace H := Option.bind_eq_some_iff.mp H; obtain ⟨⟨aK, aP, aQ⟩, aL, H⟩ := H; replace H : (some (aK == 0)) = some r := H; have A17 := Aside0.mk aL; clear aL; obtain rfl := Option.some.inj H; have bj : wr.cell? ⟨a6, 0, none⟩ = some (.int .i64 a0_0) := bc a4 0; have bm : wr.cell? ⟨a6, 1, none⟩ = some (.string a0_1) := bc a4 1; have bn : wr.cell? ⟨a6, 2, none⟩ = some (.slice a8 a5.length a9) := bc a4 2; have bo : wr.cell? ⟨a6, 3, none⟩ = some (.bool false) := bc a4 3; have bq := blk_frozen a4.out 0; have bu := blk_frozen a4.out 1; have bv := blk_frozen a4.out 2; have bw := blk_frozen a4.out 3
        go_wp2_with (first | ((with_reducible refine gc 23 rfl ?_); refine gl (some 42) _ (#[.string a0_1, .int .i64 a0_0]) Try.func23 ?_; (with_reducible refine (spec_l3Front.calls k2 a0_1 a0_0 aK aP aQ _ A17.out).mono ?_); rintro e w19 ⟨rfl, hb⟩; refine ⟨_, rfl, ?_⟩; refine Ya2 (bb a4 hb) (below_step (bf HB.out) hb) ?_; clear a4 HB; intro a4 HB; (try clear hb); (try clear hb2); (try clear hk); (try clear hi)))
        go_ret
        exact ⟨Ye2, (bf HB.out)⟩

end Go.Proofs.Ytknagppkeodggaa.P

