/- Several texts of this claim in one file: YtknagppkeodggaaDoorPImplFind, YtknagppkeodggaaDoorPImplIn, YtknagppkeodggaaDoorPImplGoodPart, YtknagppkeodggaaDoorPStringsSplit, YtknagppkeodggaaDoorPImplParts, YtknagppkeodggaaDoorPImplValidPath, YtknagppkeodggaaDoorPImplGoodEntry, YtknagppkeodggaaDoorPStringsliteHasPrefix, YtknagppkeodggaaDoorPStringsHasPrefix, YtknagppkeodggaaDoorPImplOver, YtknagppkeodggaaDoorPImplValidTree, YtknagppkeodggaaDoorPImplGet, YtknagppkeodggaaDoorPImplSorted, YtknagppkeodggaaDoorPImplPut, YtknagppkeodggaaDoorPImplEntry75, YtknagppkeodggaaDoorPImplEntry76, YtknagppkeodggaaDoorPImplRemove, YtknagppkeodggaaDoorPLawsWTree, YtknagppkeodggaaDoorPSpecL1Many, YtknagppkeodggaaDoorPSpecL1Open, YtknagppkeodggaaDoorPSpecL5Set, YtknagppkeodggaaDoorPSpecL5Begins, YtknagppkeodggaaDoorPSpecL1In. -/
import Derived.Test.YtknagppkeodggaaDoorM2
import Derived.Test.YtknagppkeodggaaDoorM3
import Derived.Deep.QuietTactic
import Derived.Lib.SplitLaws
import Derived.Shelf.SlSortFuncK.WholeK
import Derived.Shelf.GgSortFunc.Tiny
import Derived.Deep.RegionLaw
import Derived.Lib.SliceRun
import Derived.Shelf.Slices.Delete
import Derived.Laws.AppendOwn
import Derived.Shelf.Slices.Clone
namespace Go.Proofs.YtknagppkeodggaaDoor.P
open Go.RowKit Go.Proofs.YtknagppkeodggaaDoorW.PrintWords Go.Proofs.YtknagppkeodggaaDoorW.PrintLast Go.Proofs.YtknagppkeodggaaDoorW.PrintMore
attribute [local go_sem] max2_int min2_int max_two min_two max_three min_three max_four min_four
set_option linter.unusedVariables false
set_option linter.unusedSimpArgs false

/-! ### impl_find: function 74 -/
def impl_find.g (l : List S27) (path : ByteArray) (i : Nat) : Int := Go.Lib.compareBytes path.data.toList (rd_T27 l (i : Int)).f0.data.toList
def impl_find.l0 (g : Nat → Int) : Nat → Nat → Nat → Option Nat
 | 0, _, _ => none
 | k + 1, i, j => if i < j then (if g ((i + j) / 2) > 0 then impl_find.l0 g k ((i + j) / 2 + 1) j else impl_find.l0 g k i ((i + j) / 2)) else some i
def impl_find.f (k : Nat) (l0 : List S27) (a1 : ByteArray) : Option (Int × Bool) := if l0.length ≤ 4611686018427387904 then ((impl_find.l0 (impl_find.g l0 a1) k 0 l0.length).bind fun i => some ((i : Int), if i < l0.length then (impl_find.g l0 a1 i == 0) else false)) else none
theorem impl_find.mono_l (g : Nat → Int) : ∀ k i j, LeO (impl_find.l0 g k i j) (impl_find.l0 g (k + 1) i j)
 | 0, _, _ => fun r h => by simp [impl_find.l0] at h
 | k + 1, i, j => by
  unfold impl_find.l0
  exact LeO.ite (LeO.ite (impl_find.mono_l g k _ _) (impl_find.mono_l g k _ _)) (LeO.refl _)
theorem impl_find.mono : ∀ l0 a1 k, LeO (impl_find.f k l0 a1) (impl_find.f (k + 1) l0 a1) := fun l0 a1 k => by
 unfold impl_find.f
 exact LeO.ite (LeO.bind (impl_find.mono_l _ _ _ _) (fun _ => LeO.refl _)) (LeO.refl _)
set_option maxHeartbeats 1000000 in
set_option maxRecDepth 100000 in
theorem impl_find.cmp_calls (A : Option Addr) (c : Nat) (l : List S27) (path : ByteArray) (Bp Bt : Nat) (W : World) (hp : W.cell? ⟨Bp, 0, none⟩ = some (.string path)) (ht : W.cell? ⟨Bt, 0, none⟩ = some (.slice A l.length c)) (hc : Kd.C k27 W A l.length l) (i : Nat) (hi : i < l.length) :
  Calls Tryd.prog 143 #[.int .i64 (i : Int), .pointer (some ⟨Bp, 0, none⟩), .pointer (some ⟨Bt, 0, none⟩)] W fun e w' => e = .returned (.int .i64 (impl_find.g l path i)) ∧ ∃ nd, w' = W.drewN nd := by
 obtain ⟨ad, e1, hx0⟩ := at_T27 hc (i : Int) (by omega) (by omega); subst e1; have hu29 := Tryd.underlying25; have hu45 := Tryd.underlying27; obtain ⟨hx1, hx2, hx3⟩ := hx0
 rw [Int.toNat_natCast] at hx1 hx2 hx3
 have c1 : decide ((i : Int) < (l.length : Int)) = true := decide_eq_true (by omega); have c2 : decide (0 ≤ (i : Int)) = true := decide_eq_true (by omega); have c3 : decide (i < l.length) = true := decide_eq_true hi
 go_enter Tryd.func143, Tryd.ntmps143
 go_wp2
 go_quiet (first | (go_at_call 144; exact Calls.quiet_of_same (Tryd.strings_Compare path (rd_T27 l (i : Int)).f0 _)))
 go_wp2
 go_ret
 exact ⟨rfl, nq, rfl⟩
set_option maxHeartbeats 1000000 in
set_option maxRecDepth 100000 in
theorem impl_find.calls (k : Nat) (a2 : Option Addr) (a3 : Nat) (a0 : List S27) (a1 : ByteArray) (r1 : Int) (r2 : Bool) (w : World) (a4 : Kd.C k27 w a2 a0.length a0) (hc0_0 : a0.length ≤ a3) (h : impl_find.f k a0 a1 = some (r1, r2)) :
  Calls Tryd.prog 74 #[.agg #[.slice a2 a0.length a3], .string a1] w fun e w' => e = .returned (.tuple #[.int .i64 r1, .bool r2]) ∧ Below w.heap.size w w' := by
 have hu29 := Tryd.underlying25; have hu45 := Tryd.underlying27
 unfold impl_find.f at h
 have hl62 : a0.length ≤ 4611686018427387904 := by
  refine Classical.byContradiction fun hn => ?_
  rw [if_neg hn] at h
  cases h
 rw [if_pos hl62] at h
 have HL := Aside0.mk hl62; clear hl62; obtain ⟨m, hm, h2⟩ := Option.bind_eq_some_iff.1 h; obtain ⟨rfl, rfl⟩ := Prod.mk.inj (Option.some.inj h2); clear h h2; have HM := Aside0.mk hm; clear hm
 go_enter Tryd.func74, Tryd.ntmps74
 go_wp2
 have ht : ((w.alloc (.cells #[.slice a2 a0.length a3] 25)).alloc (.cells #[.string a1] 9)).cell? ⟨w.heap.size, 0, none⟩ = some (.slice a2 a0.length a3) := by simp
 have hp : ((w.alloc (.cells #[.slice a2 a0.length a3] 25)).alloc (.cells #[.string a1] 9)).cell? ⟨w.heap.size + 1, 0, none⟩ = some (.string a1) := by simp
 have hc : Kd.C k27 ((w.alloc (.cells #[.slice a2 a0.length a3] 25)).alloc (.cells #[.string a1] 9)) a2 a0.length a0 := Kd.C_alloc (Kd.C_alloc a4 _) _; have hb : Below w.heap.size w ((w.alloc (.cells #[.slice a2 a0.length a3] 25)).alloc (.cells #[.string a1] 9)) := below_alloc (below_alloc (Below.refl _ _) _) _; generalize ((w.alloc (.cells #[.slice a2 a0.length a3] 25)).alloc (.cells #[.string a1] 9)) = W at ht hp hc hb ⊢
 have HC := fun (nd i : Nat) (hi : i < a0.length) => impl_find.cmp_calls a2 a3 a0 a1 (w.heap.size + 1) w.heap.size (W.drewN nd) hp ht (Kd.C_drewN hc nd) i hi
 clear hc hp ht a4
 go_loopg [4, 6] k (fun kq v4 v6 w' => ∃ (i j nd : Nat), v4 = .int .i64 (i : Int) ∧ v6 = .int .i64 (j : Int) ∧ Aside0 (impl_find.l0 (impl_find.g a0 a1) kq i j = some m) ∧ Aside0 (j ≤ a0.length) ∧ w' = W.drewN nd)
 case atStart => exact ⟨0, a0.length, 0, rfl, rfl, HM, ⟨Nat.le_refl _⟩, rfl⟩
 case round =>
  clear HM; obtain ⟨i, j, nd, rfl, rfl, HM, HJ, rfl⟩ := hrel
  cases gk with
  | zero => exact absurd HM.out (by simp [impl_find.l0])
  | succ k1 =>
   have H := HM.out; clear HM
   unfold impl_find.l0 at H
   by_cases hij : i < j
   ·rw [if_pos hij] at H
    have c1 : decide ((i : Int) < (j : Int)) = true := decide_eq_true (by omega); have c2 : decide (i < j) = true := decide_eq_true hij
    have he : wrap64 (IntKind.u64.wrap (wrap64 ((i : Int) + (j : Int))) / 2) = (((i + j) / 2 : Nat) : Int) := by
     have hl := HL.out; have hj := HJ.out
     have e1 : wrap64 ((i : Int) + (j : Int)) = (i : Int) + (j : Int) := by unfold wrap64; omega
     have e2 : IntKind.u64.wrap ((i : Int) + (j : Int)) = (i : Int) + (j : Int) := by simp [IntKind.wrap, IntKind.bits, IntKind.signed]; omega
     rw [e1, e2]
     unfold wrap64
     omega
    have hh : (i + j) / 2 < a0.length := by have := HJ.out; omega
    by_cases hg : impl_find.g a0 a1 ((i + j) / 2) > 0
    ·rw [if_pos hg] at H
     have d1 : decide (0 < impl_find.g a0 a1 ((i + j) / 2)) = true := decide_eq_true hg; have H' := Aside0.mk H; clear H
     go_wp2_with (go_at_call 143; rw [he]; refine (HC nd _ hh).mono ?_; rintro e w' ⟨rfl, nd2, rfl⟩)
     go_roundg k1
     case measure => omega
     case rel => exact ⟨(i + j) / 2 + 1, j, nd + nd2, by rw [show wrap64 (((i : Int) + (j : Int)) / 2 + 1) = (((i + j) / 2 + 1 : Nat) : Int) from by have := HL.out; have := HJ.out; unfold wrap64; omega], rfl, H', HJ, rfl⟩
    ·rw [if_neg hg] at H
     have d1 : decide (0 < impl_find.g a0 a1 ((i + j) / 2)) = false := decide_eq_false hg; have H' := Aside0.mk H; clear H
     go_wp2_with (go_at_call 143; rw [he]; refine (HC nd _ hh).mono ?_; rintro e w' ⟨rfl, nd2, rfl⟩)
     go_roundg k1
     case measure => omega
     case rel => exact ⟨i, (i + j) / 2, nd + nd2, rfl, by rw [show ((i : Int) + (j : Int)) / 2 = (((i + j) / 2 : Nat) : Int) from by omega], H', ⟨by have := HJ.out; omega⟩, rfl⟩
   ·rw [if_neg hij] at H
    obtain rfl := Option.some.inj H; have c1 : decide ((i : Int) < (j : Int)) = false := decide_eq_false (by omega); have c2 : decide (i < j) = false := decide_eq_false hij
    by_cases hi : i < a0.length
    ·have d1 : decide ((i : Int) < (a0.length : Int)) = true := decide_eq_true (by omega); have d2 : decide (i < a0.length) = true := decide_eq_true hi
     go_wp2_with (go_at_call 143; refine (HC nd i hi).mono ?_; rintro e w' ⟨rfl, nd2, rfl⟩)
     go_ret2
     exact ⟨by simp [hi], pw_below_drewN hb _⟩
    ·have d1 : decide ((i : Int) < (a0.length : Int)) = false := decide_eq_false (by omega); have d2 : decide (i < a0.length) = false := decide_eq_false hi
     go_wp2
     go_ret2
     exact ⟨by simp [hi], pw_below_drewN hb _⟩


end Go.Proofs.YtknagppkeodggaaDoor.P


namespace Go.Proofs.YtknagppkeodggaaDoor.P
open Go.RowKit Go.Proofs.YtknagppkeodggaaDoorW.PrintWords Go.Proofs.YtknagppkeodggaaDoorW.PrintLast Go.Proofs.YtknagppkeodggaaDoorW.PrintMore
attribute [local go_sem] max2_int min2_int max_two min_two max_three min_three max_four min_four
set_option linter.unusedVariables false
set_option linter.unusedSimpArgs false

/-! ### impl_in: function 125 -/
def impl_in.f (a0 : Int) (a1 : Int) (a2 : Int) : Option (Bool) := if a0 ≥ a1 then (some (decide (a0 ≤ a2))) else (some false)
set_option maxHeartbeats 8000000 in
set_option maxRecDepth 100000 in
theorem impl_in.calls (a0 : Int) (a1 : Int) (a2 : Int) (r : Bool) (w : World) (h : impl_in.f a0 a1 a2 = some r) :
  Calls Tryd.prog 125 #[.int .i64 a0, .int .i64 a1, .int .i64 a2] w fun e w' => e = .returned (.bool r) ∧ Drawn0 w w' := by
 have H : (if a0 ≥ a1 then (some (decide (a0 ≤ a2))) else (some false)) = some r := h; clear h
 by_cases c4 : a0 ≥ a1
 ·rw [if_pos c4] at H
  have a3 : decide (a1 ≤ a0) = true := decide_eq_true c4; clear c4; obtain rfl := Option.some.inj H
  go_enter Tryd.func125, Tryd.ntmps125
  go_wp2
  go_ret
  exact ⟨Ye1, dz⟩
 ·rw [if_neg c4] at H
  have a3 : decide (a1 ≤ a0) = false := decide_eq_false c4; clear c4; obtain rfl := Option.some.inj H
  go_enter Tryd.func125, Tryd.ntmps125
  go_wp2
  go_ret
  exact ⟨Ye1, dz⟩

end Go.Proofs.YtknagppkeodggaaDoor.P


namespace Go.Proofs.YtknagppkeodggaaDoor.P
open Go.RowKit Go.Proofs.YtknagppkeodggaaDoorW.PrintWords Go.Proofs.YtknagppkeodggaaDoorW.PrintLast Go.Proofs.YtknagppkeodggaaDoorW.PrintMore
attribute [local go_sem] max2_int min2_int max_two min_two max_three min_three max_four min_four
set_option linter.unusedVariables false
set_option linter.unusedSimpArgs false

/-! ### impl_goodPart: function 171 -/
mutual
def impl_goodPart.j0 : Nat → ByteArray → Bool → Bool → Option (Bool)
 | 0, _, _, _ => none
 | k + 1, x0, x1, x18 => if x18 = true then (some false) else (impl_goodPart.l0 k x0 x1 0)
def impl_goodPart.l0 : Nat → ByteArray → Bool → Int → Option (Bool)
 | 0, _, _, _ => none
 | k + 1, x0, x1, x5 => if x5 < (x0.size : Int) then (if 0 ≤ x5 then (if (bt x0 x5) < 33 then (some false) else (if (bt x0 x5) > 126 then (some false) else (if (bt x0 x5) = 34 then (some false) else (if (bt x0 x5) = 47 then (some false) else (if x1 = true then (impl_goodPart.l0 k x0 x1 (wrap64 (x5 + 1))) else (if (bt x0 x5) = 42 then (some false) else (if (bt x0 x5) = 63 then (some false) else (impl_goodPart.l0 k x0 x1 (wrap64 (x5 + 1)))))))))) else (none)) else (some true)
end
def impl_goodPart.f (k : Nat) (a0 : ByteArray) (a1 : Bool) : Option (Bool) := (impl_in.f (a0.size : Int) 1 20).bind fun a8 => (if a8 = true then (if a0.toList = ([46] : List UInt8) then (impl_goodPart.j0 k a0 a1 true) else (impl_goodPart.j0 k a0 a1 (a0.toList == ([46, 46] : List UInt8)))) else (impl_goodPart.j0 k a0 a1 true))
theorem impl_goodPart.mono_l : ∀ k, (∀ y0 y1 y2, LeO (impl_goodPart.j0 k y0 y1 y2) (impl_goodPart.j0 (k + 1) y0 y1 y2)) ∧ (∀ y0 y1 y2, LeO (impl_goodPart.l0 k y0 y1 y2) (impl_goodPart.l0 (k + 1) y0 y1 y2))
 | 0 => ⟨fun _ _ _ r h => by simp [impl_goodPart.j0] at h, fun _ _ _ r h => by simp [impl_goodPart.l0] at h⟩
 | k + 1 => by
  obtain ⟨ih0, ih1⟩ := impl_goodPart.mono_l k; refine ⟨?_, ?_⟩
  ·intro y0 y1 y2
   unfold impl_goodPart.j0
   repeat' first
   | (with_reducible exact ih0 _ _ _)
   | (with_reducible exact ih1 _ _ _)
   | (with_reducible exact LeO.refl _)
   | (with_reducible exact LeO.none _)
   | (with_reducible refine LeO.ite ?_ ?_)
   | (with_reducible refine LeO.bind ?_ (fun _ => ?_))
   | exact ih0 _ _ _
   | exact ih1 _ _ _
   | exact LeO.none _
   | refine LeO.ite ?_ ?_
   | refine LeO.bind ?_ (fun _ => ?_)
  ·intro y0 y1 y2
   unfold impl_goodPart.l0
   repeat' first
   | (with_reducible exact ih0 _ _ _)
   | (with_reducible exact ih1 _ _ _)
   | (with_reducible exact LeO.refl _)
   | (with_reducible exact LeO.none _)
   | (with_reducible refine LeO.ite ?_ ?_)
   | (with_reducible refine LeO.bind ?_ (fun _ => ?_))
   | exact ih0 _ _ _
   | exact ih1 _ _ _
   | exact LeO.none _
   | refine LeO.ite ?_ ?_
   | refine LeO.bind ?_ (fun _ => ?_)
theorem impl_goodPart.mono : ∀ a0 a1 k, LeO (impl_goodPart.f k a0 a1) (impl_goodPart.f (k + 1) a0 a1) := by
 intro a0 a1 k; obtain ⟨ih0, ih1⟩ := impl_goodPart.mono_l k
 unfold impl_goodPart.f
 repeat' first
   | (with_reducible exact ih0 _ _ _)
   | (with_reducible exact ih1 _ _ _)
   | (with_reducible exact LeO.refl _)
   | (with_reducible exact LeO.none _)
   | (with_reducible refine LeO.ite ?_ ?_)
   | (with_reducible refine LeO.bind ?_ (fun _ => ?_))
   | exact ih0 _ _ _
   | exact ih1 _ _ _
   | exact LeO.none _
   | refine LeO.ite ?_ ?_
   | refine LeO.bind ?_ (fun _ => ?_)
set_option maxHeartbeats 8000000 in
set_option maxRecDepth 100000 in
theorem impl_goodPart.calls (k : Nat) (a0 : ByteArray) (a1 : Bool) (r : Bool) (w : World) (h : impl_goodPart.f k a0 a1 = some r) :
  Calls Tryd.prog 171 #[.string a0, .bool a1] w fun e w' => e = .returned (.bool r) ∧ Drawn0 w w' := by
 have H : ((impl_in.f (a0.size : Int) 1 20).bind fun a8 => (if a8 = true then (if a0.toList = ([46] : List UInt8) then (impl_goodPart.j0 k a0 a1 true) else (impl_goodPart.j0 k a0 a1 (a0.toList == ([46, 46] : List UInt8)))) else (impl_goodPart.j0 k a0 a1 true))) = some r := h; clear h; have ad := Aside0.mk H; clear H
 go_enter Tryd.func171, Tryd.ntmps171
 go_upto_region 1 with (fail)
 go_cut [18] (fun v18 wc => ∃ (kq : Nat) (ab : Bool), v18 = .bool ab ∧ Aside0 (impl_goodPart.j0 kq a0 a1 ab = some r) ∧ Aside0 (kq ≤ k) ∧ Drawn0 w wc)
 case first =>
  have H := ad.out; clear ad; replace H := Option.bind_eq_some_iff.mp H; obtain ⟨a8, A40, H⟩ := H; replace H : (if a8 = true then (if a0.toList = ([46] : List UInt8) then (impl_goodPart.j0 k a0 a1 true) else (impl_goodPart.j0 k a0 a1 (a0.toList == ([46, 46] : List UInt8)))) else (impl_goodPart.j0 k a0 a1 true)) = some r := H; have A4 := Aside0.mk A40; clear A40
  by_cases c5 : a8 = true
  ·subst c5
   have H1 : (if a0.toList = ([46] : List UInt8) then (impl_goodPart.j0 k a0 a1 true) else (impl_goodPart.j0 k a0 a1 (a0.toList == ([46, 46] : List UInt8)))) = some r := by rw [if_pos rfl] at H; exact H
   clear H; have H := H1; clear H1
   by_cases c6 : a0.toList = ([46] : List UInt8)
   ·rw [if_pos c6] at H
    have a3 : (a0.toList == ([46] : List UInt8)) = true := beq_iff_eq.mpr c6; have ae : (a0.toList != ([46] : List UInt8)) = false := bne_eq_false_iff_eq.mpr c6; clear c6; (first | rw [a3] | (simp only [i64_w, i32_w]; rw [a3]) | skip); have H' := Aside0.mk H; clear H
    go_wp2_with (first | ((with_reducible refine gc 125 rfl ?_); refine gl (some 9) _ (#[.int .i64 (a0.size : Int), .int .i64 1, .int .i64 20]) Tryd.func125 ?_; (with_reducible refine (impl_in.calls (a0.size : Int) 1 20 true _ A4.out).mono ?_); rintro e w' ⟨rfl, ⟨nd, rfl⟩⟩; refine ⟨_, rfl, ?_⟩))
    go_meet
    case rel => exact ⟨_, (true), Ye1, H', ⟨by first | omega | exact Nat.le_refl _⟩, dz⟩
   ·rw [if_neg c6] at H
    have a3 : (a0.toList == ([46] : List UInt8)) = false := beq_eq_false_iff_ne.mpr c6; have ae : (a0.toList != ([46] : List UInt8)) = true := bne_iff_ne.mpr c6; (first | rw [a3] | (simp only [i64_w, i32_w]; rw [a3]) | skip); have H' := Aside0.mk H; clear H
    go_wp2_with (first | ((with_reducible refine gc 125 rfl ?_); refine gl (some 9) _ (#[.int .i64 (a0.size : Int), .int .i64 1, .int .i64 20]) Tryd.func125 ?_; (with_reducible refine (impl_in.calls (a0.size : Int) 1 20 true _ A4.out).mono ?_); rintro e w' ⟨rfl, ⟨nd, rfl⟩⟩; refine ⟨_, rfl, ?_⟩))
    go_meet
    case rel => exact ⟨_, ((a0.toList == ([46, 46] : List UInt8))), Ye1, H', ⟨by first | omega | exact Nat.le_refl _⟩, dz⟩
  ·replace c5 := Bool.eq_false_iff.mpr c5; subst c5
   have H1 : (impl_goodPart.j0 k a0 a1 true) = some r := by rw [if_neg (show ¬ (false = true) by decide)] at H; exact H
   clear H; have H := H1; clear H1; have H' := Aside0.mk H; clear H
   go_wp2_with (first | ((with_reducible refine gc 125 rfl ?_); refine gl (some 9) _ (#[.int .i64 (a0.size : Int), .int .i64 1, .int .i64 20]) Tryd.func125 ?_; (with_reducible refine (impl_in.calls (a0.size : Int) 1 20 false _ A4.out).mono ?_); rintro e w' ⟨rfl, ⟨nd, rfl⟩⟩; refine ⟨_, rfl, ?_⟩))
   go_meet
   case rel => exact ⟨_, (true), Ye1, H', ⟨by first | omega | exact Nat.le_refl _⟩, dz⟩
 case rest =>
  clear ad; (try clear c1); (try clear p2); (try clear c5); (try clear c6); (try clear a3); (try clear ae); obtain ⟨kq, ab, rfl, HA, HJ2, ⟨mc2, rfl⟩⟩ := hcut
  cases kq with
  | zero => exact absurd HA.out (by simp [impl_goodPart.j0])
  | succ af =>
   have H := HA.out; clear HA; simp only [impl_goodPart.j0] at H
   by_cases c7 : ab = true
   ·subst c7
    have H1 : (some false) = some r := by rw [if_pos rfl] at H; exact H
    clear H; have H := H1; clear H1; obtain rfl := Option.some.inj H
    go_wp2
    go_ret
    exact ⟨Ye1, dz⟩
   ·replace c7 := Bool.eq_false_iff.mpr c7; subst c7
    have H1 : (impl_goodPart.l0 af a0 a1 0) = some r := by rw [if_neg (show ¬ (false = true) by decide)] at H; exact H
    clear H; have H := H1; clear H1; have H' := Aside0.mk H; clear H
    go_wp2
    go_loopg [5] af (fun kq v5 w' => ∃ (a2 : Int), v5 = .int .i64 a2 ∧ Aside0 (impl_goodPart.l0 kq a0 a1 a2 = some r) ∧ Aside0 (kq ≤ af) ∧ Drawn0 w w')
    case atStart => exact ⟨(0), Ye1, H', ⟨Nat.le_refl _⟩, dz⟩
    case round =>
     clear H'; (try clear c1); (try clear c2); (try clear p2); (try clear c5); (try clear c6); (try clear a3); (try clear ae); (try clear c7); (try clear p2); obtain ⟨a2, rfl, HA, HK2, ⟨m2, rfl⟩⟩ := hrel
     cases gk with
     | zero => exact absurd HA.out (by simp [impl_goodPart.l0])
     | succ k2 =>
      have H := HA.out; clear HA; simp only [impl_goodPart.l0] at H
      by_cases c8 : a2 < (a0.size : Int)
      ·rw [if_pos c8] at H
       have ag : decide (a2 < (a0.size : Int)) = true := decide_eq_true c8; clear c8
       by_cases c9 : 0 ≤ a2
       ·rw [if_pos c9] at H
        have c9b0 : decide (0 ≤ a2) = true := decide_eq_true c9; clear c9
        by_cases a9 : (bt a0 a2) < 33
        ·rw [if_pos a9] at H
         have ah : decide ((bt a0 a2) < 33) = true := decide_eq_true a9; clear a9; obtain rfl := Option.some.inj H; have p10 : 0 ≤ (a2 : Int) := oda; have q10 : a2 < (a0.size : Int) := oda; have hx10 := bt_at a0 a2; replace p10 := eq_true p10; replace q10 := eq_true q10
         go_wp2
         go_ret
         exact ⟨Ye1, dz⟩
        ·rw [if_neg a9] at H
         have ah : decide ((bt a0 a2) < 33) = false := decide_eq_false a9; clear a9
         by_cases aa : (bt a0 a2) > 126
         ·rw [if_pos aa] at H
          have ai : decide (126 < (bt a0 a2)) = true := decide_eq_true aa; clear aa; obtain rfl := Option.some.inj H; have p10 : 0 ≤ (a2 : Int) := oda; have q10 : a2 < (a0.size : Int) := oda; have hx10 := bt_at a0 a2; replace p10 := eq_true p10; replace q10 := eq_true q10
          go_wp2
          go_ret
          exact ⟨Ye1, dz⟩
         ·rw [if_neg aa] at H
          have ai : decide (126 < (bt a0 a2)) = false := decide_eq_false aa; clear aa
          by_cases a4 : (bt a0 a2) = 34
          ·rw [if_pos a4] at H
           have aj : ((bt a0 a2) == 34) = true := beq_iff_eq.mpr a4; have ak : ((bt a0 a2) != 34) = false := bne_eq_false_iff_eq.mpr a4; clear a4; obtain rfl := Option.some.inj H; have p10 : 0 ≤ (a2 : Int) := oda; have q10 : a2 < (a0.size : Int) := oda; have hx10 := bt_at a0 a2; replace p10 := eq_true p10; replace q10 := eq_true q10
           go_wp2
           go_ret
           exact ⟨Ye1, dz⟩
          ·rw [if_neg a4] at H
           have aj : ((bt a0 a2) == 34) = false := beq_eq_false_iff_ne.mpr a4; have ak : ((bt a0 a2) != 34) = true := bne_iff_ne.mpr a4
           by_cases a5 : (bt a0 a2) = 47
           ·rw [if_pos a5] at H
            have al : ((bt a0 a2) == 47) = true := beq_iff_eq.mpr a5; have am : ((bt a0 a2) != 47) = false := bne_eq_false_iff_eq.mpr a5; clear a5; obtain rfl := Option.some.inj H; have p10 : 0 ≤ (a2 : Int) := oda; have q10 : a2 < (a0.size : Int) := oda; have hx10 := bt_at a0 a2; replace p10 := eq_true p10; replace q10 := eq_true q10
            go_wp2
            go_ret
            exact ⟨Ye1, dz⟩
           ·rw [if_neg a5] at H
            have al : ((bt a0 a2) == 47) = false := beq_eq_false_iff_ne.mpr a5; have am : ((bt a0 a2) != 47) = true := bne_iff_ne.mpr a5
            by_cases ac : a1 = true
            ·subst ac
             have H1 : (impl_goodPart.l0 k2 a0 true (wrap64 (a2 + 1))) = some r := by rw [if_pos rfl] at H; exact H
             clear H; have H := H1; clear H1; have H' := Aside0.mk H; clear H; have p10 : 0 ≤ (a2 : Int) := oda; have q10 : a2 < (a0.size : Int) := oda; have hx10 := bt_at a0 a2; replace p10 := eq_true p10; replace q10 := eq_true q10
             go_wp2
             go_roundg k2
             case measure => have := HJ2.out; have := HK2.out; omega
             case rel => exact ⟨(wrap64 (a2 + 1)), Ye1, H', ⟨by have := HJ2.out; have := HK2.out; omega⟩, dz⟩
            ·replace ac := Bool.eq_false_iff.mpr ac; subst ac
             have H1 : (if (bt a0 a2) = 42 then (some false) else (if (bt a0 a2) = 63 then (some false) else (impl_goodPart.l0 k2 a0 false (wrap64 (a2 + 1))))) = some r := by rw [if_neg (show ¬ (false = true) by decide)] at H; exact H
             clear H; have H := H1; clear H1
             by_cases a6 : (bt a0 a2) = 42
             ·rw [if_pos a6] at H
              have an : ((bt a0 a2) == 42) = true := beq_iff_eq.mpr a6; have ao : ((bt a0 a2) != 42) = false := bne_eq_false_iff_eq.mpr a6; clear a6; obtain rfl := Option.some.inj H; have p10 : 0 ≤ (a2 : Int) := oda; have q10 : a2 < (a0.size : Int) := oda; have hx10 := bt_at a0 a2; replace p10 := eq_true p10; replace q10 := eq_true q10
              go_wp2
              go_ret
              exact ⟨Ye1, dz⟩
             ·rw [if_neg a6] at H
              have an : ((bt a0 a2) == 42) = false := beq_eq_false_iff_ne.mpr a6; have ao : ((bt a0 a2) != 42) = true := bne_iff_ne.mpr a6
              by_cases a7 : (bt a0 a2) = 63
              ·rw [if_pos a7] at H
               have ap : ((bt a0 a2) == 63) = true := beq_iff_eq.mpr a7; have aq : ((bt a0 a2) != 63) = false := bne_eq_false_iff_eq.mpr a7; clear a7; obtain rfl := Option.some.inj H; have p10 : 0 ≤ (a2 : Int) := oda; have q10 : a2 < (a0.size : Int) := oda; have hx10 := bt_at a0 a2; replace p10 := eq_true p10; replace q10 := eq_true q10
               go_wp2
               go_ret
               exact ⟨Ye1, dz⟩
              ·rw [if_neg a7] at H
               have ap : ((bt a0 a2) == 63) = false := beq_eq_false_iff_ne.mpr a7; have aq : ((bt a0 a2) != 63) = true := bne_iff_ne.mpr a7; have H' := Aside0.mk H; clear H; have p10 : 0 ≤ (a2 : Int) := oda; have q10 : a2 < (a0.size : Int) := oda; have hx10 := bt_at a0 a2; replace p10 := eq_true p10; replace q10 := eq_true q10
               go_wp2
               go_roundg k2
               case measure => have := HJ2.out; have := HK2.out; omega
               case rel => exact ⟨(wrap64 (a2 + 1)), Ye1, H', ⟨by have := HJ2.out; have := HK2.out; omega⟩, dz⟩
       ·rw [if_neg c9] at H
        exact absurd H (by simp)
      ·rw [if_neg c8] at H
       have ag : decide (a2 < (a0.size : Int)) = false := decide_eq_false c8; clear c8; obtain rfl := Option.some.inj H
       go_wp2
       go_ret
       exact ⟨Ye1, dz⟩

end Go.Proofs.YtknagppkeodggaaDoor.P


namespace Go.Proofs.YtknagppkeodggaaDoor.P
open Go.RowKit Go.Proofs.YtknagppkeodggaaDoorW.PrintWords Go.Proofs.YtknagppkeodggaaDoorW.PrintLast Go.Proofs.YtknagppkeodggaaDoorW.PrintMore
attribute [local go_sem] max2_int min2_int max_two min_two max_three min_three max_four min_four
set_option linter.unusedVariables false
set_option linter.unusedSimpArgs false

/-! ### strings_Split: function 83 -/
def strings_Split.f (a0 a1 : ByteArray) : Option (List ByteArray) := if a0.size < 4294967281 then (if 1 ≤ a1.size then some (Go.Lib.splitB a1 0 (Go.Lib.countB a0 a1) a0) else none) else none
theorem strings_Split.calls (a0 a1 : ByteArray) (r : List ByteArray) (w : World) (hg : GOK w) (h : strings_Split.f a0 a1 = some r) :
  Calls Tryd.prog 83 #[.string a0, .string a1] w fun e w' => ∃ v0_ : Value, e = .returned (v0_) ∧ Kd.R Kd.string 9 w' w.heap.size (fun _ => True) v0_ r ∧ Below w.heap.size w w' := by
 unfold strings_Split.f at h
 split at h
 ·rename_i hs
  split at h
  ·rename_i h1
   obtain rfl := Option.some.inj h; obtain ⟨m, hm⟩ := hg; have hle := Go.Lib.countB_le a1 h1 a0.size a0 (Nat.le_refl _); have hlen := Go.Lib.splitB_all a1 h1 0 (Go.Lib.countB a0 a1) a0 rfl
   refine (Tryd.strings_Split a0 a1 m w hs hm h1).mono fun e w' ⟨he, hw⟩ => ?_
   subst hw; refine ⟨_, he, ?_, below_alloc (Below.refl _ _) _⟩
   rw [← hlen]
   exact Ow.R_new_block Value.string (fun _ => rfl) _ w _ (by rw [hlen]; unfold maxLen; omega)
  ·cases h
 ·cases h


end Go.Proofs.YtknagppkeodggaaDoor.P


namespace Go.Proofs.YtknagppkeodggaaDoor.P
open Go.RowKit Go.Proofs.YtknagppkeodggaaDoorW.PrintWords Go.Proofs.YtknagppkeodggaaDoorW.PrintLast Go.Proofs.YtknagppkeodggaaDoorW.PrintMore
attribute [local go_sem] max2_int min2_int max_two min_two max_three min_three max_four min_four
set_option linter.unusedVariables false
set_option linter.unusedSimpArgs false

/-! ### impl_parts: function 145 -/
def impl_parts.l0 : Nat → Bool → List ByteArray → Int → Int → Option (Bool)
 | 0, _, _, _, _ => none
 | k + 1, x1, x13, x14, x15 => if x15 < x14 then (if 0 ≤ x15 then (if x15 < (x13.length : Int) then ((impl_goodPart.f k (rdOf ByteArray.empty x13 x15) x1).bind fun a6 => (if a6 = true then (impl_parts.l0 k x1 x13 x14 (wrap64 (x15 + 1))) else (some false))) else (none)) else (none)) else (some true)
def impl_parts.f (k : Nat) (a0 : ByteArray) (a1 : Bool) : Option (Bool) := (strings_Split.f a0 (⟨#[47]⟩ : ByteArray)).bind fun a2 => (if (a2.length : Int) > 6 then (some false) else (impl_parts.l0 k a1 a2 (a2.length : Int) 0))
theorem impl_parts.mono_l : ∀ k, (∀ y0 y1 y2 y3, LeO (impl_parts.l0 k y0 y1 y2 y3) (impl_parts.l0 (k + 1) y0 y1 y2 y3))
 | 0 => fun _ _ _ _ r h => by simp [impl_parts.l0] at h
 | k + 1 => by
  have ih0 := impl_parts.mono_l k
  ·intro y0 y1 y2 y3
   unfold impl_parts.l0
   repeat' first
   | (with_reducible exact ih0 _ _ _ _)
   | (with_reducible exact impl_goodPart.mono _ _ _)
   | (with_reducible exact LeO.refl _)
   | (with_reducible exact LeO.none _)
   | (with_reducible refine LeO.ite ?_ ?_)
   | (with_reducible refine LeO.bind ?_ (fun _ => ?_))
   | exact ih0 _ _ _ _
   | exact impl_goodPart.mono _ _ _
   | exact LeO.none _
   | refine LeO.ite ?_ ?_
   | refine LeO.bind ?_ (fun _ => ?_)
theorem impl_parts.mono : ∀ a0 a1 k, LeO (impl_parts.f k a0 a1) (impl_parts.f (k + 1) a0 a1) := by
 intro a0 a1 k; have ih0 := impl_parts.mono_l k
 unfold impl_parts.f
 repeat' first
   | (with_reducible exact ih0 _ _ _ _)
   | (with_reducible exact impl_goodPart.mono _ _ _)
   | (with_reducible exact LeO.refl _)
   | (with_reducible exact LeO.none _)
   | (with_reducible refine LeO.ite ?_ ?_)
   | (with_reducible refine LeO.bind ?_ (fun _ => ?_))
   | exact ih0 _ _ _ _
   | exact impl_goodPart.mono _ _ _
   | exact LeO.none _
   | refine LeO.ite ?_ ?_
   | refine LeO.bind ?_ (fun _ => ?_)
set_option maxHeartbeats 8000000 in
set_option maxRecDepth 100000 in
theorem impl_parts.calls (k : Nat) (a0 : ByteArray) (a1 : Bool) (r : Bool) (w : World) (hg : GOK w) (h : impl_parts.f k a0 a1 = some r) :
  Calls Tryd.prog 145 #[.string a0, .bool a1] w fun e w' => e = .returned (.bool r) ∧ Below w.heap.size w w' := by
 have HG := Aside0.mk hg; clear hg; have HB := Aside0.mk (Below.refl w.heap.size w); have H : ((strings_Split.f a0 (⟨#[47]⟩ : ByteArray)).bind fun a2 => (if (a2.length : Int) > 6 then (some false) else (impl_parts.l0 k a1 a2 (a2.length : Int) 0))) = some r := h; clear h; replace H := Option.bind_eq_some_iff.mp H; obtain ⟨a2, A30, H⟩ := H; replace H : (if (a2.length : Int) > 6 then (some false) else (impl_parts.l0 k a1 a2 (a2.length : Int) 0)) = some r := H; have A3 := Aside0.mk A30; clear A30
 by_cases c4 : (a2.length : Int) > 6
 ·rw [if_pos c4] at H
  have ac : decide (6 < (a2.length : Int)) = true := decide_eq_true c4; have ad : decide (6 < a2.length) = true := decide_eq_true (by omega); clear c4; obtain rfl := Option.some.inj H
  go_enter Tryd.func145, Tryd.ntmps145
  go_wp2_with (first | ((with_reducible refine gc 83 rfl ?_); refine gl (some 9) _ (#[.string a0, .string (⟨#[47]⟩ : ByteArray)]) Tryd.func83 ?_; (with_reducible refine (strings_Split.calls a0 (⟨#[47]⟩ : ByteArray) a2 _ ?sideG A3.out).mono ?_); (case sideG => exact gk HG.out HB.out); rintro e w5 ⟨af, rfl, ho0, hb⟩; refine ⟨_, rfl, ?_⟩; refine Ya2 (Kd.R_lower ho0 (below_size (be HB.out))) (below_step (be HB.out) hb) ?_; clear HB; intro a7 HB; (try clear hb); (try clear hb2); (try clear hk); (try clear hi); (try clear ho0); obtain ⟨Ao6, co6, eo6⟩ := Kd.R_slice a7.out; subst eo6))
  go_ret
  exact ⟨Ye2, be HB.out⟩
 ·rw [if_neg c4] at H
  have ac : decide (6 < (a2.length : Int)) = false := decide_eq_false c4; have ad : decide (6 < a2.length) = false := decide_eq_false (by omega); clear c4; have H' := Aside0.mk H; clear H
  go_enter Tryd.func145, Tryd.ntmps145
  go_wp2_with (first | ((with_reducible refine gc 83 rfl ?_); refine gl (some 9) _ (#[.string a0, .string (⟨#[47]⟩ : ByteArray)]) Tryd.func83 ?_; (with_reducible refine (strings_Split.calls a0 (⟨#[47]⟩ : ByteArray) a2 _ ?sideG A3.out).mono ?_); (case sideG => exact gk HG.out HB.out); rintro e w7 ⟨af, rfl, ho0, hb⟩; refine ⟨_, rfl, ?_⟩; refine Ya2 (Kd.R_lower ho0 (below_size (be HB.out))) (below_step (be HB.out) hb) ?_; clear HB; intro a7 HB; (try clear hb); (try clear hb2); (try clear hk); (try clear hi); (try clear ho0); obtain ⟨Ao8, co8, eo8⟩ := Kd.R_slice a7.out; subst eo8))
  go_loopg [15] k (fun kq v15 w' => ∃ (a3 : Int), v15 = .int .i64 a3 ∧ Aside0 (impl_parts.l0 kq a1 a2 (a2.length : Int) a3 = some r) ∧ Aside0 (kq ≤ k) ∧ Aside0 (Kd.R Kd.string 9 w' w.heap.size (fun _ => True) (.slice Ao8 a2.length co8) a2) ∧ Aside0 (Below w.heap.size w w'))
  case atStart => exact ⟨(0), Ye1, H', ⟨Nat.le_refl _⟩, ⟨kr a7.out⟩, ⟨be HB.out⟩⟩
  case round =>
   clear H'; (try clear c1); (try clear p2); (try clear c4); (try clear ac); (try clear ad); (try clear c8); obtain ⟨a3, rfl, HA, HK1, aa, HB⟩ := hrel
   cases gk with
   | zero => exact absurd HA.out (by simp [impl_parts.l0])
   | succ k1 =>
    have H := HA.out; clear HA; simp only [impl_parts.l0] at H
    by_cases c9 : a3 < (a2.length : Int)
    ·rw [if_pos c9] at H
     have ag : decide (a3 < (a2.length : Int)) = true := decide_eq_true c9; clear c9
     by_cases c10 : 0 ≤ a3
     ·rw [if_pos c10] at H
      have c10b0 : decide (0 ≤ a3) = true := decide_eq_true c10; clear c10
      by_cases a8 : a3 < (a2.length : Int)
      ·rw [if_pos a8] at H
       have c11b0 : decide (a3 < (a2.length : Int)) = true := decide_eq_true a8; clear a8; replace H := Option.bind_eq_some_iff.mp H; obtain ⟨a6, ae, H⟩ := H; replace H : (if a6 = true then (impl_parts.l0 k1 a1 a2 (a2.length : Int) (wrap64 (a3 + 1))) else (some false)) = some r := H; have A12 := Aside0.mk ae; clear ae
       by_cases a9 : a6 = true
       ·subst a9
        have H1 : (impl_parts.l0 k1 a1 a2 (a2.length : Int) (wrap64 (a3 + 1))) = some r := by rw [if_pos rfl] at H; exact H
        clear H; have H := H1; clear H1; have H' := Aside0.mk H; clear H; have a4 : 0 ≤ (a3 : Int) := oda; have a5 : a3 < (a2.length : Int) := oda; obtain ⟨ah, ab, ai⟩ := Kd.at_string (Kd.R_reads' aa.out).2.2 a3 a4 a5
        cases ab
        replace a4 := eq_true a4; replace a5 := eq_true a5
        go_wp2_with (first | ((with_reducible refine gc 171 rfl ?_); refine gl (some 21) _ (#[.string (rdOf ByteArray.empty a2 a3), .bool a1]) Tryd.func171 ?_; (with_reducible refine (impl_goodPart.calls k1 (rdOf ByteArray.empty a2 a3) a1 true _ A12.out).mono ?_); rintro e w' ⟨rfl, ⟨nd, rfl⟩⟩; refine ⟨_, rfl, ?_⟩))
        go_roundg k1
        case measure => have := HK1.out; omega
        case rel => exact ⟨(wrap64 (a3 + 1)), Ye1, H', ⟨by have := HK1.out; omega⟩, ⟨kr aa.out⟩, ⟨be HB.out⟩⟩
       ·replace a9 := Bool.eq_false_iff.mpr a9; subst a9
        have H1 : (some false) = some r := by rw [if_neg (show ¬ (false = true) by decide)] at H; exact H
        clear H; have H := H1; clear H1; obtain rfl := Option.some.inj H; have a4 : 0 ≤ (a3 : Int) := oda; have a5 : a3 < (a2.length : Int) := oda; obtain ⟨ah, ab, ai⟩ := Kd.at_string (Kd.R_reads' aa.out).2.2 a3 a4 a5
        cases ab
        replace a4 := eq_true a4; replace a5 := eq_true a5
        go_wp2_with (first | ((with_reducible refine gc 171 rfl ?_); refine gl (some 21) _ (#[.string (rdOf ByteArray.empty a2 a3), .bool a1]) Tryd.func171 ?_; (with_reducible refine (impl_goodPart.calls k1 (rdOf ByteArray.empty a2 a3) a1 false _ A12.out).mono ?_); rintro e w' ⟨rfl, ⟨nd, rfl⟩⟩; refine ⟨_, rfl, ?_⟩))
        go_ret
        exact ⟨Ye2, be HB.out⟩
      ·rw [if_neg a8] at H
       exact absurd H (by simp)
     ·rw [if_neg c10] at H
      exact absurd H (by simp)
    ·rw [if_neg c9] at H
     have ag : decide (a3 < (a2.length : Int)) = false := decide_eq_false c9; clear c9; obtain rfl := Option.some.inj H
     go_wp2
     go_ret
     exact ⟨Ye2, be HB.out⟩

end Go.Proofs.YtknagppkeodggaaDoor.P


namespace Go.Proofs.YtknagppkeodggaaDoor.P
open Go.RowKit Go.Proofs.YtknagppkeodggaaDoorW.PrintWords Go.Proofs.YtknagppkeodggaaDoorW.PrintLast Go.Proofs.YtknagppkeodggaaDoorW.PrintMore
attribute [local go_sem] max2_int min2_int max_two min_two max_three min_three max_four min_four
set_option linter.unusedVariables false
set_option linter.unusedSimpArgs false

/-! ### impl_ValidPath: function 81 -/
def impl_ValidPath.f (k : Nat) (a0 : ByteArray) : Option (Bool) := (impl_parts.f k a0 false).bind fun a1 => (some a1)
theorem impl_ValidPath.mono : ∀ a0 k, LeO (impl_ValidPath.f k a0) (impl_ValidPath.f (k + 1) a0) := by
 intro a0 k
 unfold impl_ValidPath.f
 repeat' first
   | (with_reducible exact impl_parts.mono _ _ _)
   | (with_reducible exact LeO.refl _)
   | (with_reducible exact LeO.none _)
   | (with_reducible refine LeO.ite ?_ ?_)
   | (with_reducible refine LeO.bind ?_ (fun _ => ?_))
   | exact impl_parts.mono _ _ _
   | exact LeO.none _
   | refine LeO.ite ?_ ?_
   | refine LeO.bind ?_ (fun _ => ?_)
set_option maxHeartbeats 8000000 in
set_option maxRecDepth 100000 in
theorem impl_ValidPath.calls (k : Nat) (a0 : ByteArray) (r : Bool) (w : World) (hg : GOK w) (h : impl_ValidPath.f k a0 = some r) :
  Calls Tryd.prog 81 #[.string a0] w fun e w' => e = .returned (.bool r) ∧ Below w.heap.size w w' := by
 have HG := Aside0.mk hg; clear hg; have HB := Aside0.mk (Below.refl w.heap.size w); have H : ((impl_parts.f k a0 false).bind fun a1 => (some a1)) = some r := h; clear h; replace H := Option.bind_eq_some_iff.mp H; obtain ⟨a1, A20, H⟩ := H; replace H : (some a1) = some r := H; have A2 := Aside0.mk A20; clear A20; obtain rfl := Option.some.inj H
 go_enter Tryd.func81, Tryd.ntmps81
 go_wp2_with (first | ((with_reducible refine gc 145 rfl ?_); refine gl (some 4) _ (#[.string a0, .bool false]) Tryd.func145 ?_; (with_reducible refine (impl_parts.calls k a0 false a1 _ ?sideG A2.out).mono ?_); (case sideG => exact gk HG.out HB.out); rintro e w3 ⟨rfl, hb⟩; refine ⟨_, rfl, ?_⟩; refine Ya1 (below_step (be HB.out) hb) ?_; clear HB; intro HB; (try clear hb); (try clear hb2); (try clear hk); (try clear hi)))
 go_ret
 exact ⟨Ye2, be HB.out⟩

end Go.Proofs.YtknagppkeodggaaDoor.P


namespace Go.Proofs.YtknagppkeodggaaDoor.P
open Go.RowKit Go.Proofs.YtknagppkeodggaaDoorW.PrintWords Go.Proofs.YtknagppkeodggaaDoorW.PrintLast Go.Proofs.YtknagppkeodggaaDoorW.PrintMore
attribute [local go_sem] max2_int min2_int max_two min_two max_three min_three max_four min_four
set_option linter.unusedVariables false
set_option linter.unusedSimpArgs false

/-! ### impl_goodEntry: function 69 -/
def impl_goodEntry.f (k : Nat) (a0_0 : ByteArray) (a0_1 : ByteArray) (a0_2 : Bool) : Option (Bool) := (impl_ValidPath.f k a0_0).bind fun a4 => (if a4 = true then (some (decide ((a0_1.size : Int) ≤ 1500))) else (some false))
theorem impl_goodEntry.mono : ∀ a0 a1 a2 k, LeO (impl_goodEntry.f k a0 a1 a2) (impl_goodEntry.f (k + 1) a0 a1 a2) := by
 intro a0 a1 a2 k
 unfold impl_goodEntry.f
 repeat' first
   | (with_reducible exact impl_ValidPath.mono _ _)
   | (with_reducible exact LeO.refl _)
   | (with_reducible exact LeO.none _)
   | (with_reducible refine LeO.ite ?_ ?_)
   | (with_reducible refine LeO.bind ?_ (fun _ => ?_))
   | exact impl_ValidPath.mono _ _
   | exact LeO.none _
   | refine LeO.ite ?_ ?_
   | refine LeO.bind ?_ (fun _ => ?_)
set_option maxHeartbeats 8000000 in
set_option maxRecDepth 100000 in
theorem impl_goodEntry.calls (k : Nat) (a0_0 : ByteArray) (a0_1 : ByteArray) (a0_2 : Bool) (r : Bool) (w : World) (hg : GOK w) (h : impl_goodEntry.f k a0_0 a0_1 a0_2 = some r) :
  Calls Tryd.prog 69 #[.agg #[.string a0_0, .string a0_1, .bool a0_2]] w fun e w' => e = .returned (.bool r) ∧ Below w.heap.size w w' := by
 have HG := Aside0.mk hg; clear hg; have hu27 := Tryd.underlying27; have HB := Aside0.mk (Below.refl w.heap.size w); have H : ((impl_ValidPath.f k a0_0).bind fun a4 => (if a4 = true then (some (decide ((a0_1.size : Int) ≤ 1500))) else (some false))) = some r := h; clear h; replace H := Option.bind_eq_some_iff.mp H; obtain ⟨a4, A20, H⟩ := H; replace H : (if a4 = true then (some (decide ((a0_1.size : Int) ≤ 1500))) else (some false)) = some r := H; have A2 := Aside0.mk A20; clear A20
 by_cases c3 : a4 = true
 ·subst c3
  have H1 : (some (decide ((a0_1.size : Int) ≤ 1500))) = some r := by rw [if_pos rfl] at H; exact H
  clear H; have H := H1; clear H1; obtain rfl := Option.some.inj H
  go_enter Tryd.func69, Tryd.ntmps69
  go_wp2_with (first | ((with_reducible refine gd 1 rfl ?_); (try (refine gate_guard (by rfl) ?_; dsimp only)); refine bx 1 27 (#[.string a0_0, .string a0_1, .bool a0_2]) ?_; intro a5 hg w4 hbox hb; refine Ya4 (below_step (be HB.out) hb) (hbox) (bs hg (be HB.out)) (bs hg (be HB.out)) ?_; clear HB; intro HB a3 a6 a7; clear hb hbox hg; have ⟨a8, a9, aa, ab, ac, ad⟩ := Yc3 a3.out) | ((with_reducible refine gc 81 rfl ?_); refine gl (some 5) _ (#[.string a0_0]) Tryd.func81 ?_; (with_reducible refine (impl_ValidPath.calls k a0_0 true _ ?sideG A2.out).mono ?_); (case sideG => exact gf HG.out HB.out); rintro e w6 ⟨rfl, hb⟩; refine ⟨_, rfl, ?_⟩; refine Ya2 (bb a3 hb) (below_step (bf HB.out) hb) ?_; clear a3 HB; intro a3 HB; (try clear hb); (try clear hb2); (try clear hk); (try clear hi); have ⟨ae, af, ag, ah, ai, aj⟩ := Yc3 a3.out))
  go_ret
  exact ⟨Ye2, (bf HB.out)⟩
 ·replace c3 := Bool.eq_false_iff.mpr c3; subst c3
  have H1 : (some false) = some r := by rw [if_neg (show ¬ (false = true) by decide)] at H; exact H
  clear H; have H := H1; clear H1; obtain rfl := Option.some.inj H
  go_enter Tryd.func69, Tryd.ntmps69
  go_wp2_with (first | ((with_reducible refine gd 1 rfl ?_); (try (refine gate_guard (by rfl) ?_; dsimp only)); refine bx 1 27 (#[.string a0_0, .string a0_1, .bool a0_2]) ?_; intro a5 hg w8 hbox hb; refine Ya4 (below_step (be HB.out) hb) (hbox) (bs hg (be HB.out)) (bs hg (be HB.out)) ?_; clear HB; intro HB a3 a6 a7; clear hb hbox hg; have ⟨ak, al, am, an, ao, ap⟩ := Yc3 a3.out) | ((with_reducible refine gc 81 rfl ?_); refine gl (some 5) _ (#[.string a0_0]) Tryd.func81 ?_; (with_reducible refine (impl_ValidPath.calls k a0_0 false _ ?sideG A2.out).mono ?_); (case sideG => exact gf HG.out HB.out); rintro e w10 ⟨rfl, hb⟩; refine ⟨_, rfl, ?_⟩; refine Ya2 (bb a3 hb) (below_step (bf HB.out) hb) ?_; clear a3 HB; intro a3 HB; (try clear hb); (try clear hb2); (try clear hk); (try clear hi)))
  go_ret
  exact ⟨Ye2, (bf HB.out)⟩

end Go.Proofs.YtknagppkeodggaaDoor.P


namespace Go.Proofs.YtknagppkeodggaaDoor.P
open Go.RowKit Go.Proofs.YtknagppkeodggaaDoorW.PrintWords Go.Proofs.YtknagppkeodggaaDoorW.PrintLast Go.Proofs.YtknagppkeodggaaDoorW.PrintMore
attribute [local go_sem] max2_int min2_int max_two min_two max_three min_three max_four min_four
set_option linter.unusedVariables false
set_option linter.unusedSimpArgs false

/-! ### stringslite_HasPrefix: function 174 -/
def stringslite_HasPrefix.f (a0 : ByteArray) (a1 : ByteArray) : Option (Bool) := if (a0.size : Int) ≥ (a1.size : Int) then (if 0 ≤ (a1.size : Int) then (if (a1.size : Int) ≤ (a0.size : Int) then (some ((a0.extract 0 ((a1.size : Int) : Int).toNat).toList == a1.toList)) else (none)) else (none)) else (some false)
set_option maxHeartbeats 8000000 in
set_option maxRecDepth 100000 in
theorem stringslite_HasPrefix.calls (a0 : ByteArray) (a1 : ByteArray) (r : Bool) (w : World) (h : stringslite_HasPrefix.f a0 a1 = some r) :
  Calls Tryd.prog 174 #[.string a0, .string a1] w fun e w' => e = .returned (.bool r) ∧ Drawn0 w w' := by
 have H : (if (a0.size : Int) ≥ (a1.size : Int) then (if 0 ≤ (a1.size : Int) then (if (a1.size : Int) ≤ (a0.size : Int) then (some ((a0.extract 0 ((a1.size : Int) : Int).toNat).toList == a1.toList)) else (none)) else (none)) else (some false)) = some r := h; clear h
 by_cases c3 : (a0.size : Int) ≥ (a1.size : Int)
 ·rw [if_pos c3] at H
  have a2 : decide ((a1.size : Int) ≤ (a0.size : Int)) = true := decide_eq_true c3; have a3 : decide (a1.size ≤ a0.size) = true := decide_eq_true (Int.ofNat_le.mp c3); clear c3
  by_cases c4 : 0 ≤ (a1.size : Int)
  ·rw [if_pos c4] at H
   have c4b0 := eq_true c4; have c4b1 : decide (0 ≤ (a1.size : Int)) = true := decide_eq_true c4; clear c4
   by_cases c5 : (a1.size : Int) ≤ (a0.size : Int)
   ·rw [if_pos c5] at H
    have c5b0 := eq_true c5; have c5b1 : decide ((a1.size : Int) ≤ (a0.size : Int)) = true := decide_eq_true c5; clear c5; obtain rfl := Option.some.inj H
    go_enter Tryd.func174, Tryd.ntmps174
    go_wp2
    go_ret
    exact ⟨Ye1, dz⟩
   ·rw [if_neg c5] at H
    exact absurd H (by simp)
  ·rw [if_neg c4] at H
   exact absurd H (by simp)
 ·rw [if_neg c3] at H
  have a2 : decide ((a1.size : Int) ≤ (a0.size : Int)) = false := decide_eq_false c3; have a3 : decide (a1.size ≤ a0.size) = false := decide_eq_false (fun h => c3 (Int.ofNat_le.mpr h)); clear c3; obtain rfl := Option.some.inj H
  go_enter Tryd.func174, Tryd.ntmps174
  go_wp2
  go_ret
  exact ⟨Ye1, dz⟩

end Go.Proofs.YtknagppkeodggaaDoor.P


namespace Go.Proofs.YtknagppkeodggaaDoor.P
open Go.RowKit Go.Proofs.YtknagppkeodggaaDoorW.PrintWords Go.Proofs.YtknagppkeodggaaDoorW.PrintLast Go.Proofs.YtknagppkeodggaaDoorW.PrintMore
attribute [local go_sem] max2_int min2_int max_two min_two max_three min_three max_four min_four
set_option linter.unusedVariables false
set_option linter.unusedSimpArgs false

/-! ### strings_HasPrefix: function 139 -/
def strings_HasPrefix.f (a0 : ByteArray) (a1 : ByteArray) : Option (Bool) := (stringslite_HasPrefix.f a0 a1).bind fun a2 => (some a2)
set_option maxHeartbeats 8000000 in
set_option maxRecDepth 100000 in
theorem strings_HasPrefix.calls (a0 : ByteArray) (a1 : ByteArray) (r : Bool) (w : World) (h : strings_HasPrefix.f a0 a1 = some r) :
  Calls Tryd.prog 139 #[.string a0, .string a1] w fun e w' => e = .returned (.bool r) ∧ Drawn0 w w' := by
 have H : ((stringslite_HasPrefix.f a0 a1).bind fun a2 => (some a2)) = some r := h; clear h; replace H := Option.bind_eq_some_iff.mp H; obtain ⟨a2, A30, H⟩ := H; replace H : (some a2) = some r := H; have A3 := Aside0.mk A30; clear A30; obtain rfl := Option.some.inj H
 go_enter Tryd.func139, Tryd.ntmps139
 go_wp2_with (first | ((with_reducible refine gc 174 rfl ?_); refine gl (some 7) _ (#[.string a0, .string a1]) Tryd.func174 ?_; (with_reducible refine (stringslite_HasPrefix.calls a0 a1 a2 _ A3.out).mono ?_); rintro e w' ⟨rfl, ⟨nd, rfl⟩⟩; refine ⟨_, rfl, ?_⟩))
 go_ret
 exact ⟨Ye1, dz⟩

end Go.Proofs.YtknagppkeodggaaDoor.P


namespace Go.Proofs.YtknagppkeodggaaDoor.P
open Go.RowKit Go.Proofs.YtknagppkeodggaaDoorW.PrintWords Go.Proofs.YtknagppkeodggaaDoorW.PrintLast Go.Proofs.YtknagppkeodggaaDoorW.PrintMore
attribute [local go_sem] max2_int min2_int max_two min_two max_three min_three max_four min_four
set_option linter.unusedVariables false
set_option linter.unusedSimpArgs false

/-! ### impl_over: function 70 -/
def impl_over.f (a0 : ByteArray) (a1 : ByteArray) : Option (Bool) := if a0.size + 1 ≤ 9223372036854775807 then ((strings_HasPrefix.f a1 (a0 ++ (⟨#[47]⟩ : ByteArray))).bind fun a2 => (some a2)) else (none)
set_option maxHeartbeats 8000000 in
set_option maxRecDepth 100000 in
theorem impl_over.calls (a0 : ByteArray) (a1 : ByteArray) (r : Bool) (w : World) (h : impl_over.f a0 a1 = some r) :
  Calls Tryd.prog 70 #[.string a0, .string a1] w fun e w' => e = .returned (.bool r) ∧ Drawn0 w w' := by
 have H : (if a0.size + 1 ≤ 9223372036854775807 then ((strings_HasPrefix.f a1 (a0 ++ (⟨#[47]⟩ : ByteArray))).bind fun a2 => (some a2)) else (none)) = some r := h; clear h
 by_cases c3 : a0.size + 1 ≤ 9223372036854775807
 ·rw [if_pos c3] at H
  have c3b0 := eq_true c3; have c3b1 : decide (a0.size + 1 ≤ 9223372036854775807) = true := decide_eq_true c3
  try have c3b2 : (9223372036854775807 < a0.size + 1) = False := eq_false (Nat.not_lt.2 c3)
  replace H := Option.bind_eq_some_iff.mp H; obtain ⟨a2, A40, H⟩ := H; replace H : (some a2) = some r := H; have A4 := Aside0.mk A40; clear A40; obtain rfl := Option.some.inj H
  go_enter Tryd.func70, Tryd.ntmps70
  go_wp2_with (first | ((with_reducible refine gc 139 rfl ?_); refine gl (some 8) _ (#[.string a1, .string (a0 ++ (⟨#[47]⟩ : ByteArray))]) Tryd.func139 ?_; (with_reducible refine (strings_HasPrefix.calls a1 (a0 ++ (⟨#[47]⟩ : ByteArray)) a2 _ A4.out).mono ?_); rintro e w' ⟨rfl, ⟨nd, rfl⟩⟩; refine ⟨_, rfl, ?_⟩))
  go_ret
  exact ⟨Ye1, dz⟩
 ·rw [if_neg c3] at H
  exact absurd H (by simp)


end Go.Proofs.YtknagppkeodggaaDoor.P


namespace Go.Proofs.YtknagppkeodggaaDoor.P
open Go.RowKit Go.Proofs.YtknagppkeodggaaDoorW.PrintWords Go.Proofs.YtknagppkeodggaaDoorW.PrintLast Go.Proofs.YtknagppkeodggaaDoorW.PrintMore
attribute [local go_sem] max2_int min2_int max_two min_two max_three min_three max_four min_four
set_option linter.unusedVariables false
set_option linter.unusedSimpArgs false

/-! ### impl_ValidTree: function 18 -/
mutual
def impl_ValidTree.l0 : Nat → List (S27) → Int → Int → List (S27) → Option (Bool)
 | 0, _, _, _, _ => none
 | k + 1, x11, x12, x13, aa => if x13 < x12 then (if 0 ≤ x13 then (if x13 < (x11.length : Int) then ((impl_goodEntry.f k ((rd_T27 x11 x13).f0) ((rd_T27 x11 x13).f1) ((rd_T27 x11 x13).f2)).bind fun aD => (if aD = true then (if x13 > 0 then (if 0 ≤ (wrap64 (x13 - 1)) then (if (wrap64 (x13 - 1)) < (aa.length : Int) then (impl_ValidTree.j1 k x13 x11 x12 x13 (!(Op.bytesLess (((rd_T27 aa (wrap64 (x13 - 1))).f0).toList) (((rd_T27 x11 x13).f0).toList))) aa ((rd_T27 x11 x13).f0) ((rd_T27 x11 x13).f1) ((rd_T27 x11 x13).f2)) else (none)) else (none)) else (impl_ValidTree.j1 k x13 x11 x12 x13 false aa ((rd_T27 x11 x13).f0) ((rd_T27 x11 x13).f1) ((rd_T27 x11 x13).f2))) else (impl_ValidTree.j1 k x13 x11 x12 x13 true aa ((rd_T27 x11 x13).f0) ((rd_T27 x11 x13).f1) ((rd_T27 x11 x13).f2)))) else (none)) else (none)) else (some true)
def impl_ValidTree.j1 : Nat → Int → List (S27) → Int → Int → Bool → List (S27) → ByteArray → ByteArray → Bool → Option (Bool)
 | 0, _, _, _, _, _, _, _, _, _ => none
 | k + 1, x3, x11, x12, x13, x36, aa, aE, aN, aO => if x36 = true then (some false) else (impl_ValidTree.l1 k x3 0 x11 x12 x13 aa aE aN aO)
def impl_ValidTree.l1 : Nat → Int → Int → List (S27) → Int → Int → List (S27) → ByteArray → ByteArray → Bool → Option (Bool)
 | 0, _, _, _, _, _, _, _, _, _ => none
 | k + 1, x3, x5, x11, x12, x13, aa, aE, aN, aO => if x5 < x3 then (if 0 ≤ x5 then (if x5 < (aa.length : Int) then ((impl_over.f ((rd_T27 aa x5).f0) aE).bind fun aF => (if aF = true then (some false) else (impl_ValidTree.l1 k x3 (wrap64 (x5 + 1)) x11 x12 x13 aa aE aN aO))) else (none)) else (none)) else (impl_ValidTree.l0 k x11 x12 (wrap64 (x13 + 1)) aa)
end
def impl_ValidTree.f (k : Nat) (a1 : List (S27)) : Option (Bool) := if (a1.length : Int) > 100 then (some false) else (impl_ValidTree.l0 k a1 (a1.length : Int) 0 a1)
theorem impl_ValidTree.mono_l : ∀ k, (∀ y0 y1 y2 y3, LeO (impl_ValidTree.l0 k y0 y1 y2 y3) (impl_ValidTree.l0 (k + 1) y0 y1 y2 y3)) ∧ (∀ y0 y1 y2 y3 y4 y5 y6 y7 y8, LeO (impl_ValidTree.j1 k y0 y1 y2 y3 y4 y5 y6 y7 y8) (impl_ValidTree.j1 (k + 1) y0 y1 y2 y3 y4 y5 y6 y7 y8)) ∧ (∀ y0 y1 y2 y3 y4 y5 y6 y7 y8, LeO (impl_ValidTree.l1 k y0 y1 y2 y3 y4 y5 y6 y7 y8) (impl_ValidTree.l1 (k + 1) y0 y1 y2 y3 y4 y5 y6 y7 y8))
 | 0 => ⟨fun _ _ _ _ r h => by simp [impl_ValidTree.l0] at h, fun _ _ _ _ _ _ _ _ _ r h => by simp [impl_ValidTree.j1] at h, fun _ _ _ _ _ _ _ _ _ r h => by simp [impl_ValidTree.l1] at h⟩
 | k + 1 => by
  obtain ⟨ih0, ih1, ih2⟩ := impl_ValidTree.mono_l k; refine ⟨?_, ?_, ?_⟩
  ·intro y0 y1 y2 y3
   unfold impl_ValidTree.l0
   repeat' first
   | (with_reducible exact ih0 _ _ _ _)
   | (with_reducible exact ih1 _ _ _ _ _ _ _ _ _)
   | (with_reducible exact ih2 _ _ _ _ _ _ _ _ _)
   | (with_reducible exact impl_goodEntry.mono _ _ _ _)
   | (with_reducible exact LeO.refl _)
   | (with_reducible exact LeO.none _)
   | (with_reducible refine LeO.ite ?_ ?_)
   | (with_reducible refine LeO.bind ?_ (fun _ => ?_))
   | exact ih0 _ _ _ _
   | exact ih1 _ _ _ _ _ _ _ _ _
   | exact ih2 _ _ _ _ _ _ _ _ _
   | exact impl_goodEntry.mono _ _ _ _
   | exact LeO.none _
   | refine LeO.ite ?_ ?_
   | refine LeO.bind ?_ (fun _ => ?_)
  ·intro y0 y1 y2 y3 y4 y5 y6 y7 y8
   unfold impl_ValidTree.j1
   repeat' first
   | (with_reducible exact ih0 _ _ _ _)
   | (with_reducible exact ih1 _ _ _ _ _ _ _ _ _)
   | (with_reducible exact ih2 _ _ _ _ _ _ _ _ _)
   | (with_reducible exact impl_goodEntry.mono _ _ _ _)
   | (with_reducible exact LeO.refl _)
   | (with_reducible exact LeO.none _)
   | (with_reducible refine LeO.ite ?_ ?_)
   | (with_reducible refine LeO.bind ?_ (fun _ => ?_))
   | exact ih0 _ _ _ _
   | exact ih1 _ _ _ _ _ _ _ _ _
   | exact ih2 _ _ _ _ _ _ _ _ _
   | exact impl_goodEntry.mono _ _ _ _
   | exact LeO.none _
   | refine LeO.ite ?_ ?_
   | refine LeO.bind ?_ (fun _ => ?_)
  ·intro y0 y1 y2 y3 y4 y5 y6 y7 y8
   unfold impl_ValidTree.l1
   repeat' first
   | (with_reducible exact ih0 _ _ _ _)
   | (with_reducible exact ih1 _ _ _ _ _ _ _ _ _)
   | (with_reducible exact ih2 _ _ _ _ _ _ _ _ _)
   | (with_reducible exact impl_goodEntry.mono _ _ _ _)
   | (with_reducible exact LeO.refl _)
   | (with_reducible exact LeO.none _)
   | (with_reducible refine LeO.ite ?_ ?_)
   | (with_reducible refine LeO.bind ?_ (fun _ => ?_))
   | exact ih0 _ _ _ _
   | exact ih1 _ _ _ _ _ _ _ _ _
   | exact ih2 _ _ _ _ _ _ _ _ _
   | exact impl_goodEntry.mono _ _ _ _
   | exact LeO.none _
   | refine LeO.ite ?_ ?_
   | refine LeO.bind ?_ (fun _ => ?_)
theorem impl_ValidTree.mono : ∀ a0 k, LeO (impl_ValidTree.f k a0) (impl_ValidTree.f (k + 1) a0) := by
 intro a0 k; obtain ⟨ih0, ih1, ih2⟩ := impl_ValidTree.mono_l k
 unfold impl_ValidTree.f
 repeat' first
   | (with_reducible exact ih0 _ _ _ _)
   | (with_reducible exact ih1 _ _ _ _ _ _ _ _ _)
   | (with_reducible exact ih2 _ _ _ _ _ _ _ _ _)
   | (with_reducible exact impl_goodEntry.mono _ _ _ _)
   | (with_reducible exact LeO.refl _)
   | (with_reducible exact LeO.none _)
   | (with_reducible refine LeO.ite ?_ ?_)
   | (with_reducible refine LeO.bind ?_ (fun _ => ?_))
   | exact ih0 _ _ _ _
   | exact ih1 _ _ _ _ _ _ _ _ _
   | exact ih2 _ _ _ _ _ _ _ _ _
   | exact impl_goodEntry.mono _ _ _ _
   | exact LeO.none _
   | refine LeO.ite ?_ ?_
   | refine LeO.bind ?_ (fun _ => ?_)
def impl_ValidTree.T6 : Bool × List (List Nat × List Nat) := (true, [([], []), ([0], [0]), ([1], [1]), ([2, 1], [2]), ([3], [3]), ([4, 3], [3, 4]), ([5, 3, 3], [3, 5]), ([6], [6]), ([7, 6], [6, 7]), ([6], [6]), ([9, 6], [6, 9]), ([8, 10, 6], [6, 8, 10]), ([11, 6], [6, 11]), ([12, 6], [6, 12]), ([6], [6]), ([14, 6], [6, 14]), ([13, 15, 6], [6, 13, 15]), ([6, 16, 3], [3, 6, 16]), ([3, 17], [3, 17])])
def impl_ValidTree.B6 : List Nat := [0, 1, 3, 7, 15, 31, 63, 127, 255, 127, 639, 2047, 4095, 8191, 127, 16511, 65535, 131071, 262143]
theorem impl_ValidTree.tab6 : rtab .any (opsOf Tryd.f18 6) = impl_ValidTree.T6 := by kernel_rfl
theorem impl_ValidTree.bits6 : waitsOk impl_ValidTree.T6.2 impl_ValidTree.B6 = true := by kernel_rfl
def impl_ValidTree.T11 : Bool × List (List Nat × List Nat) := (true, [([], []), ([0], [0]), ([], []), ([1, 2], [1, 2]), ([3], [3]), ([4], [4]), ([], []), ([6], [6]), ([5, 7], [5, 7])])
def impl_ValidTree.B11 : List Nat := [0, 1, 0, 7, 15, 31, 0, 64, 255]
theorem impl_ValidTree.tab11 : rtab .any (opsOf Tryd.f18 11) = impl_ValidTree.T11 := by kernel_rfl
theorem impl_ValidTree.bits11 : waitsOk impl_ValidTree.T11.2 impl_ValidTree.B11 = true := by kernel_rfl
set_option maxHeartbeats 8000000 in
set_option maxRecDepth 100000 in
theorem impl_ValidTree.calls (k : Nat) (ax : Option Addr) (a9 : Nat) (a1 : List (S27)) (r : Bool) (w : World) (hg : GOK w) (aY : Kd.C k27 w ax a1.length a1) (aZ : a1.length ≤ a9) (h : impl_ValidTree.f k a1 = some r) :
  Calls Tryd.prog 18 #[.agg #[.slice ax a1.length a9]] w fun e w' => e = .returned (.bool r) ∧ Below w.heap.size w w' := by
 have HG := Aside0.mk hg; clear hg; have hu25 := Tryd.underlying25; have hu27 := Tryd.underlying27; have aG := Aside0.mk aY; have HC0_0 := Aside0.mk aZ; clear aY aZ; have HB := Aside0.mk (Below.refl w.heap.size w); have H : (if (a1.length : Int) > 100 then (some false) else (impl_ValidTree.l0 k a1 (a1.length : Int) 0 a1)) = some r := h; clear h
 by_cases c2 : (a1.length : Int) > 100
 ·rw [if_pos c2] at H
  have b0 : decide (100 < (a1.length : Int)) = true := decide_eq_true c2; have b1 : decide (100 < a1.length) = true := decide_eq_true (by omega); clear c2; obtain rfl := Option.some.inj H
  go_enter Tryd.func18, Tryd.ntmps18
  go_wp2_with (first | ((with_reducible refine gd 1 rfl ?_); refine bx 1 25 (#[.slice ax a1.length a9]) ?_; intro af hg w3 hbox hb; refine Ya4 (below_step (be HB.out) hb) (hbox) (bs hg (be HB.out)) (bs hg (be HB.out)) ?_; clear HB; intro HB a4 bn bo; clear hb hbox hg; have ⟨aP, aQ⟩ := Yc1 a4.out))
  go_ret
  exact ⟨Ye2, (bf HB.out)⟩
 ·rw [if_neg c2] at H
  have b0 : decide (100 < (a1.length : Int)) = false := decide_eq_false c2; have b1 : decide (100 < a1.length) = false := decide_eq_false (by omega); clear c2; have H' := Aside0.mk H; clear H
  go_enter Tryd.func18, Tryd.ntmps18
  go_wp2_with (first | ((with_reducible refine gd 1 rfl ?_); refine bx 1 25 (#[.slice ax a1.length a9]) ?_; intro af hg w5 hbox hb; refine Ya4 (below_step (be HB.out) hb) (hbox) (bs hg (be HB.out)) (bs hg (be HB.out)) ?_; clear HB; intro HB a4 bn bo; clear hb hbox hg; have ⟨aR, aS⟩ := Yc1 a4.out))
  go_loopg [13] k (fun kq v13 w' => ∃ (a2 : Int), v13 = .int .i64 a2 ∧ Aside0 (impl_ValidTree.l0 kq a1 (a1.length : Int) a2 a1 = some r) ∧ Aside0 (kq ≤ k) ∧ Aside0 (w'.heap[af]? = some (.cells #[(.slice ax a1.length a9)] 25 (0, 0))) ∧ Aside0 (Below w.heap.size w w'))
  case atStart => exact ⟨(0), Ye1, H', ⟨Nat.le_refl _⟩, ⟨bk a4.out⟩, ⟨bf HB.out⟩⟩
  case round =>
   clear H'; (try clear c1); (try clear c2); (try clear b0); (try clear b1); (try clear p2); (try clear aP); (try clear aR); (try clear aQ); (try clear aS); obtain ⟨a2, rfl, HA, HK1, a4, HB⟩ := hrel
   cases gk with
   | zero => exact absurd HA.out (by simp [impl_ValidTree.l0])
   | succ k1 =>
    have H := HA.out; clear HA; simp only [impl_ValidTree.l0] at H
    by_cases c7 : a2 < (a1.length : Int)
    ·rw [if_pos c7] at H
     have aT : decide (a2 < (a1.length : Int)) = true := decide_eq_true c7; clear c7
     by_cases c8 : 0 ≤ a2
     ·rw [if_pos c8] at H
      have b2 : decide (0 ≤ a2) = true := decide_eq_true c8; clear c8
      by_cases c9 : a2 < (a1.length : Int)
      ·rw [if_pos c9] at H
       have b3 : decide (a2 < (a1.length : Int)) = true := decide_eq_true c9; clear c9; have aU := Aside0.mk H; clear H; have ay : 0 ≤ (a2 : Int) := oda; have az : a2 < (a1.length : Int) := oda; obtain ⟨a7, bq, b4, b5, b6⟩ := at_T27 (Kd.C_below aG.out HB.out) a2 ay az
       cases bq
       replace ay := eq_true ay; replace az := eq_true az
       go_upto_region 6 with (first | ((with_reducible refine gd 4 rfl ?_); refine bx 4 27 (#[.string (⟨#[]⟩ : ByteArray), .string (⟨#[]⟩ : ByteArray), .bool false]) ?_; intro a5 hg ab hbox hb; refine Ya7 (bb a4 hb) (below_step (bf HB.out) hb) (hbox) (bs hg (bf HB.out)) (bs hg (bf HB.out)) (bl hg a4) (br hg a4) ?_; clear a4 HB; intro a4 HB a3 GW341 GE341 aH bu; clear hb hbox hg; have hnb12 := bu.out; have hnc12 := aH.out; have ⟨b7, b8, b9, ba, bd, bg⟩ := Yc3 a3.out))
       (try simp only [Act.put, List.setIfInBounds_toArray, List.set_cons_zero, List.set_cons_succ])
       go_cut [36] (fun v36 wc => ∃ (kq : Nat) (aI : Bool), v36 = .bool aI ∧ Aside0 (impl_ValidTree.j1 kq a2 a1 (a1.length : Int) a2 aI a1 ((rd_T27 a1 a2).f0) ((rd_T27 a1 a2).f1) ((rd_T27 a1 a2).f2) = some r) ∧ Aside0 (kq ≤ k1) ∧ Aside0 (wc.heap[af]? = some (.cells #[(.slice (some a7) a1.length a9)] 25 (0, 0))) ∧ Aside0 (wc.heap[a5]? = some (.cells #[.string ((rd_T27 a1 a2).f0), .string ((rd_T27 a1 a2).f1), .bool ((rd_T27 a1 a2).f2)] 27 (0, 0))) ∧ Aside0 (Below w.heap.size w wc))
       case first =>
        have H := aU.out; clear aU; replace H := Option.bind_eq_some_iff.mp H; obtain ⟨aD, bh, H⟩ := H; replace H : (if aD = true then (if a2 > 0 then (if 0 ≤ (wrap64 (a2 - 1)) then (if (wrap64 (a2 - 1)) < (a1.length : Int) then (impl_ValidTree.j1 k1 a2 a1 (a1.length : Int) a2 (!(Op.bytesLess (((rd_T27 a1 (wrap64 (a2 - 1))).f0).toList) (((rd_T27 a1 a2).f0).toList))) a1 ((rd_T27 a1 a2).f0) ((rd_T27 a1 a2).f1) ((rd_T27 a1 a2).f2)) else (none)) else (none)) else (impl_ValidTree.j1 k1 a2 a1 (a1.length : Int) a2 false a1 ((rd_T27 a1 a2).f0) ((rd_T27 a1 a2).f1) ((rd_T27 a1 a2).f2))) else (impl_ValidTree.j1 k1 a2 a1 (a1.length : Int) a2 true a1 ((rd_T27 a1 a2).f0) ((rd_T27 a1 a2).f1) ((rd_T27 a1 a2).f2))) = some r := H; have aJ := Aside0.mk bh; clear bh
        by_cases ao : aD = true
        ·subst ao
         have H1 : (if a2 > 0 then (if 0 ≤ (wrap64 (a2 - 1)) then (if (wrap64 (a2 - 1)) < (a1.length : Int) then (impl_ValidTree.j1 k1 a2 a1 (a1.length : Int) a2 (!(Op.bytesLess (((rd_T27 a1 (wrap64 (a2 - 1))).f0).toList) (((rd_T27 a1 a2).f0).toList))) a1 ((rd_T27 a1 a2).f0) ((rd_T27 a1 a2).f1) ((rd_T27 a1 a2).f2)) else (none)) else (none)) else (impl_ValidTree.j1 k1 a2 a1 (a1.length : Int) a2 false a1 ((rd_T27 a1 a2).f0) ((rd_T27 a1 a2).f1) ((rd_T27 a1 a2).f2))) = some r := by rw [if_pos rfl] at H; exact H
         clear H; have H := H1; clear H1
         by_cases aj : a2 > 0
         ·rw [if_pos aj] at H
          have ak : decide (0 < a2) = true := decide_eq_true aj; clear aj; (first | rw [ak] | (simp only [i64_w, i32_w]; rw [ak]) | skip)
          obtain ⟨a8, al⟩ : ∃ j_ : Int, (wrap64 (a2 - 1)) = j_ := ⟨_, rfl⟩
          replace H : (if 0 ≤ (a8) then (if (a8) < (a1.length : Int) then (impl_ValidTree.j1 k1 a2 a1 (a1.length : Int) a2 (!(Op.bytesLess (((rd_T27 a1 (a8)).f0).toList) (((rd_T27 a1 a2).f0).toList))) a1 ((rd_T27 a1 a2).f0) ((rd_T27 a1 a2).f1) ((rd_T27 a1 a2).f2)) else (none)) else (none)) = some r := by first | (rw [al] at H; exact H) | (simp only [al] at H ⊢; exact H)
          (try rw [al] at aJ); have hji17w : (IntKind.i64.wrap (a2 - 1)) = a8 := (i64_w _).trans al
          by_cases ap : 0 ≤ (a8)
          ·rw [if_pos ap] at H
           have bi : decide (0 ≤ (a8)) = true := decide_eq_true ap; clear ap
           by_cases aq : (a8) < (a1.length : Int)
           ·rw [if_pos aq] at H
            have bj : decide ((a8) < (a1.length : Int)) = true := decide_eq_true aq; clear aq; have H' := Aside0.mk H; clear H
            try go_wp2
            have ac : Aside0 ((((ab.setCell ⟨a5, 0, none⟩ (.string ((rd_T27 a1 a2).f0))).setCell ⟨a5, 1, none⟩ (.string ((rd_T27 a1 a2).f1))).setCell ⟨a5, 2, none⟩ (.bool ((rd_T27 a1 a2).f2))).heap[af]? = some (.cells #[.slice (some a7) a1.length a9] 25 (0, 0))) := ⟨bkf a4.out aH.out⟩
            have ad : Aside0 ((((ab.setCell ⟨a5, 0, none⟩ (.string ((rd_T27 a1 a2).f0))).setCell ⟨a5, 1, none⟩ (.string ((rd_T27 a1 a2).f1))).setCell ⟨a5, 2, none⟩ (.bool ((rd_T27 a1 a2).f2))).heap[a5]? = some (.cells #[.string ((rd_T27 a1 a2).f0), .string ((rd_T27 a1 a2).f1), .bool ((rd_T27 a1 a2).f2)] 27 (0, 0))) := ⟨bp a3.out⟩
            have ae : Aside0 (Below w.heap.size w (((ab.setCell ⟨a5, 0, none⟩ (.string ((rd_T27 a1 a2).f0))).setCell ⟨a5, 1, none⟩ (.string ((rd_T27 a1 a2).f1))).setCell ⟨a5, 2, none⟩ (.bool ((rd_T27 a1 a2).f2)))) := ⟨bf HB.out⟩
            (try clear a4); (try clear a3); (try clear HB); generalize (((ab.setCell ⟨a5, 0, none⟩ (.string ((rd_T27 a1 a2).f0))).setCell ⟨a5, 1, none⟩ (.string ((rd_T27 a1 a2).f1))).setCell ⟨a5, 2, none⟩ (.bool ((rd_T27 a1 a2).f2))) = w20 at ac ad ae ⊢; have a4 := ac; have a3 := ad; have HB := ae; clear ac ad ae; refine Ya3 (blk_drew a4.out) (blk_drew a3.out) (below_drew1 HB.out) ?_; clear a4 a3 HB; intro a4 a3 HB; have aA : 0 ≤ ((a8) : Int) := oda; have aB : (a8) < (a1.length : Int) := oda; obtain ⟨bv, bw, ar, au, av⟩ := at_T27 aG.out (a8) aA aB; have hw343_2 := av; have hw343_1 := au; have hw343_0 := ar
            obtain rfl : a7 = bv := (by injection bw)
            replace ar := pw_cell_below HB.out ar; replace au := pw_cell_below HB.out au; replace av := pw_cell_below HB.out av; replace aA := eq_true aA; replace aB := eq_true aB; refine start_ (n := 19) (S := fun w' => w'.cell? ⟨a5, 0, none⟩ = some (.string ((rd_T27 a1 a2).f0)) ∧ w'.cell? ⟨a5, 1, none⟩ = some (.string ((rd_T27 a1 a2).f1)) ∧ w'.cell? ⟨a5, 2, none⟩ = some (.bool ((rd_T27 a1 a2).f2)) ∧ w'.cell? ⟨af, 0, none⟩ = some (.slice (some a7) a1.length a9) ∧ w'.cell? (a7.add (((a8)).toNat * 3)) = some (.string ((rd_T27 a1 (a8)).f0)) ∧ w'.cell? ⟨(a7.add (((a8)).toNat * 3)).block, (a7.add (((a8)).toNat * 3)).off + 1, none⟩ = some (.string ((rd_T27 a1 (a8)).f1)) ∧ w'.cell? ⟨(a7.add (((a8)).toNat * 3)).block, (a7.add (((a8)).toNat * 3)).off + 2, none⟩ = some (.bool ((rd_T27 a1 (a8)).f2))) (ds := []) (fb 19 0) (by kernel_rfl) rfl rfl ⟨bc a3 0, bc a3 1, bc a3 2, bc a4 0, (pw_cell_below HB.out hw343_0), (pw_cell_below HB.out hw343_1), (pw_cell_below HB.out hw343_2)⟩ (fun hHeld => ?_); refine with_tabW impl_ValidTree.tab6 impl_ValidTree.bits6 (fun HT_ HW_ => ?_); generalize w20.drew = w21 at a4 a3 HB ar au av hHeld ⊢; refine tk 0 18 (fb 19 1) HT_ HW_ hHeld ?_; refine o1 1 (some 19) (fb 19 3) HT_ (fun K hK => ?_); refine gs _ (#[.agg #[.string ((rd_T27 a1 a2).f0), .string ((rd_T27 a1 a2).f1), .bool ((rd_T27 a1 a2).f2)]]) Tryd.func69 ?_; (with_reducible refine (impl_goodEntry.calls k1 ((rd_T27 a1 a2).f0) ((rd_T27 a1 a2).f1) ((rd_T27 a1 a2).f2) true _ ?sideG aJ.out).mono ?_; (case sideG => exact gf HG.out HB.out)); rintro e w22 ⟨rfl, hb⟩; refine ⟨_, rfl, ?_⟩; refine Ya3 (bb a4 hb) (bb a3 hb) (below_step (bf HB.out) hb) ?_; clear a4 a3 HB; intro a4 a3 HB; (try clear hb); (try clear hb2); (try clear hk); (try clear hi); refine hK.out _ _ ⟨bc a3 0, bc a3 1, bc a3 2, bc a4 0, (pw_cell_below HB.out hw343_0), (pw_cell_below HB.out hw343_1), (pw_cell_below HB.out hw343_2)⟩ (fun hHeld => ?_); clear hK K; refine nm 19 ?_; refine pu 2 20 (fb 19 7) HT_ ?_; refine pu 3 21 (fb 19 15) HT_ ?_; refine pu 4 22 (fb 19 31) HT_ ?_; refine pu 5 23 (fb 19 63) HT_ ?_; refine pu 6 24 (fb 19 127) HT_ ?_; refine pu 7 25 (fb 19 255) HT_ ?_; refine pu 9 27 (fb 19 767) HT_ ?_; refine pu 10 28 (fb 19 1791) HT_ ?_; refine pu 14 32 (fb 19 18175) HT_ ?_; refine tk 8 26 (fb 19 18431) HT_ HW_ hHeld ?_; refine pu 11 29 (fb 19 20479) HT_ ?_; refine pu 12 30 (fb 19 24575) HT_ ?_; refine tk 13 31 (fb 19 32767) HT_ HW_ hHeld ?_; refine tk 15 33 (fb 19 65535) HT_ HW_ hHeld ?_; refine pu 16 34 (fb 19 131071) HT_ ?_; refine pu 17 35 (fb 19 262143) HT_ ?_; refine pu 18 36 (fb 19 524287) HT_ ?_; refine done_ (done_of HT_.out (by kernel_rfl)) ?_
            try go_wp2
            go_meet
            case rel => exact ⟨_, (!(Op.bytesLess (((rd_T27 a1 (a8)).f0).toList) (((rd_T27 a1 a2).f0).toList))), (by first | rfl | (simp; done) | (simp only [← al] <;> (first | rfl | simp)) | (simp [*]; done)), (by first | exact H' | (subst al; exact H') | (simp only [← al] at H' ⊢; exact H')), ⟨by have := HK1.out; first | omega | exact Nat.le_refl _⟩, ⟨bk a4.out⟩, ⟨bk a3.out⟩, ⟨bf HB.out⟩⟩
           ·rw [if_neg aq] at H
            exact absurd H (by simp)
          ·rw [if_neg ap] at H
           exact absurd H (by simp)
         ·rw [if_neg aj] at H
          have ak : decide (0 < a2) = false := decide_eq_false aj; clear aj; (first | rw [ak] | (simp only [i64_w, i32_w]; rw [ak]) | skip); have H' := Aside0.mk H; clear H
          try go_wp2
          have ac : Aside0 ((((ab.setCell ⟨a5, 0, none⟩ (.string ((rd_T27 a1 a2).f0))).setCell ⟨a5, 1, none⟩ (.string ((rd_T27 a1 a2).f1))).setCell ⟨a5, 2, none⟩ (.bool ((rd_T27 a1 a2).f2))).heap[af]? = some (.cells #[.slice (some a7) a1.length a9] 25 (0, 0))) := ⟨bkf a4.out aH.out⟩
          have ad : Aside0 ((((ab.setCell ⟨a5, 0, none⟩ (.string ((rd_T27 a1 a2).f0))).setCell ⟨a5, 1, none⟩ (.string ((rd_T27 a1 a2).f1))).setCell ⟨a5, 2, none⟩ (.bool ((rd_T27 a1 a2).f2))).heap[a5]? = some (.cells #[.string ((rd_T27 a1 a2).f0), .string ((rd_T27 a1 a2).f1), .bool ((rd_T27 a1 a2).f2)] 27 (0, 0))) := ⟨bp a3.out⟩
          have ae : Aside0 (Below w.heap.size w (((ab.setCell ⟨a5, 0, none⟩ (.string ((rd_T27 a1 a2).f0))).setCell ⟨a5, 1, none⟩ (.string ((rd_T27 a1 a2).f1))).setCell ⟨a5, 2, none⟩ (.bool ((rd_T27 a1 a2).f2)))) := ⟨bf HB.out⟩
          (try clear a4); (try clear a3); (try clear HB); generalize (((ab.setCell ⟨a5, 0, none⟩ (.string ((rd_T27 a1 a2).f0))).setCell ⟨a5, 1, none⟩ (.string ((rd_T27 a1 a2).f1))).setCell ⟨a5, 2, none⟩ (.bool ((rd_T27 a1 a2).f2))) = w23 at ac ad ae ⊢; have a4 := ac; have a3 := ad; have HB := ae; clear ac ad ae; refine Ya3 (blk_drew a4.out) (blk_drew a3.out) (below_drew1 HB.out) ?_; clear a4 a3 HB; intro a4 a3 HB; refine start_ (n := 19) (S := fun w' => w'.cell? ⟨a5, 0, none⟩ = some (.string ((rd_T27 a1 a2).f0)) ∧ w'.cell? ⟨a5, 1, none⟩ = some (.string ((rd_T27 a1 a2).f1)) ∧ w'.cell? ⟨a5, 2, none⟩ = some (.bool ((rd_T27 a1 a2).f2))) (ds := []) (fb 19 0) (by kernel_rfl) rfl rfl ⟨bc a3 0, bc a3 1, bc a3 2⟩ (fun hHeld => ?_); refine with_tabW impl_ValidTree.tab6 impl_ValidTree.bits6 (fun HT_ HW_ => ?_); generalize w23.drew = w24 at a4 a3 HB hHeld ⊢; refine tk 0 18 (fb 19 1) HT_ HW_ hHeld ?_; refine o1 1 (some 19) (fb 19 3) HT_ (fun K hK => ?_); refine gs _ (#[.agg #[.string ((rd_T27 a1 a2).f0), .string ((rd_T27 a1 a2).f1), .bool ((rd_T27 a1 a2).f2)]]) Tryd.func69 ?_; (with_reducible refine (impl_goodEntry.calls k1 ((rd_T27 a1 a2).f0) ((rd_T27 a1 a2).f1) ((rd_T27 a1 a2).f2) true _ ?sideG aJ.out).mono ?_; (case sideG => exact gf HG.out HB.out)); rintro e w25 ⟨rfl, hb⟩; refine ⟨_, rfl, ?_⟩; refine Ya3 (bb a4 hb) (bb a3 hb) (below_step (bf HB.out) hb) ?_; clear a4 a3 HB; intro a4 a3 HB; (try clear hb); (try clear hb2); (try clear hk); (try clear hi); refine hK.out _ _ ⟨bc a3 0, bc a3 1, bc a3 2⟩ (fun hHeld => ?_); clear hK K; refine nm 19 ?_; refine pu 2 20 (fb 19 7) HT_ ?_; refine pu 3 21 (fb 19 15) HT_ ?_; refine pu 4 22 (fb 19 31) HT_ ?_; refine pu 5 23 (fb 19 63) HT_ ?_; refine pu 6 24 (fb 19 127) HT_ ?_; refine pn 7 25 (fb 19 255) HT_ ?_; refine pn 8 26 (fb 19 511) HT_ ?_; refine pn 9 27 (fb 19 1023) HT_ ?_; refine pn 10 28 (fb 19 2047) HT_ ?_; refine pn 11 29 (fb 19 4095) HT_ ?_; refine pn 12 30 (fb 19 8191) HT_ ?_; refine pn 13 31 (fb 19 16383) HT_ ?_; refine pn 14 32 (fb 19 32767) HT_ ?_; refine pn 15 33 (fb 19 65535) HT_ ?_; refine pn 16 34 (fb 19 131071) HT_ ?_; refine pu 17 35 (fb 19 262143) HT_ ?_; refine pu 18 36 (fb 19 524287) HT_ ?_; refine done_ (done_of HT_.out (by kernel_rfl)) ?_
          try go_wp2
          go_meet
          case rel => exact ⟨_, (false), Ye1, H', ⟨by have := HK1.out; first | omega | exact Nat.le_refl _⟩, ⟨bk a4.out⟩, ⟨bk a3.out⟩, ⟨bf HB.out⟩⟩
        ·replace ao := Bool.eq_false_iff.mpr ao; subst ao
         have H1 : (impl_ValidTree.j1 k1 a2 a1 (a1.length : Int) a2 true a1 ((rd_T27 a1 a2).f0) ((rd_T27 a1 a2).f1) ((rd_T27 a1 a2).f2)) = some r := by rw [if_neg (show ¬ (false = true) by decide)] at H; exact H
         clear H; have H := H1; clear H1; have H' := Aside0.mk H; clear H
         try go_wp2
         have ac : Aside0 ((((ab.setCell ⟨a5, 0, none⟩ (.string ((rd_T27 a1 a2).f0))).setCell ⟨a5, 1, none⟩ (.string ((rd_T27 a1 a2).f1))).setCell ⟨a5, 2, none⟩ (.bool ((rd_T27 a1 a2).f2))).heap[af]? = some (.cells #[.slice (some a7) a1.length a9] 25 (0, 0))) := ⟨bkf a4.out aH.out⟩
         have ad : Aside0 ((((ab.setCell ⟨a5, 0, none⟩ (.string ((rd_T27 a1 a2).f0))).setCell ⟨a5, 1, none⟩ (.string ((rd_T27 a1 a2).f1))).setCell ⟨a5, 2, none⟩ (.bool ((rd_T27 a1 a2).f2))).heap[a5]? = some (.cells #[.string ((rd_T27 a1 a2).f0), .string ((rd_T27 a1 a2).f1), .bool ((rd_T27 a1 a2).f2)] 27 (0, 0))) := ⟨bp a3.out⟩
         have ae : Aside0 (Below w.heap.size w (((ab.setCell ⟨a5, 0, none⟩ (.string ((rd_T27 a1 a2).f0))).setCell ⟨a5, 1, none⟩ (.string ((rd_T27 a1 a2).f1))).setCell ⟨a5, 2, none⟩ (.bool ((rd_T27 a1 a2).f2)))) := ⟨bf HB.out⟩
         (try clear a4); (try clear a3); (try clear HB); generalize (((ab.setCell ⟨a5, 0, none⟩ (.string ((rd_T27 a1 a2).f0))).setCell ⟨a5, 1, none⟩ (.string ((rd_T27 a1 a2).f1))).setCell ⟨a5, 2, none⟩ (.bool ((rd_T27 a1 a2).f2))) = w26 at ac ad ae ⊢; have a4 := ac; have a3 := ad; have HB := ae; clear ac ad ae; refine Ya3 (blk_drew a4.out) (blk_drew a3.out) (below_drew1 HB.out) ?_; clear a4 a3 HB; intro a4 a3 HB; refine start_ (n := 19) (S := fun w' => w'.cell? ⟨a5, 0, none⟩ = some (.string ((rd_T27 a1 a2).f0)) ∧ w'.cell? ⟨a5, 1, none⟩ = some (.string ((rd_T27 a1 a2).f1)) ∧ w'.cell? ⟨a5, 2, none⟩ = some (.bool ((rd_T27 a1 a2).f2))) (ds := []) (fb 19 0) (by kernel_rfl) rfl rfl ⟨bc a3 0, bc a3 1, bc a3 2⟩ (fun hHeld => ?_); refine with_tabW impl_ValidTree.tab6 impl_ValidTree.bits6 (fun HT_ HW_ => ?_); generalize w26.drew = w27 at a4 a3 HB hHeld ⊢; refine tk 0 18 (fb 19 1) HT_ HW_ hHeld ?_; refine o1 1 (some 19) (fb 19 3) HT_ (fun K hK => ?_); refine gs _ (#[.agg #[.string ((rd_T27 a1 a2).f0), .string ((rd_T27 a1 a2).f1), .bool ((rd_T27 a1 a2).f2)]]) Tryd.func69 ?_; (with_reducible refine (impl_goodEntry.calls k1 ((rd_T27 a1 a2).f0) ((rd_T27 a1 a2).f1) ((rd_T27 a1 a2).f2) false _ ?sideG aJ.out).mono ?_; (case sideG => exact gf HG.out HB.out)); rintro e w28 ⟨rfl, hb⟩; refine ⟨_, rfl, ?_⟩; refine Ya3 (bb a4 hb) (bb a3 hb) (below_step (bf HB.out) hb) ?_; clear a4 a3 HB; intro a4 a3 HB; (try clear hb); (try clear hb2); (try clear hk); (try clear hi); refine hK.out _ _ ⟨bc a3 0, bc a3 1, bc a3 2⟩ (fun hHeld => ?_); clear hK K; refine nm 19 ?_; refine pu 2 20 (fb 19 7) HT_ ?_; refine pu 3 21 (fb 19 15) HT_ ?_; refine pn 4 22 (fb 19 31) HT_ ?_; refine pn 5 23 (fb 19 63) HT_ ?_; refine pn 6 24 (fb 19 127) HT_ ?_; refine pn 7 25 (fb 19 255) HT_ ?_; refine pn 8 26 (fb 19 511) HT_ ?_; refine pn 9 27 (fb 19 1023) HT_ ?_; refine pn 10 28 (fb 19 2047) HT_ ?_; refine pn 11 29 (fb 19 4095) HT_ ?_; refine pn 12 30 (fb 19 8191) HT_ ?_; refine pn 13 31 (fb 19 16383) HT_ ?_; refine pn 14 32 (fb 19 32767) HT_ ?_; refine pn 15 33 (fb 19 65535) HT_ ?_; refine pn 16 34 (fb 19 131071) HT_ ?_; refine pn 17 35 (fb 19 262143) HT_ ?_; refine pu 18 36 (fb 19 524287) HT_ ?_; refine done_ (done_of HT_.out (by kernel_rfl)) ?_
         try go_wp2
         go_meet
         case rel => exact ⟨_, (true), Ye1, H', ⟨by have := HK1.out; first | omega | exact Nat.le_refl _⟩, ⟨bk a4.out⟩, ⟨bk a3.out⟩, ⟨bf HB.out⟩⟩
       case rest =>
        clear aU; (try clear c1); (try clear p2); (try clear p3); (try clear q3); (try clear hx3); (try clear c6); (try clear p6); (try clear c7); (try clear aT); (try clear c8); (try clear b2); (try clear c9); (try clear b3); (try clear c12); (try clear ao); (try clear aj); (try clear ak); (try clear ap); (try clear bi); (try clear aq); (try clear bj); (try clear b7); (try clear b8); (try clear b9); (try clear aP); (try clear aR); (try clear ba); (try clear bd); (try clear bg); (try clear aQ); (try clear aS); (try clear b4); (try clear b5); (try clear b6); (try clear ar); (try clear au); (try clear av); (try clear ay); (try clear aA); (try clear az); (try clear aB); obtain ⟨kq, aI, rfl, HA, HJ9, a4, a3, HB⟩ := hcut
        cases kq with
        | zero => exact absurd HA.out (by simp [impl_ValidTree.j1])
        | succ aV =>
         have H := HA.out; clear HA; simp only [impl_ValidTree.j1] at H
         by_cases aC : aI = true
         ·subst aC
          have H1 : (some false) = some r := by rw [if_pos rfl] at H; exact H
          clear H; have H := H1; clear H1; obtain rfl := Option.some.inj H
          go_wp2
          go_ret
          exact ⟨Ye2, (bf HB.out)⟩
         ·replace aC := Bool.eq_false_iff.mpr aC; subst aC
          have H1 : (impl_ValidTree.l1 aV a2 0 a1 (a1.length : Int) a2 a1 ((rd_T27 a1 a2).f0) ((rd_T27 a1 a2).f1) ((rd_T27 a1 a2).f2)) = some r := by rw [if_neg (show ¬ (false = true) by decide)] at H; exact H
          clear H; have H := H1; clear H1; have H' := Aside0.mk H; clear H
          go_wp2
          go_loopg [5] aV (fun kq v5 w' => ∃ (a6 : Int), v5 = .int .i64 a6 ∧ Aside0 (impl_ValidTree.l1 kq a2 a6 a1 (a1.length : Int) a2 a1 ((rd_T27 a1 a2).f0) ((rd_T27 a1 a2).f1) ((rd_T27 a1 a2).f2) = some r) ∧ Aside0 (kq ≤ aV) ∧ Aside0 (w'.heap[af]? = some (.cells #[(.slice (some a7) a1.length a9)] 25 (0, 0))) ∧ Aside0 (w'.heap[a5]? = some (.cells #[.string ((rd_T27 a1 a2).f0), .string ((rd_T27 a1 a2).f1), .bool ((rd_T27 a1 a2).f2)] 27 (0, 0))) ∧ Aside0 (Below w.heap.size w w'))
          case atStart => exact ⟨(0), Ye1, H', ⟨Nat.le_refl _⟩, ⟨bk a4.out⟩, ⟨bk a3.out⟩, ⟨bf HB.out⟩⟩
          case round =>
           clear H'; (try clear c1); (try clear c2); (try clear p2); (try clear p3); (try clear q3); (try clear hx3); (try clear c6); (try clear p6); (try clear c7); (try clear aT); (try clear c8); (try clear b2); (try clear c9); (try clear b3); (try clear c12); (try clear ao); (try clear aj); (try clear ak); (try clear ap); (try clear bi); (try clear aq); (try clear bj); (try clear aC); (try clear b7); (try clear b8); (try clear b9); (try clear aP); (try clear aR); (try clear ba); (try clear bd); (try clear bg); (try clear aQ); (try clear aS); (try clear b4); (try clear b5); (try clear b6); (try clear ar); (try clear au); (try clear av); (try clear p2); (try clear p3); (try clear ay); (try clear aA); (try clear p6); (try clear q3); (try clear az); (try clear aB); obtain ⟨a6, rfl, HA, HK3, a4, a3, HB⟩ := hrel
           cases gk with
           | zero => exact absurd HA.out (by simp [impl_ValidTree.l1])
           | succ k3 =>
            have H := HA.out; clear HA; simp only [impl_ValidTree.l1] at H
            by_cases aw : a6 < a2
            ·rw [if_pos aw] at H
             have bz : decide (a6 < a2) = true := decide_eq_true aw; clear aw
             by_cases aK : 0 ≤ a6
             ·rw [if_pos aK] at H
              have c31b0 : decide (0 ≤ a6) = true := decide_eq_true aK; clear aK
              by_cases aL : a6 < (a1.length : Int)
              ·rw [if_pos aL] at H
               have c32b0 : decide (a6 < (a1.length : Int)) = true := decide_eq_true aL; clear aL; replace H := Option.bind_eq_some_iff.mp H; obtain ⟨aF, bm, H⟩ := H; replace H : (if aF = true then (some false) else (impl_ValidTree.l1 k3 a2 (wrap64 (a6 + 1)) a1 (a1.length : Int) a2 a1 ((rd_T27 a1 a2).f0) ((rd_T27 a1 a2).f1) ((rd_T27 a1 a2).f2))) = some r := H; have A33 := Aside0.mk bm; clear bm
               by_cases aM : aF = true
               ·subst aM
                have H1 : (some false) = some r := by rw [if_pos rfl] at H; exact H
                clear H; have H := H1; clear H1; obtain rfl := Option.some.inj H
                try go_wp2
                refine Ya3 (blk_drew a4.out) (blk_drew a3.out) (below_drew1 HB.out) ?_; clear a4 a3 HB; intro a4 a3 HB; have am : 0 ≤ (a6 : Int) := oda; have an : a6 < (a1.length : Int) := oda; obtain ⟨aW, aX, ag, ah, ai⟩ := at_T27 aG.out a6 am an; have hw344_2 := ai; have hw344_1 := ah; have hw344_0 := ag
                obtain rfl : a7 = aW := (by injection aX)
                replace ag := pw_cell_below HB.out ag; replace ah := pw_cell_below HB.out ah; replace ai := pw_cell_below HB.out ai; replace am := eq_true am; replace an := eq_true an; refine start_ (n := 9) (S := fun w' => w'.cell? ⟨af, 0, none⟩ = some (.slice (some a7) a1.length a9) ∧ w'.cell? ⟨a5, 0, none⟩ = some (.string ((rd_T27 a1 a2).f0)) ∧ w'.cell? ⟨a5, 1, none⟩ = some (.string ((rd_T27 a1 a2).f1)) ∧ w'.cell? ⟨a5, 2, none⟩ = some (.bool ((rd_T27 a1 a2).f2)) ∧ w'.cell? (a7.add ((a6).toNat * 3)) = some (.string ((rd_T27 a1 a6).f0)) ∧ w'.cell? ⟨(a7.add ((a6).toNat * 3)).block, (a7.add ((a6).toNat * 3)).off + 1, none⟩ = some (.string ((rd_T27 a1 a6).f1)) ∧ w'.cell? ⟨(a7.add ((a6).toNat * 3)).block, (a7.add ((a6).toNat * 3)).off + 2, none⟩ = some (.bool ((rd_T27 a1 a6).f2))) (ds := []) (fb 9 0) (by kernel_rfl) rfl rfl ⟨bc a4 0, bc a3 0, bc a3 1, bc a3 2, (pw_cell_below HB.out hw344_0), (pw_cell_below HB.out hw344_1), (pw_cell_below HB.out hw344_2)⟩ (fun hHeld => ?_); refine with_tabW impl_ValidTree.tab11 impl_ValidTree.bits11 (fun HT_ HW_ => ?_); generalize wr.drew = w35 at a4 a3 HB ag ah ai hHeld ⊢; refine pu 0 42 (fb 9 1) HT_ ?_; refine pu 2 44 (fb 9 5) HT_ ?_; refine pu 6 48 (fb 9 69) HT_ ?_; refine tk 1 43 (fb 9 71) HT_ HW_ hHeld ?_; refine pu 3 45 (fb 9 79) HT_ ?_; refine pu 4 46 (fb 9 95) HT_ ?_; refine tk 5 47 (fb 9 127) HT_ HW_ hHeld ?_; refine tk 7 49 (fb 9 255) HT_ HW_ hHeld ?_; refine o1 8 (some 50) (fb 9 511) HT_ (fun K hK => ?_); refine gs _ (#[.string ((rd_T27 a1 a6).f0), .string ((rd_T27 a1 a2).f0)]) Tryd.func70 ?_; (with_reducible refine (impl_over.calls ((rd_T27 a1 a6).f0) ((rd_T27 a1 a2).f0) true _ A33.out).mono ?_); rintro e w' ⟨rfl, ⟨nd, rfl⟩⟩; refine ⟨_, rfl, ?_⟩; refine hK.out _ _ ⟨bc a4 0, bc a3 0, bc a3 1, bc a3 2, (pw_cell_below HB.out hw344_0), (pw_cell_below HB.out hw344_1), (pw_cell_below HB.out hw344_2)⟩ (fun hHeld => ?_); clear hK K; refine nm 50 ?_; refine done_ (done_of HT_.out (by kernel_rfl)) ?_
                try go_wp2
                go_ret
                exact ⟨Ye2, (bf HB.out)⟩
               ·replace aM := Bool.eq_false_iff.mpr aM; subst aM
                have H1 : (impl_ValidTree.l1 k3 a2 (wrap64 (a6 + 1)) a1 (a1.length : Int) a2 a1 ((rd_T27 a1 a2).f0) ((rd_T27 a1 a2).f1) ((rd_T27 a1 a2).f2)) = some r := by rw [if_neg (show ¬ (false = true) by decide)] at H; exact H
                clear H; have H := H1; clear H1; have H' := Aside0.mk H; clear H
                try go_wp2
                refine Ya3 (blk_drew a4.out) (blk_drew a3.out) (below_drew1 HB.out) ?_; clear a4 a3 HB; intro a4 a3 HB; have am : 0 ≤ (a6 : Int) := oda; have an : a6 < (a1.length : Int) := oda; obtain ⟨aW, aX, ag, ah, ai⟩ := at_T27 aG.out a6 am an; have hw344_2 := ai; have hw344_1 := ah; have hw344_0 := ag
                obtain rfl : a7 = aW := (by injection aX)
                replace ag := pw_cell_below HB.out ag; replace ah := pw_cell_below HB.out ah; replace ai := pw_cell_below HB.out ai; replace am := eq_true am; replace an := eq_true an; refine start_ (n := 9) (S := fun w' => w'.cell? ⟨af, 0, none⟩ = some (.slice (some a7) a1.length a9) ∧ w'.cell? ⟨a5, 0, none⟩ = some (.string ((rd_T27 a1 a2).f0)) ∧ w'.cell? ⟨a5, 1, none⟩ = some (.string ((rd_T27 a1 a2).f1)) ∧ w'.cell? ⟨a5, 2, none⟩ = some (.bool ((rd_T27 a1 a2).f2)) ∧ w'.cell? (a7.add ((a6).toNat * 3)) = some (.string ((rd_T27 a1 a6).f0)) ∧ w'.cell? ⟨(a7.add ((a6).toNat * 3)).block, (a7.add ((a6).toNat * 3)).off + 1, none⟩ = some (.string ((rd_T27 a1 a6).f1)) ∧ w'.cell? ⟨(a7.add ((a6).toNat * 3)).block, (a7.add ((a6).toNat * 3)).off + 2, none⟩ = some (.bool ((rd_T27 a1 a6).f2))) (ds := []) (fb 9 0) (by kernel_rfl) rfl rfl ⟨bc a4 0, bc a3 0, bc a3 1, bc a3 2, (pw_cell_below HB.out hw344_0), (pw_cell_below HB.out hw344_1), (pw_cell_below HB.out hw344_2)⟩ (fun hHeld => ?_); refine with_tabW impl_ValidTree.tab11 impl_ValidTree.bits11 (fun HT_ HW_ => ?_); generalize wr.drew = w36 at a4 a3 HB ag ah ai hHeld ⊢; refine pu 0 42 (fb 9 1) HT_ ?_; refine pu 2 44 (fb 9 5) HT_ ?_; refine pu 6 48 (fb 9 69) HT_ ?_; refine tk 1 43 (fb 9 71) HT_ HW_ hHeld ?_; refine pu 3 45 (fb 9 79) HT_ ?_; refine pu 4 46 (fb 9 95) HT_ ?_; refine tk 5 47 (fb 9 127) HT_ HW_ hHeld ?_; refine tk 7 49 (fb 9 255) HT_ HW_ hHeld ?_; refine o1 8 (some 50) (fb 9 511) HT_ (fun K hK => ?_); refine gs _ (#[.string ((rd_T27 a1 a6).f0), .string ((rd_T27 a1 a2).f0)]) Tryd.func70 ?_; (with_reducible refine (impl_over.calls ((rd_T27 a1 a6).f0) ((rd_T27 a1 a2).f0) false _ A33.out).mono ?_); rintro e w' ⟨rfl, ⟨nd, rfl⟩⟩; refine ⟨_, rfl, ?_⟩; refine hK.out _ _ ⟨bc a4 0, bc a3 0, bc a3 1, bc a3 2, (pw_cell_below HB.out hw344_0), (pw_cell_below HB.out hw344_1), (pw_cell_below HB.out hw344_2)⟩ (fun hHeld => ?_); clear hK K; refine nm 50 ?_; refine done_ (done_of HT_.out (by kernel_rfl)) ?_
                try go_wp2
                go_roundg k3
                case measure => have := HK1.out; have := HJ9.out; have := HK3.out; omega
                case rel => exact ⟨(wrap64 (a6 + 1)), Ye1, H', ⟨by have := HK1.out; have := HJ9.out; have := HK3.out; omega⟩, ⟨bk a4.out⟩, ⟨bk a3.out⟩, ⟨bf HB.out⟩⟩
              ·rw [if_neg aL] at H
               exact absurd H (by simp)
             ·rw [if_neg aK] at H
              exact absurd H (by simp)
            ·rw [if_neg aw] at H
             have bz : decide (a6 < a2) = false := decide_eq_false aw; clear aw; have H' := Aside0.mk H; clear H
             go_wp2
             go_roundg k3
             case measure => have := HK1.out; have := HJ9.out; have := HK3.out; omega
             case rel => exact ⟨(wrap64 (a2 + 1)), Ye1, H', ⟨by have := HK1.out; have := HJ9.out; have := HK3.out; omega⟩, ⟨bk a4.out⟩, ⟨bf HB.out⟩⟩
      ·rw [if_neg c9] at H
       exact absurd H (by simp)
     ·rw [if_neg c8] at H
      exact absurd H (by simp)
    ·rw [if_neg c7] at H
     have aT : decide (a2 < (a1.length : Int)) = false := decide_eq_false c7; clear c7; obtain rfl := Option.some.inj H
     go_wp2
     go_ret
     exact ⟨Ye2, (bf HB.out)⟩

end Go.Proofs.YtknagppkeodggaaDoor.P


namespace Go.Proofs.YtknagppkeodggaaDoor.P
open Go.RowKit Go.Proofs.YtknagppkeodggaaDoorW.PrintWords Go.Proofs.YtknagppkeodggaaDoorW.PrintLast Go.Proofs.YtknagppkeodggaaDoorW.PrintMore
attribute [local go_sem] max2_int min2_int max_two min_two max_three min_three max_four min_four
set_option linter.unusedVariables false
set_option linter.unusedSimpArgs false

/-! ### impl_Get: function 17 -/
def impl_Get.f (k : Nat) (a2 : List (S27)) (a1 : ByteArray) : Option (ByteArray × ByteArray × Bool × Bool) := (impl_ValidTree.f k a2).bind fun a8 => (if a8 = true then ((impl_find.f k a2 a1).bind fun bt373 => (if bt373.2 = true then (if 0 ≤ bt373.1 then (if bt373.1 < (a2.length : Int) then (some ((rd_T27 a2 bt373.1).f0, (rd_T27 a2 bt373.1).f1, (rd_T27 a2 bt373.1).f2, true)) else (none)) else (none)) else (some ((⟨#[]⟩ : ByteArray), (⟨#[]⟩ : ByteArray), false, false)))) else (some ((⟨#[]⟩ : ByteArray), (⟨#[]⟩ : ByteArray), false, false)))
theorem impl_Get.mono : ∀ a0 a1 k, LeO (impl_Get.f k a0 a1) (impl_Get.f (k + 1) a0 a1) := by
 intro a0 a1 k
 unfold impl_Get.f
 repeat' first
   | (with_reducible exact impl_ValidTree.mono _ _)
   | (with_reducible exact impl_find.mono _ _ _)
   | (with_reducible exact LeO.refl _)
   | (with_reducible exact LeO.none _)
   | (with_reducible refine LeO.ite ?_ ?_)
   | (with_reducible refine LeO.bind ?_ (fun _ => ?_))
   | exact impl_ValidTree.mono _ _
   | exact impl_find.mono _ _ _
   | exact LeO.none _
   | refine LeO.ite ?_ ?_
   | refine LeO.bind ?_ (fun _ => ?_)
set_option maxHeartbeats 8000000 in
set_option maxRecDepth 100000 in
theorem impl_Get.calls (k : Nat) (a6 : Option Addr) (a7 : Nat) (a2 : List (S27)) (a1 : ByteArray) (r1 : ByteArray) (r2 : ByteArray) (r3 : Bool) (r4 : Bool) (w : World) (hg : GOK w) (ag : Kd.C k27 w a6 a2.length a2) (ah : a2.length ≤ a7) (h : impl_Get.f k a2 a1 = some (r1, r2, r3, r4)) :
  Calls Tryd.prog 17 #[.agg #[.slice a6 a2.length a7], .string a1] w fun e w' => e = .returned (.tuple #[.agg #[.string r1, .string r2, .bool r3], .bool r4]) ∧ Below w.heap.size w w' := by
 have HG := Aside0.mk hg; clear hg; have hu25 := Tryd.underlying25; have hu27 := Tryd.underlying27; have a9 := Aside0.mk ag; have aa := Aside0.mk ah; clear ag ah; have HB := Aside0.mk (Below.refl w.heap.size w); have H : ((impl_ValidTree.f k a2).bind fun a8 => (if a8 = true then ((impl_find.f k a2 a1).bind fun bt373 => (if bt373.2 = true then (if 0 ≤ bt373.1 then (if bt373.1 < (a2.length : Int) then (some ((rd_T27 a2 bt373.1).f0, (rd_T27 a2 bt373.1).f1, (rd_T27 a2 bt373.1).f2, true)) else (none)) else (none)) else (some ((⟨#[]⟩ : ByteArray), (⟨#[]⟩ : ByteArray), false, false)))) else (some ((⟨#[]⟩ : ByteArray), (⟨#[]⟩ : ByteArray), false, false)))) = some (r1, r2, r3, r4) := h; clear h; replace H := Option.bind_eq_some_iff.mp H; obtain ⟨a8, A30, H⟩ := H; replace H : (if a8 = true then ((impl_find.f k a2 a1).bind fun bt373 => (if bt373.2 = true then (if 0 ≤ bt373.1 then (if bt373.1 < (a2.length : Int) then (some ((rd_T27 a2 bt373.1).f0, (rd_T27 a2 bt373.1).f1, (rd_T27 a2 bt373.1).f2, true)) else (none)) else (none)) else (some ((⟨#[]⟩ : ByteArray), (⟨#[]⟩ : ByteArray), false, false)))) else (some ((⟨#[]⟩ : ByteArray), (⟨#[]⟩ : ByteArray), false, false))) = some (r1, r2, r3, r4) := H; have A3 := Aside0.mk A30; clear A30
 by_cases c4 : a8 = true
 ·subst c4
  have H1 : ((impl_find.f k a2 a1).bind fun bt373 => (if bt373.2 = true then (if 0 ≤ bt373.1 then (if bt373.1 < (a2.length : Int) then (some ((rd_T27 a2 bt373.1).f0, (rd_T27 a2 bt373.1).f1, (rd_T27 a2 bt373.1).f2, true)) else (none)) else (none)) else (some ((⟨#[]⟩ : ByteArray), (⟨#[]⟩ : ByteArray), false, false)))) = some (r1, r2, r3, r4) := by rw [if_pos rfl] at H; exact H
  clear H; have H := H1; clear H1; replace H := Option.bind_eq_some_iff.mp H; obtain ⟨⟨a5, ai⟩, A50, H⟩ := H; replace H : (if ai = true then (if 0 ≤ a5 then (if a5 < (a2.length : Int) then (some ((rd_T27 a2 a5).f0, (rd_T27 a2 a5).f1, (rd_T27 a2 a5).f2, true)) else (none)) else (none)) else (some ((⟨#[]⟩ : ByteArray), (⟨#[]⟩ : ByteArray), false, false))) = some (r1, r2, r3, r4) := H; have A5 := Aside0.mk A50; clear A50
  by_cases c6 : ai = true
  ·subst c6
   have H1 : (if 0 ≤ a5 then (if a5 < (a2.length : Int) then (some ((rd_T27 a2 a5).f0, (rd_T27 a2 a5).f1, (rd_T27 a2 a5).f2, true)) else (none)) else (none)) = some (r1, r2, r3, r4) := by rw [if_pos rfl] at H; exact H
   clear H; have H := H1; clear H1
   by_cases c7 : 0 ≤ a5
   ·rw [if_pos c7] at H
    have c7b0 : decide (0 ≤ a5) = true := decide_eq_true c7; clear c7
    by_cases c8 : a5 < (a2.length : Int)
    ·rw [if_pos c8] at H
     have c8b0 : decide (a5 < (a2.length : Int)) = true := decide_eq_true c8; clear c8; simp only [Option.some.injEq, Prod.mk.injEq] at H; obtain ⟨rfl, rfl, rfl, rfl⟩ := H
     go_enter Tryd.func17, Tryd.ntmps17
     go_wp2_with (first | ((with_reducible refine gd 2 rfl ?_); refine bx 2 25 (#[.slice a6 a2.length a7]) ?_; intro aj hg w9 hbox hb; refine Ya4 (below_step (be HB.out) hb) (hbox) (bs hg (be HB.out)) (bs hg (be HB.out)) ?_; clear HB; intro HB a3 ak al; clear hb hbox hg) | ((with_reducible refine gd 4 rfl ?_); refine bx 4 27 (#[.string (⟨#[]⟩ : ByteArray), .string (⟨#[]⟩ : ByteArray), .bool false]) ?_; intro ab hg w10 hbox hb; refine Ya7 (bb a3 hb) (below_step (bf HB.out) hb) (hbox) (bs hg (bf HB.out)) (bs hg (bf HB.out)) (bl hg a3) (br hg a3) ?_; clear a3 HB; intro a3 HB a4 am an ac ad; clear hb hbox hg; have hnb11 := ac.out; have hnc11 := ad.out; have ⟨au, av⟩ := Yc1 a3.out) | ((with_reducible refine gc 18 rfl ?_); refine gl (some 9) _ (#[.agg #[.slice a6 a2.length a7]]) Tryd.func18 ?_; (with_reducible refine (impl_ValidTree.calls k _ _ a2 true _ ?sideG ?side1 ?side2 A3.out).mono ?_); (case sideG => exact gf HG.out HB.out); (case side1 => exact cb (Kd.C_below a9.out HB.out)); (case side2 => exact aa.out); rintro e w13 ⟨rfl, hb⟩; refine ⟨_, rfl, ?_⟩; refine Ya3 (bb a3 hb) (bb a4 hb) (below_step (bf HB.out) hb) ?_; clear a3 a4 HB; intro a3 a4 HB; (try clear hb); (try clear hb2); (try clear hk); (try clear hi); have ⟨aw, ax⟩ := Yc1 a3.out) | ((with_reducible refine gc 74 rfl ?_); refine gl (some 15) _ (#[.agg #[.slice a6 a2.length a7], .string a1]) Tryd.func74 ?_; (with_reducible refine (impl_find.calls k _ _ a2 a1 a5 true _ ?side1 ?side2 A5.out).mono ?_); (case side1 => exact cb (Kd.C_below a9.out HB.out)); (case side2 => exact aa.out); rintro e w15 ⟨rfl, hb⟩; refine ⟨_, rfl, ?_⟩; refine Ya3 (bb a3 hb) (bb a4 hb) (below_step (bf HB.out) hb) ?_; clear a3 a4 HB; intro a3 a4 HB; (try clear hb); (try clear hb2); (try clear hk); (try clear hi); have ⟨ay, az⟩ := Yc1 a3.out; have ae : 0 ≤ (a5 : Int) := oda; have af : a5 < (a2.length : Int) := oda; obtain ⟨ad375, ar, ao, ap, aq⟩ := at_T27 a9.out a5 ae af; cases ar; replace ao := pw_cell_below HB.out ao; replace ap := pw_cell_below HB.out ap; replace aq := pw_cell_below HB.out aq; replace ae := eq_true ae; replace af := eq_true af; have ⟨aA, aB, aC, aD, aE, aF⟩ := Yc3 a4.out))
     refine bodyPost_ret (results_ct rfl _ _ ab 27 #[.string ((rd_T27 a2 a5).f0), .string ((rd_T27 a2 a5).f1), .bool ((rd_T27 a2 a5).f2)] (0, 0) _ rfl (bp a4.out) Tryd.underlying27 rfl (by kernel_rfl)) rfl ?_; exact ⟨Ye2, (bf HB.out)⟩
    ·rw [if_neg c8] at H
     exact absurd H (by simp)
   ·rw [if_neg c7] at H
    exact absurd H (by simp)
  ·replace c6 := Bool.eq_false_iff.mpr c6; subst c6
   have H1 : (some ((⟨#[]⟩ : ByteArray), (⟨#[]⟩ : ByteArray), false, false)) = some (r1, r2, r3, r4) := by rw [if_neg (show ¬ (false = true) by decide)] at H; exact H
   clear H; have H := H1; clear H1; simp only [Option.some.injEq, Prod.mk.injEq] at H; obtain ⟨rfl, rfl, rfl, rfl⟩ := H
   go_enter Tryd.func17, Tryd.ntmps17
   go_wp2_with (first | ((with_reducible refine gd 2 rfl ?_); refine bx 2 25 (#[.slice a6 a2.length a7]) ?_; intro aj hg w18 hbox hb; refine Ya4 (below_step (be HB.out) hb) (hbox) (bs hg (be HB.out)) (bs hg (be HB.out)) ?_; clear HB; intro HB a3 ak al; clear hb hbox hg) | ((with_reducible refine gd 4 rfl ?_); refine bx 4 27 (#[.string (⟨#[]⟩ : ByteArray), .string (⟨#[]⟩ : ByteArray), .bool false]) ?_; intro ab hg w19 hbox hb; refine Ya7 (bb a3 hb) (below_step (bf HB.out) hb) (hbox) (bs hg (bf HB.out)) (bs hg (bf HB.out)) (bl hg a3) (br hg a3) ?_; clear a3 HB; intro a3 HB a4 am an ac ad; clear hb hbox hg; have hnb20 := ac.out; have hnc20 := ad.out; have ⟨aG, aH⟩ := Yc1 a3.out) | ((with_reducible refine gc 18 rfl ?_); refine gl (some 9) _ (#[.agg #[.slice a6 a2.length a7]]) Tryd.func18 ?_; (with_reducible refine (impl_ValidTree.calls k _ _ a2 true _ ?sideG ?side1 ?side2 A3.out).mono ?_); (case sideG => exact gf HG.out HB.out); (case side1 => exact cb (Kd.C_below a9.out HB.out)); (case side2 => exact aa.out); rintro e w22 ⟨rfl, hb⟩; refine ⟨_, rfl, ?_⟩; refine Ya3 (bb a3 hb) (bb a4 hb) (below_step (bf HB.out) hb) ?_; clear a3 a4 HB; intro a3 a4 HB; (try clear hb); (try clear hb2); (try clear hk); (try clear hi); have ⟨aI, aJ⟩ := Yc1 a3.out) | ((with_reducible refine gc 74 rfl ?_); refine gl (some 15) _ (#[.agg #[.slice a6 a2.length a7], .string a1]) Tryd.func74 ?_; (with_reducible refine (impl_find.calls k _ _ a2 a1 a5 false _ ?side1 ?side2 A5.out).mono ?_); (case side1 => exact cb (Kd.C_below a9.out HB.out)); (case side2 => exact aa.out); rintro e w24 ⟨rfl, hb⟩; refine ⟨_, rfl, ?_⟩; refine Ya3 (bb a3 hb) (bb a4 hb) (below_step (bf HB.out) hb) ?_; clear a3 a4 HB; intro a3 a4 HB; (try clear hb); (try clear hb2); (try clear hk); (try clear hi); have ⟨aK, aL, aM, aN, aO, aP⟩ := Yc3 a4.out))
   refine bodyPost_ret (results_ct rfl _ _ ab 27 #[.string (⟨#[]⟩ : ByteArray), .string (⟨#[]⟩ : ByteArray), .bool false] (0, 0) _ rfl (bp a4.out) Tryd.underlying27 rfl (by kernel_rfl)) rfl ?_; exact ⟨Ye2, (bf HB.out)⟩
 ·replace c4 := Bool.eq_false_iff.mpr c4; subst c4
  have H1 : (some ((⟨#[]⟩ : ByteArray), (⟨#[]⟩ : ByteArray), false, false)) = some (r1, r2, r3, r4) := by rw [if_neg (show ¬ (false = true) by decide)] at H; exact H
  clear H; have H := H1; clear H1; simp only [Option.some.injEq, Prod.mk.injEq] at H; obtain ⟨rfl, rfl, rfl, rfl⟩ := H
  go_enter Tryd.func17, Tryd.ntmps17
  go_wp2_with (first | ((with_reducible refine gd 2 rfl ?_); refine bx 2 25 (#[.slice a6 a2.length a7]) ?_; intro aj hg w26 hbox hb; refine Ya4 (below_step (be HB.out) hb) (hbox) (bs hg (be HB.out)) (bs hg (be HB.out)) ?_; clear HB; intro HB a3 ak al; clear hb hbox hg) | ((with_reducible refine gd 4 rfl ?_); refine bx 4 27 (#[.string (⟨#[]⟩ : ByteArray), .string (⟨#[]⟩ : ByteArray), .bool false]) ?_; intro ab hg w27 hbox hb; refine Ya7 (bb a3 hb) (below_step (bf HB.out) hb) (hbox) (bs hg (bf HB.out)) (bs hg (bf HB.out)) (bl hg a3) (br hg a3) ?_; clear a3 HB; intro a3 HB a4 am an ac ad; clear hb hbox hg; have hnb28 := ac.out; have hnc28 := ad.out; have ⟨aQ, aR⟩ := Yc1 a3.out) | ((with_reducible refine gc 18 rfl ?_); refine gl (some 9) _ (#[.agg #[.slice a6 a2.length a7]]) Tryd.func18 ?_; (with_reducible refine (impl_ValidTree.calls k _ _ a2 false _ ?sideG ?side1 ?side2 A3.out).mono ?_); (case sideG => exact gf HG.out HB.out); (case side1 => exact cb (Kd.C_below a9.out HB.out)); (case side2 => exact aa.out); rintro e w30 ⟨rfl, hb⟩; refine ⟨_, rfl, ?_⟩; refine Ya3 (bb a3 hb) (bb a4 hb) (below_step (bf HB.out) hb) ?_; clear a3 a4 HB; intro a3 a4 HB; (try clear hb); (try clear hb2); (try clear hk); (try clear hi); have ⟨aS, aT, aU, aV, aW, aX⟩ := Yc3 a4.out))
  refine bodyPost_ret (results_ct rfl _ _ ab 27 #[.string (⟨#[]⟩ : ByteArray), .string (⟨#[]⟩ : ByteArray), .bool false] (0, 0) _ rfl (bp a4.out) Tryd.underlying27 rfl (by kernel_rfl)) rfl ?_; exact ⟨Ye2, (bf HB.out)⟩

end Go.Proofs.YtknagppkeodggaaDoor.P


namespace Go.Proofs.YtknagppkeodggaaDoor.P
open Go.RowKit Go.Proofs.YtknagppkeodggaaDoorW.PrintWords Go.Proofs.YtknagppkeodggaaDoorW.PrintLast Go.Proofs.YtknagppkeodggaaDoorW.PrintMore
attribute [local go_sem] max2_int min2_int max_two min_two max_three min_three max_four min_four
set_option linter.unusedVariables false
set_option linter.unusedSimpArgs false

/-! ### impl_sorted: function 71 -/
/- Walked by hand. -/
open Go.Proofs.YtknagppkeodggaaDoor.Pure
def impl_sorted.f (l0 : List S27) : Option (List S27) := if l0.length < 4611686018427387904 ∧ Apart l0 then some (sortE l0) else none
instance : Inhabited S27 := ⟨z27⟩
def impl_sorted.enc (x : S27) : List Value := [.string x.f0, .string x.f1, .bool x.f2]
def impl_sorted.lt (x y : S27) : Bool := Op.bytesLess x.f0.toList y.f0.toList
theorem impl_sorted.swo : Go.Sort.SWO impl_sorted.lt where
 irrefl x := less_irrefl _
 trans x y z h1 h2 := less_trans _ _ _ h1 h2
 ntrans x y z h1 h2 := by
  unfold impl_sorted.lt at *
  rw [← Bool.not_eq_true]
  intro h3
  by_cases e1 : x.f0.toList = y.f0.toList
  ·rw [e1] at h3
   exact absurd h3 (by rw [h2]; simp)
  ·have := less_trans _ _ _ (less_or h1 e1) h3
   exact absurd this (by show ¬ Op.bytesLess y.f0.toList z.f0.toList = true; rw [h2]; simp)
section
variable {w : World} {g n : Nat} {os : Array Obj} {cur : Array Value} {e : TypeId} {fr : Nat × Nat}
theorem impl_sorted.heap_put (d : Array Value) (hb : w.heap[g]? = some (.cells cur e fr)) : (Sort.grow (Sort.putRow id (Sort.ahead w n) g 0 d) os).heap[g]? = some (.cells (Sort.putCells id 0 d cur) e fr) := by
 have hg : g < w.heap.size := (Array.getElem?_eq_some_iff.1 hb).1
 rw [Sort.heap_grow_old _ _ (by simpa using hg)]
 simp [Sort.putRow, Sort.mapBlock, Sort.ahead, Array.getElem?_modify, hb, Sort.onCells]
theorem impl_sorted.grown (d : Array Value) : w.grownBy (Sort.grow (Sort.putRow id (Sort.ahead w n) g 0 d) os) (some g) := by
 refine ⟨rfl, rfl, rfl, by simp, fun k hk hne => ?_⟩
 rw [Sort.heap_grow_old _ _ (by simpa using hk)]
 have : g ≠ k := fun e => hne (by rw [e])
 simp [Sort.putRow, Sort.mapBlock, Sort.ahead, Array.getElem?_modify, this]
theorem impl_sorted.take_put (cur : Array Value) (ts : List Value) (h : ts.length ≤ cur.size) : (Sort.putCells id 0 ts.toArray cur).toList.take ts.length = ts := by
 apply List.ext_getElem?
 intro j
 by_cases hj : j < ts.length
 ·rw [List.getElem?_take_of_lt hj, Array.getElem?_toList]
  simp [Sort.putCells, hj, show j < cur.size by omega]
 ·rw [List.getElem?_take_eq_none (by omega), List.getElem?_eq_none (by omega)]
end
theorem impl_sorted.flat_get (l : List S27) (j : Nat) (x : S27) (h : l[j]? = some x) : ((Sort.flatK impl_sorted.enc 3 l.toArray).toList.drop (j * 3)).take 3 = impl_sorted.enc x := by
 have hj := (List.getElem?_eq_some_iff.1 h).1
 have hx : l.toArray[j]! = x := by
  rw [getElem!_pos l.toArray j (by simpa using hj)]
  simpa using (List.getElem?_eq_some_iff.1 h).2
 apply List.ext_getElem?
 intro c
 by_cases hc : c < 3
 ·rw [List.getElem?_take_of_lt hc, List.getElem?_drop, Array.getElem?_toList]
  have hlt : j * 3 + c < l.toArray.size * 3 := by
   simp only [List.size_toArray]
   omega
  have := Sort.get_flatK impl_sorted.enc 3 l.toArray (j * 3 + c) hlt
  rw [getElem!_pos _ _ (by simpa using hlt)] at this
  rw [Array.getElem?_eq_getElem (by simpa using hlt), this, show (j * 3 + c) / 3 = j from by omega, show (j * 3 + c) % 3 = c from by omega, hx]
  rw [getElem!_pos (impl_sorted.enc x) c hc, List.getElem?_eq_getElem (show c < (impl_sorted.enc x).length from hc)]
  rfl
 ·rw [List.getElem?_take_eq_none (by omega), List.getElem?_eq_none (by show 3 ≤ c; omega)]
theorem impl_sorted.flat_of (l : List S27) {cs : List Value} (h : Reps (fun x c => c = impl_sorted.enc x) 3 l cs) : cs = (Sort.flatK impl_sorted.enc 3 l.toArray).toList := by
 apply List.ext_getElem?
 intro t
 by_cases ht : t < l.length * 3
 ·have hj : t / 3 < l.length := by omega
  obtain ⟨x, hx⟩ : ∃ x, l[t / 3]? = some x := ⟨_, List.getElem?_eq_getElem hj⟩
  have h1 := h.2 _ x hx
  have h2 := impl_sorted.flat_get l _ x hx
  have h3 : ((cs.drop (t / 3 * 3)).take 3)[t % 3]? = (((Sort.flatK impl_sorted.enc 3 l.toArray).toList.drop (t / 3 * 3)).take 3)[t % 3]? := by rw [h1, h2]
  rw [List.getElem?_take_of_lt (by omega), List.getElem?_take_of_lt (by omega), List.getElem?_drop, List.getElem?_drop, show t / 3 * 3 + t % 3 = t from by omega] at h3
  exact h3
 ·rw [List.getElem?_eq_none (by rw [h.1]; omega), List.getElem?_eq_none (by simp; omega)]
theorem impl_sorted.reps_flat (w : World) (base : Nat) (ok : Nat → Prop) (l : List S27) : Reps (k27.M w base ok) 3 l (Sort.flatK impl_sorted.enc 3 l.toArray).toList := by
 refine ⟨by simp, fun j x hx => ?_⟩
 rw [impl_sorted.flat_get l j x hx]
 exact k27_mkM w base ok x
/-- What a row of entries of one's own is, cell by cell. -/
theorem impl_sorted.opened {w : World} {base : Nat} {ok : Nat → Prop} {v : Value} {l : List S27} (h : Kd.R k27 27 w base ok v l) : w.ownsRow base 27 3 v l.length (Sort.flatK impl_sorted.enc 3 l.toArray).toList := by
 obtain ⟨_, inner, ho, hr⟩ := h
 have hr' : Reps (fun x c => c = impl_sorted.enc x) 3 l inner := hr.imp_ (fun x c hc => k27_openM hc)
 rw [← impl_sorted.flat_of l hr']
 exact ho
theorem impl_sorted.holds {w : World} {g cap n : Nat} {base : Nat} {l : List S27} (h : w.ownsRow base 27 3 (.slice (some ⟨g, 0, none⟩) n cap) l.length (Sort.flatK impl_sorted.enc 3 l.toArray).toList) : Sort.HoldsK impl_sorted.enc 3 w g 0 l.toArray := by
 rcases h.2 with ⟨h0, _⟩ | ⟨g', cap', cur, hv, hbase, hb, h1, h2, h3, h4⟩
 ·cases h0
 injection hv with hv _ _
 injection hv with hv
 injection hv with hv
 subst hv
 intro j hj
 have hj' : j < l.length * 3 := by simpa using hj
 refine ⟨?_, by simp [World.frozen?, hb]⟩
 have h5 : (cur.toList.take (l.length * 3))[j]? = (Sort.flatK impl_sorted.enc 3 l.toArray).toList[j]? := by rw [h4]
 rw [List.getElem?_take_of_lt hj', Array.getElem?_toList, Array.getElem?_toList, Array.getElem?_eq_getElem hj] at h5
 rw [Nat.zero_add, blk_cell hb j, h5]
 show some _ = some ((Sort.flatK impl_sorted.enc 3 l.toArray)[j]!)
 rw [getElem!_pos (Sort.flatK impl_sorted.enc 3 l.toArray) j hj]
noncomputable def impl_sorted.svT : TypeInfo := (Tryd.prog.info? 23).get (by kernel_rfl)
noncomputable def impl_sorted.svE : TypeInfo := (Tryd.prog.info? 27).get (by kernel_rfl)
theorem impl_sorted.svK (n : Nat) (h2 : 2 ≤ n) : Go.Lib.swapperK n impl_sorted.svE 25 = 9 := by
 have a : impl_sorted.svE.hasPointers = true := by kernel_rfl
 have b : impl_sorted.svE.bytes = 40 := by kernel_rfl
 have c : (n == 0) = false := by simp; omega
 have d : (n == 1) = false := by simp; omega
 simp [Go.Lib.swapperK, a, b, c, d]
set_option maxHeartbeats 2000000 in
theorem impl_sorted.less_calls (blk off c Bs size : Nat) (W : World) (G : Nat → ByteArray) (hs : W.cell? ⟨Bs, 0, none⟩ = some (.slice (some ⟨blk, off, none⟩) size c))
  (hc : ∀ t, t < size → W.cell? ⟨blk, off + t * 3, none⟩ = some (.string (G t))) (i j : Nat) (hi : i < size) (hj : j < size) (_hsz : size < 4611686018427387904) :
  Calls Tryd.prog 141 #[.int .i64 i, .int .i64 j, .pointer (some ⟨Bs, 0, none⟩)] W fun e w' => e = .returned (.bool (Op.bytesLess (G i).toList (G j).toList)) ∧ ∃ q, w' = W.drewN q := by
 have ci := hc i hi
 have cj := hc j hj
 have hu45 := Tryd.underlying27
 have hu27 := Tryd.underlying23
 clear hc
 go_enter Tryd.func141, Tryd.ntmps141
 go_wp2
 go_quiet (fail)
 go_wp2
 go_ret
 exact ⟨rfl, nq, rfl⟩
theorem impl_sorted.sort_calls (blk c Bs : Nat) (d : Array S27) (h2 : 2 ≤ d.size) (hsz : d.size < 4611686018427387904) (w : World) (hH : Sort.HoldsK impl_sorted.enc 3 w blk 0 d) (hblk : blk < w.heap.size)
  (hBs : w.cell? ⟨Bs, 0, none⟩ = some (.slice (some ⟨blk, 0, none⟩) d.size c)) (hB1 : Bs < w.heap.size) (hB2 : Bs ≠ blk) :
  Calls Tryd.prog 140 #[.iface 23 (.slice (some ⟨blk, 0, none⟩) d.size c), .func (.func 141) #[] #[.pointer (some ⟨Bs, 0, none⟩)]] w fun e w' =>
   e = .returned (.tuple #[]) ∧ ∃ d' n os, Sort.PermIn 0 d.size d d' ∧ Sort.SortedIn impl_sorted.lt 0 d.size d' ∧ w' = Sort.grow (Sort.putRowK impl_sorted.enc 3 (Sort.ahead w n) blk 0 d') os := by
 have hless : LessReadsK Tryd.prog 141 #[.pointer (some ⟨Bs, 0, none⟩)] impl_sorted.enc 3 impl_sorted.lt blk 0 d.size w := by
  intro m os dk hs i j hi hj
  have e : sortWorldK impl_sorted.enc 3 w blk 0 m dk os = Sort.putRowK impl_sorted.enc 3 (Sort.grow (Sort.ahead w m) os) blk 0 dk := by
   unfold sortWorldK; rw [Sort.putRowK_grow _ _ (Sort.ahead w m) _ blk 0 _ hblk]
  have hHg : Sort.HoldsK impl_sorted.enc 3 (Sort.grow (Sort.ahead w m) os) blk 0 d := Sort.holdsK_grow _ _ _ _ blk 0 d hblk (Sort.holdsK_ahead _ _ _ _ _ _ _ hH)
  refine impl_sorted.less_calls blk 0 c Bs d.size _ (fun t => dk[t]!.f0) ?_ (fun t ht => ?_) i j hi hj (by omega)
  ·rw [e, Sort.cell?_putRowK_other _ _ _ blk 0 dk _ (by exact hB2), Sort.cell?_grow _ _ _ (by exact hB1)]; exact hBs
  ·rw [e]; exact ((Sort.holdsK_putRowK _ _ _ blk 0 d dk hHg hs).cell (i := t) (c := 0) (by omega) (by omega)).1
 exact Any.sort_Slice_cells_sorted Tryd.laysGg6 23 27 impl_sorted.svT impl_sorted.svE (by kernel_rfl) (by kernel_rfl) (by kernel_rfl) (by kernel_rfl) 25 (fun _ => by kernel_rfl) impl_sorted.enc 3 (fun _ => rfl) (by kernel_rfl) (fun _ => by kernel_rfl)
  (fun x v hv => by simp [impl_sorted.enc] at hv; rcases hv with rfl | rfl | rfl <;> rfl) impl_sorted.lt impl_sorted.swo 141 _
  (enters_of Tryd.func141 (by kernel_rfl) rfl) blk 0 c d h2 hsz 203 (by rw [impl_sorted.svK _ h2]; kernel_rfl) false
  (fun args W => run_callFunc_extern Tryd.func203 (by kernel_rfl) (by kernel_rfl) (by kernel_rfl) (e := Extern.ReflectliteSwapper.swap false) (by kernel_rfl) args W) w hless hH hblk
theorem impl_sorted.tiny_calls (p : Option Addr) (n c Bs : Nat) (h1 : n ≤ 1) (w : World) :
  Calls Tryd.prog 140 #[.iface 23 (.slice p n c), .func (.func 141) #[] #[.pointer (some ⟨Bs, 0, none⟩)]] w fun e w' => e = .returned (.tuple #[]) ∧ ∃ os, w' = Sort.grow w os := by
 have : n = 0 ∨ n = 1 := by omega
 rcases this with rfl | rfl
 ·exact Any.sort_Slice_tiny Tryd.laysGg6 23 27 impl_sorted.svT impl_sorted.svE (by kernel_rfl) (by kernel_rfl) (by kernel_rfl) (by kernel_rfl) 25 (fun _ => by kernel_rfl) p 0 c (by omega) 195 (by kernel_rfl) _ _ _ w
 ·exact Any.sort_Slice_tiny Tryd.laysGg6 23 27 impl_sorted.svT impl_sorted.svE (by kernel_rfl) (by kernel_rfl) (by kernel_rfl) (by kernel_rfl) 25 (fun _ => by kernel_rfl) p 1 c (by omega) 196 (by kernel_rfl) _ _ _ w
theorem impl_sorted.grown_cell (W : World) (b : Nat) (v : Value) : W.grownBy (W.setCell ⟨b, 0, none⟩ v) (some b) :=
 ⟨rfl, rfl, rfl, by simp, fun i _ hne => Below.heap_setCell W ⟨b, 0, none⟩ v i (fun e => hne (by rw [e]))⟩
theorem impl_sorted.sort_one : ∀ l : List S27, l.length ≤ 1 → sortE l = l
 | [], _ => rfl
 | [_], _ => rfl
 | _ :: _ :: _, h => by simp at h
theorem impl_sorted.grow_below (w : World) (os : Array Obj) : Below w.heap.size w (Sort.grow w os) := ⟨rfl, rfl, rfl, by simp [Sort.grow], fun k hk => Sort.heap_grow_old w os hk⟩
theorem impl_sorted.sorted_of {l : List S27} {d' : Array S27} (ha : Apart l) (hp : Sort.PermIn 0 l.toArray.size l.toArray d') (hs : Sort.SortedIn impl_sorted.lt 0 l.toArray.size d') : d' = (sortE l).toArray := by
 obtain ⟨h1, _, h2⟩ := hp
 rw [← h1, Array.extract_size, h1, Array.extract_size] at h2
 have hd : d'.toList = sortE l := by
  refine sortE_of ha (by simpa using h2) ?_
  rw [List.pairwise_iff_getElem]
  intro i j hi hj hij
  have hi' : i < d'.size := by simpa using hi
  have hj' : j < d'.size := by simpa using hj
  have := hs i j (Nat.zero_le _) hij (by rw [← h1]; exact hj')
  rw [getElem!_pos d' i hi', getElem!_pos d' j hj'] at this
  exact this
 rw [← hd]
/-- What the sort leaves of the row. -/
theorem impl_sorted.row_of {w w2 : World} {base g cap n : Nat} {os : Array Obj} {ok : Nat → Prop} {l d : List S27} (h : Kd.R k27 27 w2 base ok (.slice (some ⟨g, 0, none⟩) l.length cap) l) (hl : d.length = l.length) :
  Kd.R k27 27 (Sort.grow (Sort.putRowK impl_sorted.enc 3 (Sort.ahead w2 n) g 0 d.toArray) os) base ok (.slice (some ⟨g, 0, none⟩) l.length cap) d ∧ w2.grownBy (Sort.grow (Sort.putRowK impl_sorted.enc 3 (Sort.ahead w2 n) g 0 d.toArray) os) (some g) := by
 have ho := impl_sorted.opened h
 refine ⟨⟨h.1, (Sort.flatK impl_sorted.enc 3 d.toArray).toList, ?_, impl_sorted.reps_flat _ _ _ d⟩, impl_sorted.grown _⟩
 rcases ho.2 with ⟨h0, _⟩ | ⟨g', cap', cur, hv, hbase, hb, h1, h2, h3, h4⟩
 ·cases h0
 injection hv with hv _ hcap
 injection hv with hv
 injection hv with hv
 subst hv
 subst hcap
 refine ⟨by rw [show (k27).sz = 3 from rfl]; simp [hl], .inr ⟨g, cap, _, by rw [hl], hbase, impl_sorted.heap_put _ hb, by rw [hl]; exact h1, h2, by rw [show (k27).sz = 3 from rfl]; simp [Sort.putCells, h3], ?_⟩⟩
 have hlen : (Sort.flatK impl_sorted.enc 3 d.toArray).toList.length = d.length * 3 := by simp
 have := impl_sorted.take_put cur (Sort.flatK impl_sorted.enc 3 d.toArray).toList (by rw [hlen, hl, h3]; exact Nat.mul_le_mul_right 3 h1)
 rw [hlen] at this
 exact this
set_option maxHeartbeats 2000000 in
set_option maxRecDepth 100000 in
theorem impl_sorted.calls (P0_ : Nat → Prop) (u9000_ : Value) (l0 : List S27) (r : List S27) (w0 w : World) (hB : Below w0.heap.size w0 w) (ho0 : Kd.R k27 27 w w0.heap.size P0_ u9000_ l0) (h : impl_sorted.f l0 = some r) :
  Calls Tryd.prog 71 #[u9000_] w fun e w' => ∃ v0_ : Value, e = .returned (.agg #[v0_]) ∧ Kd.R k27 27 w' w0.heap.size (fun k_ => (P0_ k_ ∨ w.heap.size ≤ k_)) v0_ r ∧ Below w0.heap.size w0 w' ∧ Kept w w' (fun k_ => P0_ k_) := by
 have hu27 := Tryd.underlying23
 have hu29 := Tryd.underlying25
 unfold impl_sorted.f at h
 split at h
 ·rename_i hc
  obtain rfl := Option.some.inj h
  have HC := Aside0.mk hc
  clear h hc
  obtain ⟨A, c, rfl⟩ := Kd.R_slice ho0
  have HO := Aside0.mk ho0
  have HB := Aside0.mk (Below.refl w.heap.size w)
  have HB0 := Aside0.mk hB
  clear ho0 hB
  by_cases h2 : l0.length ≤ 1
  ·have ht := fun Bs W => impl_sorted.tiny_calls A l0.length c Bs h2 W
   have HT := Aside0.mk ht
   have hs1 := impl_sorted.sort_one l0 h2
   rw [hs1]
   clear h2 ht hs1
   go_enter Tryd.func71, Tryd.ntmps71
   go_wp2_with (first | ((with_reducible refine gd 1 rfl ?_); refine bx 1 23 (#[.slice A l0.length c]) ?_; intro b1 hg w1 hbox hb; refine Ya3 hbox (below_step (be HB.out) hb) (bs hg (be HB.out)) ?_; clear HB; intro B1 HB G1; clear hb hbox hg; have ⟨hcz1, hfz1⟩ := Yc1 B1.out) | ((with_reducible refine gd 2 rfl ?_); refine bx 2 25 (#[.slice none 0 0]) ?_; intro b2 hg w2 hbox hb; refine Ya4 hbox (below_step (be HB.out) hb) (bs hg (be HB.out)) (bb B1 hb) ?_; clear HB B1; intro B2 HB G2 B1; clear hb hbox hg hcz1 hfz1; have ⟨hcz1, hfz1⟩ := Yc1 B1.out; have ⟨hcz2, hfz2⟩ := Yc1 B2.out) | (go_at_call 140; (with_reducible refine (HT.out _ _).mono ?_); rintro e w' ⟨rfl, os, rfl⟩; have hb3 := impl_sorted.grow_below w2 os; refine Ya3 (bb B2 hb3) (below_step (be HB.out) hb3) (bb B1 hb3) ?_; clear HB B1 B2 hcz1 hfz1 hcz2 hfz2 hb3; intro B2 HB B1; generalize Sort.grow w2 os = w3 at B1 B2 HB ⊢; have ⟨hcz1, hfz1⟩ := Yc1 B1.out; have ⟨hcz2, hfz2⟩ := Yc1 B2.out))
   refine bodyPost_ret (results_cell_row rfl _ _ b2 25 #[.slice A l0.length c] (0, 0) _ rfl (by refine blk_put (cs := #[.slice none 0 0]) ?_ 0 _ rfl; exact B2.out) Tryd.underlying25 rfl (by kernel_rfl)) rfl ?_
   have hb : Below w.heap.size w (w3.setCell ⟨b2, 0, none⟩ (.slice A l0.length c)) := be1 HB.out G2.out
   exact ⟨_, rfl, Kd.R_mono (Kd.R_below HO.out hb) (fun k_ hk => .inl hk), below_then HB0.out HB0.out.size hb, hb.size, fun i hi _ => hb.block i hi⟩
  ·obtain ⟨g, cap, hv, hbase, hlt, cells, hcell⟩ := Kd.R_form HO.out (by omega)
   injection hv with hA _ hcap
   subst hA
   subst hcap
   have HG := Aside0.mk (show w0.heap.size ≤ g ∧ g < w.heap.size ∧ w.heap[g]? = some (.cells cells 27 (0, 0)) from ⟨hbase, hlt, hcell⟩)
   have H2 := Aside0.mk (show 2 ≤ l0.toArray.size from by simp; omega)
   clear h2 hbase hlt hcell
   go_enter Tryd.func71, Tryd.ntmps71
   go_wp2_with (first | ((with_reducible refine gd 1 rfl ?_); refine bx 1 23 (#[.slice (some ⟨g, 0, none⟩) l0.length c]) ?_; intro b1 hg w1 hbox hb; refine Ya3 hbox (below_step (be HB.out) hb) (bs hg (be HB.out)) ?_; clear HB; intro B1 HB G1; clear hb hbox hg; have ⟨hcz1, hfz1⟩ := Yc1 B1.out) | ((with_reducible refine gd 2 rfl ?_); refine bx 2 25 (#[.slice none 0 0]) ?_; intro b2 hg w2 hbox hb; refine Ya4 hbox (below_step (be HB.out) hb) (bs hg (be HB.out)) (bb B1 hb) ?_; clear HB B1; intro B2 HB G2 B1; clear hb hbox hg hcz1 hfz1; have ⟨hcz1, hfz1⟩ := Yc1 B1.out; have ⟨hcz2, hfz2⟩ := Yc1 B2.out) | (go_at_call 140; have HS := impl_sorted.sort_calls g c b1 l0.toArray H2.out (by simpa using HC.out.1) w2 (impl_sorted.holds (impl_sorted.opened (Kd.R_below HO.out HB.out))) (Nat.lt_of_lt_of_le HG.out.2.1 HB.out.size) (by simpa using hcz1) (blk_lt B1.out) (by have := HG.out.2.1; have := G1.out; omega); rw [List.size_toArray] at HS; (with_reducible refine HS.mono ?_); rintro e w' ⟨rfl, d', nd, os, hp, hs, rfl⟩; obtain rfl := impl_sorted.sorted_of HC.out.2 (by simpa using hp) (by simpa using hs); clear HS hp hs; have hl2 : (sortE l0).length = l0.length := (sortE_perm l0).length_eq; have ⟨hrow, hgrow⟩ := impl_sorted.row_of (w := w2) (Kd.R_below HO.out HB.out) (n := nd) (os := os) (d := sortE l0) hl2; generalize Sort.grow (Sort.putRowK impl_sorted.enc 3 (Sort.ahead w2 nd) g 0 (sortE l0).toArray) os = w3 at hrow hgrow ⊢; have hn1 : some b1 ≠ some g := (by have := HG.out.2.1; have := G1.out; intro e; injection e; omega); have hn2 : some b2 ≠ some g := (by have := HG.out.2.1; have := G2.out; intro e; injection e; omega); have hcz1' := Yc1 (blk_grown B1.out hgrow hn1); have B2' := Aside0.mk (blk_grown B2.out hgrow hn2); have HN2 := Aside0.mk hn2; have HR := Aside0.mk hrow; have HW := Aside0.mk hgrow; clear hcz1 hfz1 hcz2 hfz2 hrow hgrow hn1 hn2; have ⟨hcz1, hfz1⟩ := hcz1'; clear hcz1'; have ⟨hcz2, hfz2⟩ := Yc1 B2'.out))
   refine bodyPost_ret (results_cell_row rfl _ _ b2 25 #[.slice (some ⟨g, 0, none⟩) l0.length c] (0, 0) _ rfl (by refine blk_put (cs := #[.slice none 0 0]) ?_ 0 _ rfl; exact B2'.out) Tryd.underlying25 rfl (by kernel_rfl)) rfl ?_
   have hset := impl_sorted.grown_cell w3 b2 (.slice (some ⟨g, 0, none⟩) l0.length c)
   have h2w : w.heap.size ≤ b2 := G2.out
   have h3w : w2.heap.size ≤ w3.heap.size := HW.out.size
   have hbw := below_then HB0.out HB0.out.size HB.out
   have hszB : w0.heap.size ≤ w2.heap.size := hbw.size
   have hgB := HG.out.1
   have h0w := HB0.out.size
   refine ⟨_, rfl, Kd.R_mono (Kd.R_grown1 HR.out rfl hset (fun e => HN2.out e)) (fun k_ hk => .inl hk), pw_below_grown (pw_below_grown hbw (some g) hszB HW.out (fun k hk => ?_)) (some b2) (by omega) hset (fun k hk => ?_), ?_, fun i hi hP => ?_⟩
   ·injection hk with hk; omega
   ·injection hk with hk; omega
   ·have := HB.out.size; have := hset.size; omega
   ·have hig : i ≠ g := (by rintro rfl; exact hP (HO.out.1 _ rfl))
    have hw := HB.out.size
    rw [hset.block i (by omega) (by intro e; injection e; omega), HW.out.block i (by omega) (by intro e; injection e; omega), HB.out.block i hi]
 ·cases h


end Go.Proofs.YtknagppkeodggaaDoor.P


namespace Go.Proofs.YtknagppkeodggaaDoor.P
open Go.RowKit Go.Proofs.YtknagppkeodggaaDoorW.PrintWords Go.Proofs.YtknagppkeodggaaDoorW.PrintLast Go.Proofs.YtknagppkeodggaaDoorW.PrintMore
attribute [local go_sem] max2_int min2_int max_two min_two max_three min_three max_four min_four
set_option linter.unusedVariables false
set_option linter.unusedSimpArgs false

/-! ### impl_Put: function 14 -/
mutual
def impl_Put.l0 : Nat → List (S27) → List (S27) → Int → Int → ByteArray → ByteArray → Bool → Option ((List (S27)) × Int)
 | 0, _, _, _, _, _, _, _ => none
 | k + 1, x6, x20, x21, x22, an, aC, aD => if x22 < x21 then (if 0 ≤ x22 then (if x22 < (x20.length : Int) then ((impl_over.f ((rd_T27 x20 x22).f0) an).bind fun aT => (if aT = true then (impl_Put.j1 k x6 x20 x21 x22 true an aC aD ((rd_T27 x20 x22).f0) ((rd_T27 x20 x22).f1) ((rd_T27 x20 x22).f2)) else ((impl_over.f an ((rd_T27 x20 x22).f0)).bind fun aj => (impl_Put.j1 k x6 x20 x21 x22 aj an aC aD ((rd_T27 x20 x22).f0) ((rd_T27 x20 x22).f1) ((rd_T27 x20 x22).f2))))) else (none)) else (none)) else (if (x6.length : Int) > 100 then (some (([] : List (S27)), 4)) else ((impl_sorted.f x6).bind fun ax => (some (ax, 0))))
def impl_Put.j1 : Nat → List (S27) → List (S27) → Int → Int → Bool → ByteArray → ByteArray → Bool → ByteArray → ByteArray → Bool → Option ((List (S27)) × Int)
 | 0, _, _, _, _, _, _, _, _, _, _, _ => none
 | k + 1, x6, x20, x21, x22, x37, an, aC, aD, b4, bQ, bR => if x37 = true then (some (([] : List (S27)), 3)) else (if b4.toList = an.toList then (impl_Put.l0 k x6 x20 x21 (wrap64 (x22 + 1)) an aC aD) else (if x6.length < 3518437208883 then (impl_Put.l0 k (x6 ++ [(⟨b4, bQ, bR⟩ : S27)]) x20 x21 (wrap64 (x22 + 1)) an aC aD) else (none)))
end
def impl_Put.f (k : Nat) (a4 : List (S27)) (a1_0 : ByteArray) (a1_1 : ByteArray) (a1_2 : Bool) : Option ((List (S27)) × Int) := (impl_ValidTree.f k a4).bind fun ay => (if ay = true then ((impl_goodEntry.f k a1_0 a1_1 a1_2).bind fun ai => (if ai = true then (impl_Put.l0 k (([(⟨a1_0, a1_1, a1_2⟩ : S27)] : List (S27))) a4 (a4.length : Int) 0 a1_0 a1_1 a1_2) else (some (([] : List (S27)), 2)))) else (some (([] : List (S27)), 1)))
theorem impl_Put.mono_l : ∀ k, (∀ y0 y1 y2 y3 y4 y5 y6, LeO (impl_Put.l0 k y0 y1 y2 y3 y4 y5 y6) (impl_Put.l0 (k + 1) y0 y1 y2 y3 y4 y5 y6)) ∧ (∀ y0 y1 y2 y3 y4 y5 y6 y7 y8 y9 y10, LeO (impl_Put.j1 k y0 y1 y2 y3 y4 y5 y6 y7 y8 y9 y10) (impl_Put.j1 (k + 1) y0 y1 y2 y3 y4 y5 y6 y7 y8 y9 y10))
 | 0 => ⟨fun _ _ _ _ _ _ _ r h => by simp [impl_Put.l0] at h, fun _ _ _ _ _ _ _ _ _ _ _ r h => by simp [impl_Put.j1] at h⟩
 | k + 1 => by
  obtain ⟨ih0, ih1⟩ := impl_Put.mono_l k; refine ⟨?_, ?_⟩
  ·intro y0 y1 y2 y3 y4 y5 y6
   unfold impl_Put.l0
   repeat' first
   | (with_reducible exact ih0 _ _ _ _ _ _ _)
   | (with_reducible exact ih1 _ _ _ _ _ _ _ _ _ _ _)
   | (with_reducible exact impl_ValidTree.mono _ _)
   | (with_reducible exact impl_goodEntry.mono _ _ _ _)
   | (with_reducible exact LeO.refl _)
   | (with_reducible exact LeO.none _)
   | (with_reducible refine LeO.ite ?_ ?_)
   | (with_reducible refine LeO.bind ?_ (fun _ => ?_))
   | exact ih0 _ _ _ _ _ _ _
   | exact ih1 _ _ _ _ _ _ _ _ _ _ _
   | exact impl_ValidTree.mono _ _
   | exact impl_goodEntry.mono _ _ _ _
   | exact LeO.none _
   | refine LeO.ite ?_ ?_
   | refine LeO.bind ?_ (fun _ => ?_)
  ·intro y0 y1 y2 y3 y4 y5 y6 y7 y8 y9 y10
   unfold impl_Put.j1
   repeat' first
   | (with_reducible exact ih0 _ _ _ _ _ _ _)
   | (with_reducible exact ih1 _ _ _ _ _ _ _ _ _ _ _)
   | (with_reducible exact impl_ValidTree.mono _ _)
   | (with_reducible exact impl_goodEntry.mono _ _ _ _)
   | (with_reducible exact LeO.refl _)
   | (with_reducible exact LeO.none _)
   | (with_reducible refine LeO.ite ?_ ?_)
   | (with_reducible refine LeO.bind ?_ (fun _ => ?_))
   | exact ih0 _ _ _ _ _ _ _
   | exact ih1 _ _ _ _ _ _ _ _ _ _ _
   | exact impl_ValidTree.mono _ _
   | exact impl_goodEntry.mono _ _ _ _
   | exact LeO.none _
   | refine LeO.ite ?_ ?_
   | refine LeO.bind ?_ (fun _ => ?_)
theorem impl_Put.mono : ∀ a0 a1 a2 a3 k, LeO (impl_Put.f k a0 a1 a2 a3) (impl_Put.f (k + 1) a0 a1 a2 a3) := by
 intro a0 a1 a2 a3 k; obtain ⟨ih0, ih1⟩ := impl_Put.mono_l k
 unfold impl_Put.f
 repeat' first
   | (with_reducible exact ih0 _ _ _ _ _ _ _)
   | (with_reducible exact ih1 _ _ _ _ _ _ _ _ _ _ _)
   | (with_reducible exact impl_ValidTree.mono _ _)
   | (with_reducible exact impl_goodEntry.mono _ _ _ _)
   | (with_reducible exact LeO.refl _)
   | (with_reducible exact LeO.none _)
   | (with_reducible refine LeO.ite ?_ ?_)
   | (with_reducible refine LeO.bind ?_ (fun _ => ?_))
   | exact ih0 _ _ _ _ _ _ _
   | exact ih1 _ _ _ _ _ _ _ _ _ _ _
   | exact impl_ValidTree.mono _ _
   | exact impl_goodEntry.mono _ _ _ _
   | exact LeO.none _
   | refine LeO.ite ?_ ?_
   | refine LeO.bind ?_ (fun _ => ?_)
set_option maxHeartbeats 8000000 in
set_option maxRecDepth 100000 in
theorem impl_Put.calls (k : Nat) (ak : Option Addr) (ag : Nat) (a4 : List (S27)) (a1_0 : ByteArray) (a1_1 : ByteArray) (a1_2 : Bool) (r1 : List (S27)) (r2 : Int) (w : World) (hg : GOK w) (b5 : Kd.C k27 w ak a4.length a4) (b6 : a4.length ≤ ag) (h : impl_Put.f k a4 a1_0 a1_1 a1_2 = some (r1, r2)) :
  Calls Tryd.prog 14 #[.agg #[.slice ak a4.length ag], .agg #[.string a1_0, .string a1_1, .bool a1_2]] w fun e w' => ∃ v0_ : Value, e = .returned (.tuple #[.agg #[v0_], .int .i64 r2]) ∧ Kd.R k27 27 w' w.heap.size (fun _ => True) v0_ r1 ∧ Below w.heap.size w w' := by
 have HG := Aside0.mk hg; clear hg; have hu25 := Tryd.underlying25; have hu27 := Tryd.underlying27; have aU := Aside0.mk b5; have b0 := Aside0.mk b6; clear b5 b6; have HB := Aside0.mk (Below.refl w.heap.size w); have H : ((impl_ValidTree.f k a4).bind fun ay => (if ay = true then ((impl_goodEntry.f k a1_0 a1_1 a1_2).bind fun ai => (if ai = true then (impl_Put.l0 k (([(⟨a1_0, a1_1, a1_2⟩ : S27)] : List (S27))) a4 (a4.length : Int) 0 a1_0 a1_1 a1_2) else (some (([] : List (S27)), 2)))) else (some (([] : List (S27)), 1)))) = some (r1, r2) := h; clear h; replace H := Option.bind_eq_some_iff.mp H; obtain ⟨ay, aE, H⟩ := H; replace H : (if ay = true then ((impl_goodEntry.f k a1_0 a1_1 a1_2).bind fun ai => (if ai = true then (impl_Put.l0 k (([(⟨a1_0, a1_1, a1_2⟩ : S27)] : List (S27))) a4 (a4.length : Int) 0 a1_0 a1_1 a1_2) else (some (([] : List (S27)), 2)))) else (some (([] : List (S27)), 1))) = some (r1, r2) := H; have A3 := Aside0.mk aE; clear aE
 by_cases c4 : ay = true
 ·subst c4
  have H1 : ((impl_goodEntry.f k a1_0 a1_1 a1_2).bind fun ai => (if ai = true then (impl_Put.l0 k (([(⟨a1_0, a1_1, a1_2⟩ : S27)] : List (S27))) a4 (a4.length : Int) 0 a1_0 a1_1 a1_2) else (some (([] : List (S27)), 2)))) = some (r1, r2) := by rw [if_pos rfl] at H; exact H
  clear H; have H := H1; clear H1; replace H := Option.bind_eq_some_iff.mp H; obtain ⟨ai, A50, H⟩ := H; replace H : (if ai = true then (impl_Put.l0 k (([(⟨a1_0, a1_1, a1_2⟩ : S27)] : List (S27))) a4 (a4.length : Int) 0 a1_0 a1_1 a1_2) else (some (([] : List (S27)), 2))) = some (r1, r2) := H; have A5 := Aside0.mk A50; clear A50
  by_cases c6 : ai = true
  ·subst c6
   have H1 : (impl_Put.l0 k (([(⟨a1_0, a1_1, a1_2⟩ : S27)] : List (S27))) a4 (a4.length : Int) 0 a1_0 a1_1 a1_2) = some (r1, r2) := by rw [if_pos rfl] at H; exact H
   clear H; have H := H1; clear H1
   obtain ⟨b7, aG⟩ : ∃ y_ : List (S27), y_ = (([(⟨a1_0, a1_1, a1_2⟩ : S27)] : List (S27))) := ⟨_, rfl⟩
   replace H : (impl_Put.l0 k b7 a4 (a4.length : Int) 0 a1_0 a1_1 a1_2) = some (r1, r2) := by first | (rw [aG]; with_reducible exact H) | (have H2_ := (Option.bind_some _ _).symm.trans H; rw [aG]; with_reducible exact H2_) | (have H2_ := (Option.bind_some _ _).symm.trans H; with_reducible exact H2_) | with_reducible exact H | (rw [aG]; exact H) | exact H
   have b8 := Aside0.mk aG; clear aG; have H' := Aside0.mk H; clear H
   go_enter Tryd.func14, Tryd.ntmps14
   go_wp2_with (first | ((with_reducible refine gd 2 rfl ?_); refine bx 2 25 (#[.slice ak a4.length ag]) ?_; intro aH hg w7 hbox hb; refine Ya4 (below_step (be HB.out) hb) (hbox) (bs hg (be HB.out)) (bs hg (be HB.out)) ?_; clear HB; intro HB a6 b9 ba; clear hb hbox hg) | ((with_reducible refine gd 3 rfl ?_); refine bx 3 27 (#[.string a1_0, .string a1_1, .bool a1_2]) ?_; intro ac hg w8 hbox hb; refine Ya7 (bb a6 hb) (below_step (bf HB.out) hb) (hbox) (bs hg (bf HB.out)) (bs hg (bf HB.out)) (bl hg a6) (br hg a6) ?_; clear a6 HB; intro a6 HB a7 bd bg al am; clear hb hbox hg) | ((with_reducible refine gd 4 rfl ?_); refine bx 4 25 (#[.slice none 0 0]) ?_; intro ah hg w9 hbox hb; refine Ya10 (bb a6 hb) (bb a7 hb) (below_step (bf HB.out) hb) (hbox) (bs hg (bf HB.out)) (bs hg (bf HB.out)) (bl hg a6) (br hg a6) (bl hg a7) (br hg a7) ?_; clear a6 a7 HB; intro a6 a7 HB a8 bh bi ao ap ad ae; clear hb hbox hg; have hnb10 := al.out; have hnc10 := am.out; have hnb11 := ao.out; have hnc11 := ap.out; have ⟨bj, bm⟩ := Yc1 a6.out) | ((with_reducible refine gc 18 rfl ?_); refine gl (some 10) _ (#[.agg #[.slice ak a4.length ag]]) Tryd.func18 ?_; (with_reducible refine (impl_ValidTree.calls k _ _ a4 true _ ?sideG ?side1 ?side2 A3.out).mono ?_); (case sideG => exact gf HG.out HB.out); (case side1 => exact cb (Kd.C_below aU.out HB.out)); (case side2 => exact b0.out); rintro e w13 ⟨rfl, hb⟩; refine ⟨_, rfl, ?_⟩; refine Ya4 (bb a6 hb) (bb a7 hb) (bb a8 hb) (below_step (bf HB.out) hb) ?_; clear a6 a7 a8 HB; intro a6 a7 a8 HB; (try clear hb); (try clear hb2); (try clear hk); (try clear hi); have hnb14 := ad.out; have hnc14 := ae.out; have ⟨bn, bo, bq, bu, bv, bw⟩ := Yc3 a7.out) | ((with_reducible refine gc 69 rfl ?_); refine gl (some 14) _ (#[.agg #[.string a1_0, .string a1_1, .bool a1_2]]) Tryd.func69 ?_; (with_reducible refine (impl_goodEntry.calls k a1_0 a1_1 a1_2 true _ ?sideG A5.out).mono ?_); (case sideG => exact gf HG.out HB.out); rintro e w16 ⟨rfl, hb⟩; refine ⟨_, rfl, ?_⟩; refine Ya4 (bb a6 hb) (bb a7 hb) (bb a8 hb) (below_step (bf HB.out) hb) ?_; clear a6 a7 a8 HB; intro a6 a7 a8 HB; (try clear hb); (try clear hb2); (try clear hk); (try clear hi); have ⟨bz, bA, bB, bC, bD, bE⟩ := Yc3 a7.out) | ((with_reducible refine gd 18 rfl ?_); refine Kd.R_lit k27 _ 27 ?hg (N := 18) ?hd (xs := ([(⟨a1_0, a1_1, a1_2⟩ : S27)] : List (S27))) (inner := [.string a1_0, .string a1_1, .bool a1_2]) (ok := fun _ => True) (okp := fun _ => True) ?hr ?hp (fun _ hk => hk) trivial (Below.refl _ _) (Nat.le_refl _) (by simp) ?_; (case hd => rfl); (case hg => rfl); (case hr => first | (go_simp; done) | (go_simp; rfl)); (case hp => exact (Reps.c3 (show Kd.M k27 _ _ _ (⟨a1_0, a1_1, a1_2⟩ : S27) [.string a1_0, .string a1_1, .bool a1_2] from (k27_mkM _ _ _ (⟨a1_0, a1_1, a1_2⟩ : S27) )) (Reps.none _ _))); intro v354 w18 ho19 hb hg_ hnew_; clear hg_ hnew_; (first | rw [← b8.out] at ho19 | (simp only [Int.reduceToNat] at ho19; rw [← b8.out] at ho19)); refine Ya5 (Kd.R_lower (Kd.R_newB ho19 (g := ac) (o := .cells #[.string a1_0, .string a1_1, .bool a1_2] 27 (0, 0)) (bk a7.out)) (below_size (bf HB.out))) (bb a6 hb) (bb a7 hb) (bb a8 hb) (below_step (bf HB.out) hb) ?_; clear a6 a7 a8 HB; intro bS a6 a7 a8 HB; clear hb ho19; have ⟨bF, bG⟩ := Yc1 a6.out))
   go_loopg [6, 22] k (fun kq v6 v22 w' => ∃ (a9 : List (S27)) (a5 : Int), v22 = .int .i64 a5 ∧ Aside0 (impl_Put.l0 kq a9 a4 (a4.length : Int) a5 a1_0 a1_1 a1_2 = some (r1, r2)) ∧ Aside0 (kq ≤ k) ∧ Aside0 (Kd.R k27 27 w' w.heap.size (fun k_ => k_ ≠ ac) v6 a9) ∧ Aside0 (w'.heap[aH]? = some (.cells #[(.slice ak a4.length ag)] 25 (0, 0))) ∧ Aside0 (w'.heap[ac]? = some (.cells #[.string a1_0, .string a1_1, .bool a1_2] 27 (0, 0))) ∧ Aside0 (w'.heap[ah]? = some (.cells #[(.slice none 0 0)] 25 (0, 0))) ∧ Aside0 (Below w.heap.size w w'))
   case atStart => exact ⟨(b7), (0), Ye1, H', ⟨Nat.le_refl _⟩, ⟨by (with_reducible repeat (first | apply Kd.R_alloc | apply Kd.R_drewN | apply Kd.R_drew)); exact Kd.R_mono bS.out (fun _ hk => hk.2)⟩, ⟨bk a6.out⟩, ⟨bk a7.out⟩, ⟨bk a8.out⟩, ⟨bf HB.out⟩⟩
   case round =>
    clear H'; (try clear c1); (try clear p2); (try clear c3); (try clear c4); (try clear c6); (try clear c10); (try clear c11); (try clear c14); (try clear c18); (try clear bj); (try clear bn); (try clear bo); (try clear bq); (try clear bz); (try clear bA); (try clear bB); (try clear bF); (try clear bm); (try clear bu); (try clear bv); (try clear bw); (try clear bC); (try clear bD); (try clear bE); (try clear bG); obtain ⟨a9, a5, rfl, HA, HK1, aa, a6, a7, a8, HB⟩ := hrel
    cases gk with
    | zero => exact absurd HA.out (by simp [impl_Put.l0])
    | succ k1 =>
     have H := HA.out; clear HA; simp only [impl_Put.l0] at H
     by_cases ar : a5 < (a4.length : Int)
     ·rw [if_pos ar] at H
      have bH : decide (a5 < (a4.length : Int)) = true := decide_eq_true ar; clear ar
      by_cases aI : 0 ≤ a5
      ·rw [if_pos aI] at H
       have bT : decide (0 ≤ a5) = true := decide_eq_true aI; clear aI
       by_cases aJ : a5 < (a4.length : Int)
       ·rw [if_pos aJ] at H
        have bU : decide (a5 < (a4.length : Int)) = true := decide_eq_true aJ; clear aJ; have b1 := Aside0.mk H; clear H; have aV : 0 ≤ (a5 : Int) := oda; have aW : a5 < (a4.length : Int) := oda; obtain ⟨bI, bV, bW, bX, bY⟩ := at_T27 (Kd.C_below aU.out HB.out) a5 aV aW
        cases bV
        replace aV := eq_true aV; replace aW := eq_true aW
        go_upto_region 9 with (first | ((with_reducible refine gd 8 rfl ?_); refine bx 8 27 (#[.string (⟨#[]⟩ : ByteArray), .string (⟨#[]⟩ : ByteArray), .bool false]) ?_; intro ab hg w25 hbox hb; refine Ya14 (Kd.R_below (Kd.R_elderB (kr aa.out) ab (Nat.le_of_eq hg.symm)) hb) (bb a6 hb) (bb a7 hb) (bb a8 hb) (below_step (bf HB.out) hb) (hbox) (bs hg (bf HB.out)) (bs hg (bf HB.out)) (bl hg a6) (br hg a6) (bl hg a7) (br hg a7) (bl hg a8) (br hg a8) ?_; clear aa a6 a7 a8 HB; intro aa a6 a7 a8 HB af GW360 GE360 au aK av aM aq az; clear hb hbox hg; have hnb26 := aK.out; have hnc26 := au.out; have hnb27 := aM.out; have hnc27 := av.out; have hnb28 := az.out; have hnc28 := aq.out; have ⟨bZ, c0, ca, cc, cd, ce⟩ := Yc3 af.out))
        (try simp only [Act.put, List.setIfInBounds_toArray, List.set_cons_zero, List.set_cons_succ])
        go_cut [37] (fun v37 wc => ∃ (kq : Nat) (aX : Bool), v37 = .bool aX ∧ Aside0 (impl_Put.j1 kq a9 a4 (a4.length : Int) a5 aX a1_0 a1_1 a1_2 ((rd_T27 a4 a5).f0) ((rd_T27 a4 a5).f1) ((rd_T27 a4 a5).f2) = some (r1, r2)) ∧ Aside0 (kq ≤ k1) ∧ Aside0 (Kd.R k27 27 wc w.heap.size (fun k_ => k_ ≠ ac ∧ k_ ≠ ab) u6 a9) ∧ Aside0 (wc.heap[aH]? = some (.cells #[(.slice (some bI) a4.length ag)] 25 (0, 0))) ∧ Aside0 (wc.heap[ac]? = some (.cells #[.string a1_0, .string a1_1, .bool a1_2] 27 (0, 0))) ∧ Aside0 (wc.heap[ah]? = some (.cells #[(.slice none 0 0)] 25 (0, 0))) ∧ Aside0 (wc.heap[ab]? = some (.cells #[.string ((rd_T27 a4 a5).f0), .string ((rd_T27 a4 a5).f1), .bool ((rd_T27 a4 a5).f2)] 27 (0, 0))) ∧ Aside0 (Below w.heap.size w wc))
        case first =>
         have H := b1.out; clear b1; replace H := Option.bind_eq_some_iff.mp H; obtain ⟨aT, bJ, H⟩ := H; replace H : (if aT = true then (impl_Put.j1 k1 a9 a4 (a4.length : Int) a5 true a1_0 a1_1 a1_2 ((rd_T27 a4 a5).f0) ((rd_T27 a4 a5).f1) ((rd_T27 a4 a5).f2)) else ((impl_over.f a1_0 ((rd_T27 a4 a5).f0)).bind fun aj => (impl_Put.j1 k1 a9 a4 (a4.length : Int) a5 aj a1_0 a1_1 a1_2 ((rd_T27 a4 a5).f0) ((rd_T27 a4 a5).f1) ((rd_T27 a4 a5).f2)))) = some (r1, r2) := H; have aE := Aside0.mk bJ; clear bJ
         by_cases aN : aT = true
         ·subst aN
          have H1 : (impl_Put.j1 k1 a9 a4 (a4.length : Int) a5 true a1_0 a1_1 a1_2 ((rd_T27 a4 a5).f0) ((rd_T27 a4 a5).f1) ((rd_T27 a4 a5).f2)) = some (r1, r2) := by rw [if_pos rfl] at H; exact H
          clear H; have H := H1; clear H1; have H' := Aside0.mk H; clear H; have hnb32 := aK.out; have hnc32 := au.out; have hnb33 := aM.out; have hnc33 := av.out; have hnb34 := az.out; have hnc34 := aq.out; have ⟨cf, cg, ch, ci, cj, ck⟩ := Yc3 af.out; have hnb36 := am.out; have hnc36 := al.out; have hnb37 := ad.out; have hnc37 := ae.out; have ⟨cl, cm, cn, co, cp, cq⟩ := Yc3 a7.out
          go_wp2_with (first | ((with_reducible refine gc 70 rfl ?_); refine gl (some 30) _ (#[.string ((rd_T27 a4 a5).f0), .string a1_0]) Tryd.func70 ?_; (with_reducible refine (impl_over.calls ((rd_T27 a4 a5).f0) a1_0 true _ aE.out).mono ?_); rintro e w' ⟨rfl, ⟨nd, rfl⟩⟩; refine ⟨_, rfl, ?_⟩))
          go_meet
          case rel => exact ⟨_, (true), Ye1, H', ⟨by have := HK1.out; first | omega | exact Nat.le_refl _⟩, ⟨by (with_reducible repeat (first | apply Kd.R_alloc | apply Kd.R_drewN | apply Kd.R_drew)); exact Kd.R_mono (Kd.R_far (p := ⟨ab, 2, none⟩) (Kd.R_far (p := ⟨ab, 1, none⟩) (Kd.R_far (p := ⟨ab, 0, none⟩) (Kd.R_mono aa.out (fun k_ hk => (⟨hk, hk.2⟩ : _ ∧ k_ ≠ ab))) (fun _ hk => hk.2) (.string ((rd_T27 a4 a5).f0))) (fun _ hk => hk.2) (.string ((rd_T27 a4 a5).f1))) (fun _ hk => hk.2) (.bool ((rd_T27 a4 a5).f2))) (fun _ hk => ⟨hk.1.1, hk.1.2⟩)⟩, ⟨bkf a6.out au.out⟩, ⟨bkf a7.out av.out⟩, ⟨bkf a8.out aq.out⟩, ⟨bp af.out⟩, ⟨bf HB.out⟩⟩
         ·replace aN := Bool.eq_false_iff.mpr aN; subst aN
          have H1 : ((impl_over.f a1_0 ((rd_T27 a4 a5).f0)).bind fun aj => (impl_Put.j1 k1 a9 a4 (a4.length : Int) a5 aj a1_0 a1_1 a1_2 ((rd_T27 a4 a5).f0) ((rd_T27 a4 a5).f1) ((rd_T27 a4 a5).f2))) = some (r1, r2) := by rw [if_neg (show ¬ (false = true) by decide)] at H; exact H
          clear H; have H := H1; clear H1; replace H := Option.bind_eq_some_iff.mp H; obtain ⟨aj, bK, H⟩ := H; replace H : (impl_Put.j1 k1 a9 a4 (a4.length : Int) a5 aj a1_0 a1_1 a1_2 ((rd_T27 a4 a5).f0) ((rd_T27 a4 a5).f1) ((rd_T27 a4 a5).f2)) = some (r1, r2) := H; have A39 := Aside0.mk bK; clear bK; have H' := Aside0.mk H; clear H; have hnb40 := aK.out; have hnc40 := au.out; have hnb41 := aM.out; have hnc41 := av.out; have hnb42 := az.out; have hnc42 := aq.out; have ⟨cr, cs, ct, cu, cv, cw⟩ := Yc3 af.out; have hnb44 := am.out; have hnc44 := al.out; have hnb45 := ad.out; have hnc45 := ae.out; have ⟨cx, cy, cz, cA, cB, cC⟩ := Yc3 a7.out
          go_wp2_with (first | ((with_reducible refine gc 70 rfl ?_); refine gl (some 30) _ (#[.string ((rd_T27 a4 a5).f0), .string a1_0]) Tryd.func70 ?_; (with_reducible refine (impl_over.calls ((rd_T27 a4 a5).f0) a1_0 false _ aE.out).mono ?_); rintro e w' ⟨rfl, ⟨nd, rfl⟩⟩; refine ⟨_, rfl, ?_⟩) | (go_at_call 70; (with_reducible refine (impl_over.calls a1_0 ((rd_T27 a4 a5).f0) aj _ A39.out).mono ?_); rintro e w' ⟨rfl, ⟨nd, rfl⟩⟩))
          go_meet
          case rel => exact ⟨_, (aj), Ye1, H', ⟨by have := HK1.out; first | omega | exact Nat.le_refl _⟩, ⟨by (with_reducible repeat (first | apply Kd.R_alloc | apply Kd.R_drewN | apply Kd.R_drew)); exact Kd.R_mono (Kd.R_far (p := ⟨ab, 2, none⟩) (Kd.R_far (p := ⟨ab, 1, none⟩) (Kd.R_far (p := ⟨ab, 0, none⟩) (Kd.R_mono aa.out (fun k_ hk => (⟨hk, hk.2⟩ : _ ∧ k_ ≠ ab))) (fun _ hk => hk.2) (.string ((rd_T27 a4 a5).f0))) (fun _ hk => hk.2) (.string ((rd_T27 a4 a5).f1))) (fun _ hk => hk.2) (.bool ((rd_T27 a4 a5).f2))) (fun _ hk => ⟨hk.1.1, hk.1.2⟩)⟩, ⟨bkf a6.out au.out⟩, ⟨bkf a7.out av.out⟩, ⟨bkf a8.out aq.out⟩, ⟨bp af.out⟩, ⟨bf HB.out⟩⟩
        case rest =>
         clear b1; (try clear c1); (try clear c2); (try clear p2); (try clear c3); (try clear p3); (try clear q3); (try clear hx3); (try clear c4); (try clear c6); (try clear c7); (try clear c10); (try clear c11); (try clear c14); (try clear c18); (try clear ar); (try clear bH); (try clear aI); (try clear bT); (try clear aJ); (try clear bU); (try clear c26); (try clear c27); (try clear c28); (try clear aN); (try clear c32); (try clear c33); (try clear c34); (try clear p35); (try clear q35); (try clear hx35); (try clear c36); (try clear c37); (try clear c40); (try clear c41); (try clear c42); (try clear c44); (try clear c45); (try clear bj); (try clear bn); (try clear bo); (try clear bq); (try clear bz); (try clear bA); (try clear bB); (try clear bF); (try clear bZ); (try clear c0); (try clear ca); (try clear cf); (try clear cg); (try clear ch); (try clear cl); (try clear cm); (try clear cn); (try clear cr); (try clear cs); (try clear ct); (try clear cx); (try clear cy); (try clear cz); (try clear bm); (try clear bu); (try clear bv); (try clear bw); (try clear bC); (try clear bD); (try clear bE); (try clear bG); (try clear cc); (try clear cd); (try clear ce); (try clear ci); (try clear cj); (try clear ck); (try clear co); (try clear cp); (try clear cq); (try clear cu); (try clear cv); (try clear cw); (try clear cA); (try clear cB); (try clear cC); (try clear bW); (try clear bX); (try clear bY); (try clear p2); (try clear aV); (try clear aW); obtain ⟨kq, aX, rfl, HA, HJ23, aa, a6, a7, a8, af, HB⟩ := hcut
         cases kq with
         | zero => exact absurd HA.out (by simp [impl_Put.j1])
         | succ aQ =>
          have H := HA.out; clear HA; simp only [impl_Put.j1] at H
          by_cases aY : aX = true
          ·subst aY
           have H1 : (some (([] : List (S27)), 3)) = some (r1, r2) := by rw [if_pos rfl] at H; exact H
           clear H; have H := H1; clear H1; simp only [Option.some.injEq, Prod.mk.injEq] at H; obtain ⟨rfl, rfl⟩ := H; have hnb48 := ap.out; have hnc48 := ao.out; have hnb49 := ae.out; have hnc49 := ad.out; have hnb50 := aq.out; have hnc50 := az.out; have ⟨cN, cO⟩ := Yc1 a8.out
           go_wp2
           refine bodyPost_ret (results_ct rfl _ _ ah 25 #[.slice none 0 0] (0, 0) _ rfl (bp a8.out) Tryd.underlying25 rfl (by kernel_rfl)) rfl ?_; exact ⟨_, Ye2, nl, (bf HB.out)⟩
          ·replace aY := Bool.eq_false_iff.mpr aY; subst aY
           have H1 : (if ((rd_T27 a4 a5).f0).toList = a1_0.toList then (impl_Put.l0 aQ a9 a4 (a4.length : Int) (wrap64 (a5 + 1)) a1_0 a1_1 a1_2) else (if a9.length < 3518437208883 then (impl_Put.l0 aQ (a9 ++ [(⟨((rd_T27 a4 a5).f0), ((rd_T27 a4 a5).f1), ((rd_T27 a4 a5).f2)⟩ : S27)]) a4 (a4.length : Int) (wrap64 (a5 + 1)) a1_0 a1_1 a1_2) else (none))) = some (r1, r2) := by rw [if_neg (show ¬ (false = true) by decide)] at H; exact H
           clear H; have H := H1; clear H1
           by_cases aw : ((rd_T27 a4 a5).f0).toList = a1_0.toList
           ·rw [if_pos aw] at H
            have cD : (((rd_T27 a4 a5).f0).toList == a1_0.toList) = true := beq_iff_eq.mpr aw; have cE : (((rd_T27 a4 a5).f0).toList != a1_0.toList) = false := bne_eq_false_iff_eq.mpr aw; clear aw; have H' := Aside0.mk H; clear H; have hnb53 := aK.out; have hnc53 := au.out; have hnb54 := aM.out; have hnc54 := av.out; have hnb55 := az.out; have hnc55 := aq.out; have ⟨cP, cQ, cR, cS, cT, cU⟩ := Yc3 af.out; have hnb57 := am.out; have hnc57 := al.out; have hnb58 := ad.out; have hnc58 := ae.out; have ⟨cV, cW, cX, cY, cZ, d0⟩ := Yc3 a7.out
            go_wp2
            go_roundg aQ
            case measure => have := HK1.out; have := HJ23.out; omega
            case rel => exact ⟨(a9), (wrap64 (a5 + 1)), Ye1, H', ⟨by have := HK1.out; have := HJ23.out; omega⟩, ⟨by (with_reducible repeat (first | apply Kd.R_alloc | apply Kd.R_drewN | apply Kd.R_drew)); exact Kd.R_mono aa.out (fun _ hk => hk.1)⟩, ⟨bk a6.out⟩, ⟨bk a7.out⟩, ⟨bk a8.out⟩, ⟨bf HB.out⟩⟩
           ·rw [if_neg aw] at H
            have cD : (((rd_T27 a4 a5).f0).toList == a1_0.toList) = false := beq_eq_false_iff_ne.mpr aw; have cE : (((rd_T27 a4 a5).f0).toList != a1_0.toList) = true := bne_iff_ne.mpr aw
            by_cases aZ : a9.length < 3518437208883
            ·rw [if_pos aZ] at H
             have cF := Aside0.mk aZ; clear aZ
             obtain ⟨bL, aR⟩ : ∃ y_ : List (S27), y_ = (a9 ++ [(⟨((rd_T27 a4 a5).f0), ((rd_T27 a4 a5).f1), ((rd_T27 a4 a5).f2)⟩ : S27)]) := ⟨_, rfl⟩
             replace H : (impl_Put.l0 aQ bL a4 (a4.length : Int) (wrap64 (a5 + 1)) a1_0 a1_1 a1_2) = some (r1, r2) := by first | (rw [aR]; with_reducible exact H) | (have H2_ := (Option.bind_some _ _).symm.trans H; rw [aR]; with_reducible exact H2_) | (have H2_ := (Option.bind_some _ _).symm.trans H; with_reducible exact H2_) | with_reducible exact H | (rw [aR]; exact H) | exact H
             have cG := Aside0.mk aR; clear aR; have H' := Aside0.mk H; clear H; have hnb61 := aK.out; have hnc61 := au.out; have hnb62 := aM.out; have hnc62 := av.out; have hnb63 := az.out; have hnc63 := aq.out; have ⟨d1, d2, d3, d4, d5, d6⟩ := Yc3 af.out; have hnb65 := am.out; have hnc65 := al.out; have hnb66 := ad.out; have hnc66 := ae.out; have ⟨d7, d8, d9, da, db, dc⟩ := Yc3 a7.out
             go_wp2_with (first | ((with_reducible refine gate_builtin (b := .append) (xs := #[.tmp 44, .tmp 46]) rfl ?_); at_builtin; refine Kd.R_append k27 (w0 := w) w.heap.size rfl (.tmp 44) (.tmp 46) 23 27 (.agg #[(.string ⟨#[]⟩), (.string ⟨#[]⟩), (.bool false)]) 40 rfl Tryd.underlying23 info27 rfl (by decide) (by omega) u6 a9 (⟨((rd_T27 a4 a5).f0), ((rd_T27 a4 a5).f1), ((rd_T27 a4 a5).f2)⟩ : S27) [.string ((rd_T27 a4 a5).f0), .string ((rd_T27 a4 a5).f1), .bool ((rd_T27 a4 a5).f2)] (fun k_ => k_ ≠ ac ∧ k_ ≠ ab) (fun _ => False) rfl rfl ?aP (fun _ hk => hk.elim) ?aF ?aO ?aB ?aS ?aL ?_; (case aP => exact k27_mkM _ _ _ (⟨((rd_T27 a4 a5).f0), ((rd_T27 a4 a5).f1), ((rd_T27 a4 a5).f2)⟩ : S27)); (case aB => exact (bf HB.out)); (case aF => exact (fun k_ hk => ⟨Kd.freshB (g := ac) (o := .cells #[.string a1_0, .string a1_1, .bool a1_2] 27 (0, 0)) (bk a7.out) k_ hk, Kd.freshB (g := ab) (o := .cells #[.string ((rd_T27 a4 a5).f0), .string ((rd_T27 a4 a5).f1), .bool ((rd_T27 a4 a5).f2)] 27 (0, 0)) (bk af.out) k_ hk⟩)); (case aO => exact (kr aa.out)); (case aS => exact (below_size (bf HB.out))); (case aL => have := cF.out; omega); intro v364 w68 ho hb hg hat; rw [← cG.out] at ho; refine Ya6 (blk_grown (g := aH) (o := .cells #[.slice (some bI) a4.length ag] 25 (0, 0)) (bk a6.out) hg (Kd.R_ne aa.out a6.out (by decide))) (blk_grown (g := ac) (o := .cells #[.string a1_0, .string a1_1, .bool a1_2] 27 (0, 0)) (bk a7.out) hg (Kd.R_away aa.out (fun _ hk => hk.1))) (blk_grown (g := ah) (o := .cells #[.slice none 0 0] 25 (0, 0)) (bk a8.out) hg (Kd.R_ne aa.out a8.out (by decide))) (blk_grown (g := ab) (o := .cells #[.string ((rd_T27 a4 a5).f0), .string ((rd_T27 a4 a5).f1), .bool ((rd_T27 a4 a5).f2)] 27 (0, 0)) (bk af.out) hg (Kd.R_away aa.out (fun _ hk => hk.2))) (hb) (ho) ?_; clear a6 a7 a8 af HB aa; intro a6 a7 a8 af HB cH; clear ho hb hg hat))
             go_roundg aQ
             case measure => have := HK1.out; have := HJ23.out; omega
             case rel => exact ⟨(bL), (wrap64 (a5 + 1)), Ye1, H', ⟨by have := HK1.out; have := HJ23.out; omega⟩, ⟨by (with_reducible repeat (first | apply Kd.R_alloc | apply Kd.R_drewN | apply Kd.R_drew)); exact Kd.R_mono cH.out (fun _ hk => hk.1)⟩, ⟨bk a6.out⟩, ⟨bk a7.out⟩, ⟨bk a8.out⟩, ⟨bf HB.out⟩⟩
            ·rw [if_neg aZ] at H
             exact absurd H (by simp)
       ·rw [if_neg aJ] at H
        exact absurd H (by simp)
      ·rw [if_neg aI] at H
       exact absurd H (by simp)
     ·rw [if_neg ar] at H
      have bH : decide (a5 < (a4.length : Int)) = false := decide_eq_false ar; clear ar
      by_cases aA : (a9.length : Int) > 100
      ·rw [if_pos aA] at H
       have cI : decide (100 < (a9.length : Int)) = true := decide_eq_true aA; have cJ : decide (100 < a9.length) = true := decide_eq_true (by omega); clear aA; simp only [Option.some.injEq, Prod.mk.injEq] at H; obtain ⟨rfl, rfl⟩ := H; obtain ⟨Ao70, co70, cK⟩ := Kd.R_slice aa.out; subst cK; have hnb71 := ap.out; have hnc71 := ao.out; have hnb72 := ae.out; have hnc72 := ad.out; have ⟨dd, de⟩ := Yc1 a8.out
       go_wp2
       refine bodyPost_ret (results_ct rfl _ _ ah 25 #[.slice none 0 0] (0, 0) _ rfl (bp a8.out) Tryd.underlying25 rfl (by kernel_rfl)) rfl ?_; exact ⟨_, Ye2, nl, (bf HB.out)⟩
      ·rw [if_neg aA] at H
       have cI : decide (100 < (a9.length : Int)) = false := decide_eq_false aA; have cJ : decide (100 < a9.length) = false := decide_eq_false (by omega); clear aA; replace H := Option.bind_eq_some_iff.mp H; obtain ⟨ax, bM, H⟩ := H; replace H : (some (ax, 0)) = some (r1, r2) := H; have A74 := Aside0.mk bM; clear bM; simp only [Option.some.injEq, Prod.mk.injEq] at H; obtain ⟨rfl, rfl⟩ := H; obtain ⟨b2, b3, cL⟩ := Kd.R_slice aa.out; subst cL
       go_wp2_with (first | ((with_reducible refine gc 71 rfl ?_); refine gl (some 54) _ (#[.slice b2 a9.length b3]) Tryd.func71 ?_; (with_reducible refine (impl_sorted.calls (fun k_ => some k_ = (.slice b2 a9.length b3 : Value).ownBlock) (.slice b2 a9.length b3) a9 ax w _ ?side1 ?side2 A74.out).mono ?_); (case side1 => exact bf HB.out); (case side2 => exact Kd.R_tight rfl aa.out); rintro e w76 ⟨v357, rfl, ho0, hb, hkp⟩; refine ⟨_, rfl, ?_⟩; refine Ya5 (blk_kept (bk a6.out) hkp (fun hs_ => (fun e_ => (Kd.R_ne aa.out a6.out (by decide)) e_) hs_)) (blk_kept (bk a7.out) hkp (fun hs_ => (fun e_ => (Kd.R_away aa.out (fun _ hk => hk)) e_) hs_)) (blk_kept (bk a8.out) hkp (fun hs_ => (fun e_ => (Kd.R_ne aa.out a8.out (by decide)) e_) hs_)) (Kd.R_mono (ok' := fun k_ => k_ ≠ ac) ho0 (fun k_ hk_ => Or.elim hk_ (fun hs_ => fun e_ => (Kd.R_away aa.out (fun _ hk => hk)) (by rw [← e_]; exact hs_)) (fun hn_ => (Kd.freshB (g := ac) (o := .cells #[.string a1_0, .string a1_1, .bool a1_2] 27 (0, 0)) (bk a7.out) k_ hn_)))) (hb) ?_; clear a6 a7 a8 HB aa; intro a6 a7 a8 bN HB; (try clear hb); (try clear hkp); (try clear ho0); obtain ⟨bO, bP, cM⟩ := Kd.R_slice bN.out; subst cM; have hnb78 := ap.out; have hnc78 := ao.out; have hnb79 := ae.out; have hnc79 := ad.out; have ⟨df, dg⟩ := Yc1 a8.out))
       refine bodyPost_ret (results_ct rfl _ _ ah 25 #[.slice bO ax.length bP] (0, 0) _ rfl (bp a8.out) Tryd.underlying25 rfl (by kernel_rfl)) rfl ?_; exact ⟨_, Ye2, by (with_reducible repeat (first | apply Kd.R_alloc | apply Kd.R_drewN | apply Kd.R_drew)); exact Kd.R_mono (Kd.R_far (p := ⟨ah, 0, none⟩) (Kd.R_types bN.out a8.out (by decide)) (fun _ hk => hk.2) (.slice bO ax.length bP)) (fun _ hk => trivial), (bf HB.out)⟩
  ·replace c6 := Bool.eq_false_iff.mpr c6; subst c6
   have H1 : (some (([] : List (S27)), 2)) = some (r1, r2) := by rw [if_neg (show ¬ (false = true) by decide)] at H; exact H
   clear H; have H := H1; clear H1; simp only [Option.some.injEq, Prod.mk.injEq] at H; obtain ⟨rfl, rfl⟩ := H
   go_enter Tryd.func14, Tryd.ntmps14
   go_wp2_with (first | ((with_reducible refine gd 2 rfl ?_); refine bx 2 25 (#[.slice ak a4.length ag]) ?_; intro aH hg w81 hbox hb; refine Ya4 (below_step (be HB.out) hb) (hbox) (bs hg (be HB.out)) (bs hg (be HB.out)) ?_; clear HB; intro HB a6 b9 ba; clear hb hbox hg) | ((with_reducible refine gd 3 rfl ?_); refine bx 3 27 (#[.string a1_0, .string a1_1, .bool a1_2]) ?_; intro ac hg w82 hbox hb; refine Ya7 (bb a6 hb) (below_step (bf HB.out) hb) (hbox) (bs hg (bf HB.out)) (bs hg (bf HB.out)) (bl hg a6) (br hg a6) ?_; clear a6 HB; intro a6 HB a7 bd bg al am; clear hb hbox hg) | ((with_reducible refine gd 4 rfl ?_); refine bx 4 25 (#[.slice none 0 0]) ?_; intro ah hg w83 hbox hb; refine Ya10 (bb a6 hb) (bb a7 hb) (below_step (bf HB.out) hb) (hbox) (bs hg (bf HB.out)) (bs hg (bf HB.out)) (bl hg a6) (br hg a6) (bl hg a7) (br hg a7) ?_; clear a6 a7 HB; intro a6 a7 HB a8 bh bi ao ap ad ae; clear hb hbox hg; have hnb84 := al.out; have hnc84 := am.out; have hnb85 := ao.out; have hnc85 := ap.out; have ⟨dh, di⟩ := Yc1 a6.out) | ((with_reducible refine gc 18 rfl ?_); refine gl (some 10) _ (#[.agg #[.slice ak a4.length ag]]) Tryd.func18 ?_; (with_reducible refine (impl_ValidTree.calls k _ _ a4 true _ ?sideG ?side1 ?side2 A3.out).mono ?_); (case sideG => exact gf HG.out HB.out); (case side1 => exact cb (Kd.C_below aU.out HB.out)); (case side2 => exact b0.out); rintro e w87 ⟨rfl, hb⟩; refine ⟨_, rfl, ?_⟩; refine Ya4 (bb a6 hb) (bb a7 hb) (bb a8 hb) (below_step (bf HB.out) hb) ?_; clear a6 a7 a8 HB; intro a6 a7 a8 HB; (try clear hb); (try clear hb2); (try clear hk); (try clear hi); have hnb88 := ad.out; have hnc88 := ae.out; have ⟨dj, dk, dl, dm, dn, dp⟩ := Yc3 a7.out) | ((with_reducible refine gc 69 rfl ?_); refine gl (some 14) _ (#[.agg #[.string a1_0, .string a1_1, .bool a1_2]]) Tryd.func69 ?_; (with_reducible refine (impl_goodEntry.calls k a1_0 a1_1 a1_2 false _ ?sideG A5.out).mono ?_); (case sideG => exact gf HG.out HB.out); rintro e w90 ⟨rfl, hb⟩; refine ⟨_, rfl, ?_⟩; refine Ya4 (bb a6 hb) (bb a7 hb) (bb a8 hb) (below_step (bf HB.out) hb) ?_; clear a6 a7 a8 HB; intro a6 a7 a8 HB; (try clear hb); (try clear hb2); (try clear hk); (try clear hi); have ⟨dq, dr⟩ := Yc1 a8.out))
   refine bodyPost_ret (results_ct rfl _ _ ah 25 #[.slice none 0 0] (0, 0) _ rfl (bp a8.out) Tryd.underlying25 rfl (by kernel_rfl)) rfl ?_; exact ⟨_, Ye2, nl, (bf HB.out)⟩
 ·replace c4 := Bool.eq_false_iff.mpr c4; subst c4
  have H1 : (some (([] : List (S27)), 1)) = some (r1, r2) := by rw [if_neg (show ¬ (false = true) by decide)] at H; exact H
  clear H; have H := H1; clear H1; simp only [Option.some.injEq, Prod.mk.injEq] at H; obtain ⟨rfl, rfl⟩ := H
  go_enter Tryd.func14, Tryd.ntmps14
  go_wp2_with (first | ((with_reducible refine gd 2 rfl ?_); refine bx 2 25 (#[.slice ak a4.length ag]) ?_; intro aH hg w92 hbox hb; refine Ya4 (below_step (be HB.out) hb) (hbox) (bs hg (be HB.out)) (bs hg (be HB.out)) ?_; clear HB; intro HB a6 b9 ba; clear hb hbox hg) | ((with_reducible refine gd 3 rfl ?_); refine bx 3 27 (#[.string a1_0, .string a1_1, .bool a1_2]) ?_; intro ac hg w93 hbox hb; refine Ya7 (bb a6 hb) (below_step (bf HB.out) hb) (hbox) (bs hg (bf HB.out)) (bs hg (bf HB.out)) (bl hg a6) (br hg a6) ?_; clear a6 HB; intro a6 HB a7 bd bg al am; clear hb hbox hg) | ((with_reducible refine gd 4 rfl ?_); refine bx 4 25 (#[.slice none 0 0]) ?_; intro ah hg w94 hbox hb; refine Ya10 (bb a6 hb) (bb a7 hb) (below_step (bf HB.out) hb) (hbox) (bs hg (bf HB.out)) (bs hg (bf HB.out)) (bl hg a6) (br hg a6) (bl hg a7) (br hg a7) ?_; clear a6 a7 HB; intro a6 a7 HB a8 bh bi ao ap ad ae; clear hb hbox hg; have hnb95 := al.out; have hnc95 := am.out; have hnb96 := ao.out; have hnc96 := ap.out; have ⟨ds, dt⟩ := Yc1 a6.out) | ((with_reducible refine gc 18 rfl ?_); refine gl (some 10) _ (#[.agg #[.slice ak a4.length ag]]) Tryd.func18 ?_; (with_reducible refine (impl_ValidTree.calls k _ _ a4 false _ ?sideG ?side1 ?side2 A3.out).mono ?_); (case sideG => exact gf HG.out HB.out); (case side1 => exact cb (Kd.C_below aU.out HB.out)); (case side2 => exact b0.out); rintro e w98 ⟨rfl, hb⟩; refine ⟨_, rfl, ?_⟩; refine Ya4 (bb a6 hb) (bb a7 hb) (bb a8 hb) (below_step (bf HB.out) hb) ?_; clear a6 a7 a8 HB; intro a6 a7 a8 HB; (try clear hb); (try clear hb2); (try clear hk); (try clear hi); have hnb99 := ae.out; have hnc99 := ad.out; have ⟨du, dv⟩ := Yc1 a8.out))
  refine bodyPost_ret (results_ct rfl _ _ ah 25 #[.slice none 0 0] (0, 0) _ rfl (bp a8.out) Tryd.underlying25 rfl (by kernel_rfl)) rfl ?_; exact ⟨_, Ye2, nl, (bf HB.out)⟩

end Go.Proofs.YtknagppkeodggaaDoor.P


namespace Go.Proofs.YtknagppkeodggaaDoor.P
open Go.RowKit Go.Proofs.YtknagppkeodggaaDoorW.PrintWords Go.Proofs.YtknagppkeodggaaDoorW.PrintLast Go.Proofs.YtknagppkeodggaaDoorW.PrintMore
attribute [local go_sem] max2_int min2_int max_two min_two max_three min_three max_four min_four
set_option linter.unusedVariables false
set_option linter.unusedSimpArgs false

/-! ### impl_Entry_75: function 75 -/
/- Walked by hand. -/
def impl_Entry_75.f (l0 : List S27) (a1 : Int) (a2 : Int) : Option (List S27) := if 0 ≤ a1 ∧ a2 = a1 + 1 ∧ a1 < (l0.length : Int) ∧ l0.length ≤ 1000000 then some (l0.eraseIdx a1.toNat) else none
def impl_Entry_75.many : Array Value → Nat → List Value → Array Value
 | cur, _, [] => cur
 | cur, o, v :: vs => impl_Entry_75.many (cur.setIfInBounds o v) (o + 1) vs
theorem impl_Entry_75.many_size : ∀ (vs : List Value) (o : Nat) (cur : Array Value), (impl_Entry_75.many cur o vs).size = cur.size
 | [], _, _ => rfl
 | v :: vs, o, cur => by
  show (impl_Entry_75.many (cur.setIfInBounds o v) (o + 1) vs).size = _
  rw [impl_Entry_75.many_size vs (o + 1) _]
  simp
theorem impl_Entry_75.many_out : ∀ (vs : List Value) (o : Nat) (cur : Array Value) (t : Nat), t < o ∨ o + vs.length ≤ t → (impl_Entry_75.many cur o vs)[t]? = cur[t]?
 | [], _, _, _, _ => rfl
 | v :: vs, o, cur, t, h => by
  rw [List.length_cons] at h
  show (impl_Entry_75.many (cur.setIfInBounds o v) (o + 1) vs)[t]? = _
  rw [impl_Entry_75.many_out vs (o + 1) _ t (by omega), Array.getElem?_setIfInBounds_ne (by omega)]
theorem impl_Entry_75.many_in : ∀ (vs : List Value) (o : Nat) (cur : Array Value) (t : Nat), o ≤ t → t < o + vs.length → o + vs.length ≤ cur.size → (impl_Entry_75.many cur o vs)[t]? = vs[t - o]?
 | [], o, _, t, h1, h2, _ => by
  simp at h2
  omega
 | v :: vs, o, cur, t, h1, h2, h3 => by
  rw [List.length_cons] at h2 h3
  show (impl_Entry_75.many (cur.setIfInBounds o v) (o + 1) vs)[t]? = _
  by_cases he : t = o
  ·subst he
   rw [impl_Entry_75.many_out vs (t + 1) _ t (by omega), Array.getElem?_setIfInBounds_self_of_lt (by omega), Nat.sub_self]
   rfl
  ·rw [impl_Entry_75.many_in vs (o + 1) _ t (by omega) (by omega) (by simp; omega), show t - o = (t - (o + 1)) + 1 from by omega]
   rfl
theorem impl_Entry_75.heap_many (g : Nat) (e : TypeId) : ∀ (vs : List Value) (o : Nat) (W : World) (cur : Array Value), W.heap[g]? = some (.cells cur e (0, 0)) → (W.setCells g o vs).heap[g]? = some (.cells (impl_Entry_75.many cur o vs) e (0, 0))
 | [], _, _, _, h => h
 | v :: vs, o, W, cur, h => by
  show ((W.setCell ⟨g, o, none⟩ v).setCells g (o + 1) vs).heap[g]? = _
  exact impl_Entry_75.heap_many g e vs (o + 1) _ _ (blk_set h o v)
theorem impl_Entry_75.size_many (g : Nat) : ∀ (vs : List Value) (o : Nat) (W : World), (W.setCells g o vs).heap.size = W.heap.size
 | [], _, _ => rfl
 | v :: vs, o, W => by
  show ((W.setCell ⟨g, o, none⟩ v).setCells g (o + 1) vs).heap.size = _
  rw [impl_Entry_75.size_many g vs (o + 1) _]
  simp
theorem impl_Entry_75.far_many (g : Nat) {k : Nat} (hne : k ≠ g) : ∀ (vs : List Value) (o : Nat) (W : World), (W.setCells g o vs).heap[k]? = W.heap[k]?
 | [], _, _ => rfl
 | v :: vs, o, W => by
  show ((W.setCell ⟨g, o, none⟩ v).setCells g (o + 1) vs).heap[k]? = _
  rw [impl_Entry_75.far_many g hne vs (o + 1) _]
  exact Below.heap_setCell W ⟨g, o, none⟩ v k hne
theorem impl_Entry_75.below_many {B g : Nat} {a : World} (hg : B ≤ g) : ∀ (vs : List Value) (o : Nat) (W : World), Below B a W → Below B a (W.setCells g o vs)
 | [], _, _, h => h
 | v :: vs, o, W, h => impl_Entry_75.below_many hg vs (o + 1) (W.setCell ⟨g, o, none⟩ v) (h.setCell hg _)
theorem impl_Entry_75.flat_at (l : List S27) (t : Nat) : (Sort.flatK impl_sorted.enc 3 l.toArray).toList[t]? = l[t / 3]?.bind fun x => (impl_sorted.enc x)[t % 3]? := by
 by_cases hj : t / 3 < l.length
 ·rw [List.getElem?_eq_getElem hj, Option.bind_some, ← impl_sorted.flat_get l (t / 3) l[t / 3] (List.getElem?_eq_getElem hj), List.getElem?_take_of_lt (by omega), List.getElem?_drop, show t / 3 * 3 + t % 3 = t from by omega]
 ·rw [List.getElem?_eq_none (by simp; omega), List.getElem?_eq_none (by omega)]
  rfl
theorem impl_Entry_75.erase_cells (l : List S27) (i : Nat) (hi : i < l.length) (cur zs : List Value) (hz : zs.length = 3) (cs : Array Value) (hs : l.length * 3 ≤ cs.size) (h : cs.toList.take (l.length * 3) = (Sort.flatK impl_sorted.enc 3 l.toArray).toList) :
  (impl_Entry_75.many (impl_Entry_75.many cs (i * 3) ((Sort.flatK impl_sorted.enc 3 l.toArray).toList.drop ((i + 1) * 3))) ((l.length - 1) * 3) zs).toList.take ((l.eraseIdx i).length * 3) = (Sort.flatK impl_sorted.enc 3 (l.eraseIdx i).toArray).toList := by
 have hlen : (l.eraseIdx i).length = l.length - 1 := by rw [List.length_eraseIdx, if_pos hi]
 have hdl : ((Sort.flatK impl_sorted.enc 3 l.toArray).toList.drop ((i + 1) * 3)).length = (l.length - 1 - i) * 3 := by simp; omega
 have hcs : ∀ t, t < l.length * 3 → cs[t]? = (Sort.flatK impl_sorted.enc 3 l.toArray).toList[t]? := by
  intro t ht
  rw [← h, List.getElem?_take_of_lt ht, Array.getElem?_toList]
 apply List.ext_getElem?
 intro t
 by_cases ht : t < (l.length - 1) * 3
 ·rw [hlen, List.getElem?_take_of_lt ht, Array.getElem?_toList, impl_Entry_75.many_out _ _ _ _ (.inl ht), impl_Entry_75.flat_at, List.getElem?_eraseIdx]
  by_cases h3 : t < i * 3
  ·rw [impl_Entry_75.many_out _ _ _ _ (.inl h3), hcs t (by omega), impl_Entry_75.flat_at, if_pos (by omega)]
  ·rw [impl_Entry_75.many_in _ _ _ _ (by omega) (by omega) (by omega), List.getElem?_drop, impl_Entry_75.flat_at, if_neg (by omega), show ((i + 1) * 3 + (t - i * 3)) / 3 = t / 3 + 1 from by omega, show ((i + 1) * 3 + (t - i * 3)) % 3 = t % 3 from by omega]
 ·rw [List.getElem?_eq_none (by rw [hlen, List.length_take]; omega), List.getElem?_eq_none (by rw [show (Sort.flatK impl_sorted.enc 3 (l.eraseIdx i).toArray).toList.length = (l.eraseIdx i).length * 3 from by simp, hlen]; omega)]
theorem impl_Entry_75.clear3 (P : Program) (w : World) (t e ty : TypeId) (z : Value) (v1 v2 v3 : Value) (ht : P.underlying t = some (.slice e)) (hv : ∀ w, (zeroValue e).run P w = .ok z w) (hz : z.cells = #[v1, v2, v3]) (h1 : v1.oneCell' = true) (h2 : v2.oneCell' = true) (h3 : v3.oneCell' = true) (b o c : Nat)
  (hc : ∀ j, j < 3 → (w.cell? ⟨b, o + j, none⟩).isSome = true) (hf : ∀ j, j < 3 → w.frozen? ⟨b, o + j, none⟩ = false) :
  (Builtin.clear_ #[t] ty #[.slice (some ⟨b, o, none⟩) 1 c]).run P w = .ok (.tuple #[]) (w.setCells b o [v1, v2, v3]) := by
 have hzc : (Builtin.zeroCells z.cells 1).toList = [v1, v2, v3] := by
  rw [hz]
  simp [Builtin.zeroCells]
  apply List.ext_getElem
  ·simp
  ·intro i h1 h2
   match i, h2 with
   | 0, _ => simp
   | 1, _ => simp
   | 2, _ => simp
 have hst := run_storeCells_cells (P := P) b o [v1, v2, v3] 0 w (by simpa using hc) (by simpa using hf) (by simp [h1, h2, h3])
 simp only [Nat.add_zero] at hst
 simp [Builtin.clear_, run_underlying ht, hv, hzc, hst]
set_option maxHeartbeats 2000000 in
set_option maxRecDepth 100000 in
theorem impl_Entry_75.calls (P0_ : Nat → Prop) (u9000_ : Value) (l0 : List S27) (a1 : Int) (a2 : Int) (r : List S27) (w0 w : World) (hB : Below w0.heap.size w0 w) (ho0 : Kd.R k27 27 w w0.heap.size P0_ u9000_ l0) (h : impl_Entry_75.f l0 a1 a2 = some r) :
  Calls Tryd.prog 75 #[u9000_, .int .i64 a1, .int .i64 a2] w fun e w' => ∃ v0_ : Value, e = .returned v0_ ∧ Kd.R k27 27 w' w0.heap.size (fun k_ => (P0_ k_ ∨ w.heap.size ≤ k_)) v0_ r ∧ Below w0.heap.size w0 w' ∧ Kept w w' (fun k_ => P0_ k_) := by
 have hu27 := Tryd.underlying23
 unfold impl_Entry_75.f at h
 split at h
 ·rename_i hc
  obtain ⟨h0, rfl, h1, h2⟩ := hc
  obtain rfl := Option.some.inj h
  clear h
  obtain ⟨i, rfl⟩ : ∃ i : Nat, a1 = (i : Int) := ⟨a1.toNat, by omega⟩
  rw [Int.toNat_natCast]
  have hi : i < l0.length := by omega
  obtain ⟨A, c, rfl⟩ := Kd.R_slice ho0
  obtain ⟨g, cap, hv, hbase, hlt, cells, hcell⟩ := Kd.R_form ho0 (by omega)
  injection hv with hA _ hcap
  subst hA
  subst hcap
  have hown := impl_sorted.opened ho0
  have hH := impl_sorted.holds hown
  obtain ⟨cur, hb, hcl, hcx, hcz, htk⟩ : ∃ cur : Array Value, w.heap[g]? = some (.cells cur 27 (0, 0)) ∧ l0.length ≤ c ∧ c ≤ maxLen ∧ cur.size = c * 3 ∧ cur.toList.take (l0.length * 3) = (Sort.flatK impl_sorted.enc 3 l0.toArray).toList := by
   rcases hown.2 with ⟨h0, _⟩ | ⟨g', cap', cur, hv, _, hb, h1, h2, h3, h4⟩
   ·cases h0
   injection hv with hv _ hcap
   injection hv with hv
   injection hv with hv
   subst hv
   subst hcap
   exact ⟨cur, hb, h1, h2, h3, h4⟩
  have hcm : c ≤ 9223372036854775807 := by have := hcx; unfold maxLen at this; omega
  have hgetc : ∀ t, t < l0.length * 3 → cur[t]? = (Sort.flatK impl_sorted.enc 3 l0.toArray).toList[t]? := by
   intro t ht
   rw [← htk, List.getElem?_take_of_lt ht, Array.getElem?_toList]
  obtain ⟨news, hnews⟩ : ∃ news, news = (Sort.flatK impl_sorted.enc 3 l0.toArray).toList.drop ((i + 1) * 3) := ⟨_, rfl⟩
  have hlen : news.length = (l0.length - (i + 1)) * 3 := by rw [hnews]; simp; omega
  obtain ⟨A, hA, hsrc⟩ : ∃ A : Addr, (if c = i + 1 then some (⟨g, 0, none⟩ : Addr) else some ⟨g, (i + 1) * 3, none⟩) = some A ∧ Aside0 (∀ t u, news[t]? = some u → w.drew.cell? (A.add t) = some u) := by
   by_cases hh : c = i + 1
   ·refine ⟨⟨g, 0, none⟩, by simp [hh], Aside0.mk fun t u hu => ?_⟩
    have h0 : news.length = 0 := by rw [hlen]; omega
    rw [List.length_eq_zero_iff.1 h0] at hu
    simp at hu
   ·refine ⟨⟨g, (i + 1) * 3, none⟩, by simp [hh], Aside0.mk fun t u hu => ?_⟩
    have ht : t < (l0.length - (i + 1)) * 3 := by
     have := (List.getElem?_eq_some_iff.1 hu).1
     rwa [hlen] at this
    rw [Addr.add_lit]
    show w.cell? _ = some u
    rw [blk_cell hb, hgetc _ (by omega), ← hu, hnews, List.getElem?_drop]
  have s1 : Aside0 (news.length = (l0.length - (i + 1)) * 3) := Aside0.mk hlen
  have s2 : Aside0 (∀ u ∈ news, u.oneCell' = true) := Aside0.mk (by
   intro u hu
   rw [hnews] at hu
   obtain ⟨t, ht⟩ := List.mem_iff_getElem?.1 (List.mem_of_mem_drop hu)
   rw [impl_Entry_75.flat_at] at ht
   obtain ⟨x, _, hx⟩ := Option.bind_eq_some_iff.1 ht
   have h4 := List.mem_of_getElem? hx
   simp [impl_sorted.enc] at h4
   rcases h4 with rfl | rfl | rfl <;> rfl)
  have s3 : Aside0 (∀ t, t < news.length → (w.drew.cell? ⟨g, 0 + i * 3 + t, none⟩).isSome = true ∧ w.drew.frozen? ⟨g, 0 + i * 3 + t, none⟩ = false) := Aside0.mk (by
   intro t ht
   rw [hlen] at ht
   refine ⟨?_, by show w.frozen? _ = false; simp [World.frozen?, hb]⟩
   show (w.cell? _).isSome = true
   rw [blk_cell hb, Array.getElem?_eq_getElem (by omega)]
   rfl)
  obtain ⟨W1, hW1⟩ : ∃ W1, W1 = w.drew.setCells g (0 + i * 3) news := ⟨_, rfl⟩
  have hb1 : W1.heap[g]? = some (.cells (impl_Entry_75.many cur (0 + i * 3) news) 27 (0, 0)) := by rw [hW1]; exact impl_Entry_75.heap_many g _ news _ _ cur hb
  obtain ⟨W2, hW2⟩ : ∃ W2, W2 = W1.setCells g ((i + (l0.length - (i + 1))) * 3) [.string ByteArray.empty, .string ByteArray.empty, .bool false] := ⟨_, rfl⟩
  have hb2 : W2.heap[g]? = some (.cells (impl_Entry_75.many (impl_Entry_75.many cur (0 + i * 3) news) ((i + (l0.length - (i + 1))) * 3) [.string ByteArray.empty, .string ByteArray.empty, .bool false]) 27 (0, 0)) := by rw [hW2]; exact impl_Entry_75.heap_many g _ _ _ _ _ hb1
  have hclr : ∀ ty, (Builtin.clear_ #[23] ty #[.slice (some ⟨g, (i + (l0.length - (i + 1))) * 3, none⟩) (l0.length - (i + (l0.length - (i + 1)))) (c - (i + (l0.length - (i + 1))))]).run Tryd.prog W1 = .ok (.tuple #[]) W2 := by
   intro ty
   rw [show l0.length - (i + (l0.length - (i + 1))) = 1 from by omega, hW2]
   refine impl_Entry_75.clear3 _ W1 _ 27 ty (.agg #[.string ByteArray.empty, .string ByteArray.empty, .bool false]) _ _ _ hu27 (fun w => by kernel_rfl) rfl rfl rfl rfl g _ _ (fun j hj => ?_) (fun j hj => by simp [World.frozen?, hb1])
   rw [blk_cell hb1, Array.getElem?_eq_getElem (by rw [impl_Entry_75.many_size, hcz]; omega)]
   rfl
  have hW : Aside0 (W1 = w.drew.setCells g (0 + i * 3) news) := Aside0.mk hW1
  have hic : i ≤ c := by omega
  have mixed : Tryd.prog.follows .mixedOrders = true := by kernel_rfl
  have hp1 : 0 ≤ (i : Int) + 1 := by omega
  have hp2 : (i : Int) + 1 ≤ (l0.length : Int) := by omega
  have hp3 : 0 ≤ (i : Int) := by omega
  have hjc : i + 1 ≤ c := by omega
  have HO := Aside0.mk ho0
  have HB0 := Aside0.mk hB
  have HX := Aside0.mk (show cur.size = c * 3 ∧ cur.toList.take (l0.length * 3) = (Sort.flatK impl_sorted.enc 3 l0.toArray).toList ∧ w.heap[g]? = some (.cells cur 27 (0, 0)) ∧ news = (Sort.flatK impl_sorted.enc 3 l0.toArray).toList.drop ((i + 1) * 3) ∧ W2.heap[g]? = some (.cells (impl_Entry_75.many (impl_Entry_75.many cur (0 + i * 3) news) ((i + (l0.length - (i + 1))) * 3) [.string ByteArray.empty, .string ByteArray.empty, .bool false]) 27 (0, 0)) ∧ W2 = W1.setCells g ((i + (l0.length - (i + 1))) * 3) [.string ByteArray.empty, .string ByteArray.empty, .bool false] from ⟨hcz, htk, hb, hnews, hb2, hW2⟩)
  clear ho0 hB hH hown hb hcz htk hgetc hnews hlen hb1 hW1 hb2 hW2 hcell
  go_enter Tryd.func75, Tryd.ntmps75
  go_wp2_with fail
  go_region_law_o (refine step_append_room rfl (.tmp 22) (.tmp 25) 23 rfl 27 impl_sorted.svE 3 hu27 (by kernel_rfl) (by kernel_rfl) g 0 i c (by simp [Act.eval, Act.put]) A (l0.length - (i + 1)) (c - (i + 1)) news (by simp [Act.eval, Act.put]) s1.out hsrc.out s2.out (by omega) s3.out ?_; rw [← hW.out])
  go_wp2
  go_ret
  obtain ⟨z1, z2, z3, z4, z5, z6⟩ := HX.out
  have hfar : ∀ k, k ≠ g → W2.heap[k]? = w.heap[k]? := by
   intro k hne
   rw [z6, impl_Entry_75.far_many _ hne, hW.out, impl_Entry_75.far_many _ hne]
   rfl
  have hsz : W2.heap.size = w.heap.size := by
   rw [z6, impl_Entry_75.size_many, hW.out, impl_Entry_75.size_many]
   rfl
  have hlen : (l0.eraseIdx i).length = l0.length - 1 := by rw [List.length_eraseIdx, if_pos hi]
  have hon : i + (l0.length - (i + 1)) = l0.length - 1 := by omega
  rw [Nat.zero_add, hon] at z5
  refine ⟨.slice (some ⟨g, 0, none⟩) (l0.length - 1) c, by rw [← hon]; rfl, Kd.R_mono ⟨HO.out.1, (Sort.flatK impl_sorted.enc 3 (l0.eraseIdx i).toArray).toList, ?_, impl_sorted.reps_flat _ _ _ _⟩ (fun k hk => .inl hk), ?_, ?_, ?_⟩
  ·rw [show (k27).sz = 3 from rfl]
   refine ⟨by simp, .inr ⟨g, c, _, by rw [hlen], hbase, z5, by omega, hcx, by rw [impl_Entry_75.many_size, impl_Entry_75.many_size]; exact z1, ?_⟩⟩
   rw [z4]
   exact impl_Entry_75.erase_cells l0 i hi [] _ rfl cur (by rw [z1]; omega) z2
  ·rw [z6, hW.out]
   exact impl_Entry_75.below_many hbase _ _ _ (impl_Entry_75.below_many hbase _ _ _ HB0.out.drew)
  ·exact Nat.le_of_eq hsz.symm
  ·intro k _ hk
   exact hfar k (by rintro rfl; exact hk (HO.out.1 _ rfl))
 ·cases h


end Go.Proofs.YtknagppkeodggaaDoor.P


namespace Go.Proofs.YtknagppkeodggaaDoor.P
open Go.RowKit Go.Proofs.YtknagppkeodggaaDoorW.PrintWords Go.Proofs.YtknagppkeodggaaDoorW.PrintLast Go.Proofs.YtknagppkeodggaaDoorW.PrintMore
attribute [local go_sem] max2_int min2_int max_two min_two max_three min_three max_four min_four
set_option linter.unusedVariables false
set_option linter.unusedSimpArgs false

/-! ### impl_Entry_76: function 76 -/
/- Walked by hand. -/
def impl_Entry_76.f (l0 : List S27) : Option (List S27) := if l0.length * 40 ≤ 140737488355328 then some l0 else none
/-- The cells of a row that is read. -/
theorem impl_Entry_76.cells {w : World} {A0 : Option Addr} {l0 : List S27} (hr0 : Kd.C k27 w A0 l0.length l0) (hn : 0 < l0.length) : ∃ ad, A0 = some ad ∧ ∀ t u, (Sort.flatK impl_sorted.enc 3 l0.toArray).toList[t]? = some u → w.cell? (ad.add t) = some u := by
 obtain ⟨ad, e, hc⟩ := hr0.2.2 hn
 refine ⟨ad, e, fun t u hu => ?_⟩
 have ht : t < l0.length * 3 := by
  have := (List.getElem?_eq_some_iff.1 hu).1
  simpa using this
 have hj : t / 3 < l0.length := by omega
 obtain ⟨c, hcl, hR, hcell⟩ := hc (t / 3) l0[t / 3] (List.getElem?_eq_getElem hj)
 obtain rfl := k27_open hR
 have h1 := impl_sorted.flat_get l0 (t / 3) l0[t / 3] (List.getElem?_eq_getElem hj)
 have h2 := hcell (t % 3) u (by
  show (impl_sorted.enc l0[t / 3])[t % 3]? = some u
  rw [← h1, List.getElem?_take_of_lt (by omega), List.getElem?_drop, show t / 3 * 3 + t % 3 = t from by omega]
  exact hu)
 rw [show (k27).sz = 3 from rfl, show t / 3 * 3 + t % 3 = t from by omega] at h2
 exact h2
set_option maxHeartbeats 2000000 in
set_option maxRecDepth 100000 in
theorem impl_Entry_76.calls (A0 : Option Addr) (c0 : Nat) (l0 : List S27) (r : List S27) (w : World) (hr0 : Kd.C k27 w A0 l0.length l0) (hc0 : l0.length ≤ c0) (h : impl_Entry_76.f l0 = some r) :
  Calls Tryd.prog 76 #[.slice A0 l0.length c0] w fun e w' => ∃ v0_ : Value, e = .returned (v0_) ∧ Kd.R k27 27 w' w.heap.size (fun _ => True) v0_ r ∧ Below w.heap.size w w' := by
 have hu27 := Tryd.underlying23
 have q27 : ∀ (w : World) (a : Option Addr) (n c n' c' : Nat), (binOp .eql 23 (.slice a n c) (.slice none n' c')).run Tryd.prog w = .ok (.bool a.isNone) w := fun w a n c n' c' => Lib.run_eql_slice_nil w _ _ a n c n' c' hu27
 unfold impl_Entry_76.f at h
 split at h
 ·rename_i hsz
  obtain rfl := Option.some.inj h
  clear h
  cases A0 with
  | none =>
   have hl : l0.length = 0 := by
    by_cases hn : 0 < l0.length
    ·obtain ⟨ad, e, _⟩ := impl_Entry_76.cells hr0 hn
     cases e
    ·omega
   have hnil : l0 = [] := List.length_eq_zero_iff.1 hl
   subst hnil
   clear hr0
   go_enter Tryd.func76, Tryd.ntmps76
   go_wp2
   go_ret
   exact ⟨_, rfl, Kd.R_nil _ _ _ _ _, Below.refl _ _⟩
  | some ad =>
   have HN : Aside0 (∀ t u, (Sort.flatK impl_sorted.enc 3 l0.toArray).toList[t]? = some u → w.cell? (ad.add t) = some u) := Aside0.mk (by
    intro t u hu
    by_cases hn : 0 < l0.length
    ·obtain ⟨ad', e, hh⟩ := impl_Entry_76.cells hr0 hn
     cases e
     exact hh t u hu
    ·have := (List.getElem?_eq_some_iff.1 hu).1
     simp at this
     omega)
   clear hr0
   have HS := Aside0.mk hsz
   clear hsz
   go_enter Tryd.func76, Tryd.ntmps76
   go_wp2_with (at_builtin; go_loud (refine wpList_append_own _ rfl _ _ 23 rfl w.heap.size 27 impl_sorted.svE (.agg #[.string ByteArray.empty, .string ByteArray.empty, .bool false]) 3 40 hu27 (by kernel_rfl) (by kernel_rfl) (by kernel_rfl) (by kernel_rfl) rfl (by decide) _ _ _ rfl (World.ownsRow_made w #[] 0 (Nat.le_refl _) (Nat.zero_le _) rfl) ad l0.length c0 (Sort.flatK impl_sorted.enc 3 l0.toArray).toList rfl ?qc1 ?qc2 ?qc3 ?qc4 ?qc5 ?qc6 ?_))
   case qc1 => simp
   case qc2 => exact fun j u hj => Lib.cell?_alloc_some _ (HN.out j u hj)
   case qc3 =>
    intro u hu
    obtain ⟨t, ht⟩ := List.mem_iff_getElem?.1 hu
    have h3 : t < l0.length * 3 := by
     have := (List.getElem?_eq_some_iff.1 ht).1
     simpa using this
    have hj : t / 3 < l0.length := by omega
    have h1 := impl_sorted.flat_get l0 (t / 3) l0[t / 3] (List.getElem?_eq_getElem hj)
    have h2 : (impl_sorted.enc l0[t / 3])[t % 3]? = some u := by
     rw [← h1, List.getElem?_take_of_lt (by omega), List.getElem?_drop, show t / 3 * 3 + t % 3 = t from by omega]
     exact ht
    have h4 := List.mem_of_getElem? h2
    simp [impl_sorted.enc] at h4
    rcases h4 with rfl | rfl | rfl <;> rfl
   case qc4 => have := HS.out; unfold maxLen; omega
   case qc5 => have := HS.out; omega
   case qc6 => simp
   intro v' w1 hown hgrow hnil
   go_wp2
   go_ret
   refine ⟨v', rfl, ⟨fun _ _ => trivial, (Sort.flatK impl_sorted.enc 3 l0.toArray).toList, ?_, impl_sorted.reps_flat w1 w.heap.size _ l0⟩, ?_⟩
   ·have h3 : w1.ownsRow w.heap.size 27 3 v' l0.length (Sort.flatK impl_sorted.enc 3 l0.toArray).toList := by simpa using hown
    exact h3
   ·exact ((Below.refl _ w).alloc (Nat.le_refl _) _).grown hgrow (by simp) (by intro k hk; simp [Value.ownBlock] at hk; omega)
 ·cases h


end Go.Proofs.YtknagppkeodggaaDoor.P


namespace Go.Proofs.YtknagppkeodggaaDoor.P
open Go.RowKit Go.Proofs.YtknagppkeodggaaDoorW.PrintWords Go.Proofs.YtknagppkeodggaaDoorW.PrintLast Go.Proofs.YtknagppkeodggaaDoorW.PrintMore
attribute [local go_sem] max2_int min2_int max_two min_two max_three min_three max_four min_four
set_option linter.unusedVariables false
set_option linter.unusedSimpArgs false

/-! ### impl_Remove: function 19 -/
def impl_Remove.f (k : Nat) (a3 : List (S27)) (a1 : ByteArray) : Option ((List (S27)) × Int) := (impl_ValidTree.f k a3).bind fun aa => (if aa = true then ((impl_find.f k a3 a1).bind fun bt379 => (if bt379.2 = true then ((impl_Entry_76.f a3).bind fun a5 => ((impl_Entry_75.f a5 bt379.1 (wrap64 (bt379.1 + 1))).bind fun a6 => (some (a6, 0)))) else (some (([] : List (S27)), 4)))) else (some (([] : List (S27)), 1)))
theorem impl_Remove.mono : ∀ a0 a1 k, LeO (impl_Remove.f k a0 a1) (impl_Remove.f (k + 1) a0 a1) := by
 intro a0 a1 k
 unfold impl_Remove.f
 repeat' first
   | (with_reducible exact impl_ValidTree.mono _ _)
   | (with_reducible exact impl_find.mono _ _ _)
   | (with_reducible exact LeO.refl _)
   | (with_reducible exact LeO.none _)
   | (with_reducible refine LeO.ite ?_ ?_)
   | (with_reducible refine LeO.bind ?_ (fun _ => ?_))
   | exact impl_ValidTree.mono _ _
   | exact impl_find.mono _ _ _
   | exact LeO.none _
   | refine LeO.ite ?_ ?_
   | refine LeO.bind ?_ (fun _ => ?_)
set_option maxHeartbeats 8000000 in
set_option maxRecDepth 100000 in
theorem impl_Remove.calls (k : Nat) (a8 : Option Addr) (a9 : Nat) (a3 : List (S27)) (a1 : ByteArray) (r1 : List (S27)) (r2 : Int) (w : World) (hg : GOK w) (aj : Kd.C k27 w a8 a3.length a3) (ak : a3.length ≤ a9) (h : impl_Remove.f k a3 a1 = some (r1, r2)) :
  Calls Tryd.prog 19 #[.agg #[.slice a8 a3.length a9], .string a1] w fun e w' => ∃ v0_ : Value, e = .returned (.tuple #[.agg #[v0_], .int .i64 r2]) ∧ Kd.R k27 27 w' w.heap.size (fun _ => True) v0_ r1 ∧ Below w.heap.size w w' := by
 have HG := Aside0.mk hg; clear hg; have hu25 := Tryd.underlying25; have ab := Aside0.mk aj; have ac := Aside0.mk ak; clear aj ak; have HB := Aside0.mk (Below.refl w.heap.size w); have H : ((impl_ValidTree.f k a3).bind fun aa => (if aa = true then ((impl_find.f k a3 a1).bind fun bt379 => (if bt379.2 = true then ((impl_Entry_76.f a3).bind fun a5 => ((impl_Entry_75.f a5 bt379.1 (wrap64 (bt379.1 + 1))).bind fun a6 => (some (a6, 0)))) else (some (([] : List (S27)), 4)))) else (some (([] : List (S27)), 1)))) = some (r1, r2) := h; clear h; replace H := Option.bind_eq_some_iff.mp H; obtain ⟨aa, A30, H⟩ := H; replace H : (if aa = true then ((impl_find.f k a3 a1).bind fun bt379 => (if bt379.2 = true then ((impl_Entry_76.f a3).bind fun a5 => ((impl_Entry_75.f a5 bt379.1 (wrap64 (bt379.1 + 1))).bind fun a6 => (some (a6, 0)))) else (some (([] : List (S27)), 4)))) else (some (([] : List (S27)), 1))) = some (r1, r2) := H; have A3 := Aside0.mk A30; clear A30
 by_cases c4 : aa = true
 ·subst c4
  have H1 : ((impl_find.f k a3 a1).bind fun bt379 => (if bt379.2 = true then ((impl_Entry_76.f a3).bind fun a5 => ((impl_Entry_75.f a5 bt379.1 (wrap64 (bt379.1 + 1))).bind fun a6 => (some (a6, 0)))) else (some (([] : List (S27)), 4)))) = some (r1, r2) := by rw [if_pos rfl] at H; exact H
  clear H; have H := H1; clear H1; replace H := Option.bind_eq_some_iff.mp H; obtain ⟨⟨a7, al⟩, A50, H⟩ := H; replace H : (if al = true then ((impl_Entry_76.f a3).bind fun a5 => ((impl_Entry_75.f a5 a7 (wrap64 (a7 + 1))).bind fun a6 => (some (a6, 0)))) else (some (([] : List (S27)), 4))) = some (r1, r2) := H; have A5 := Aside0.mk A50; clear A50
  by_cases c6 : al = true
  ·subst c6
   have H1 : ((impl_Entry_76.f a3).bind fun a5 => ((impl_Entry_75.f a5 a7 (wrap64 (a7 + 1))).bind fun a6 => (some (a6, 0)))) = some (r1, r2) := by rw [if_pos rfl] at H; exact H
   clear H; have H := H1; clear H1; replace H := Option.bind_eq_some_iff.mp H; obtain ⟨a5, A70, H⟩ := H; replace H : ((impl_Entry_75.f a5 a7 (wrap64 (a7 + 1))).bind fun a6 => (some (a6, 0))) = some (r1, r2) := H; have A7 := Aside0.mk A70; clear A70; replace H := Option.bind_eq_some_iff.mp H; obtain ⟨a6, A80, H⟩ := H; replace H : (some (a6, 0)) = some (r1, r2) := H; have A8 := Aside0.mk A80; clear A80; simp only [Option.some.injEq, Prod.mk.injEq] at H; obtain ⟨rfl, rfl⟩ := H
   go_enter Tryd.func19, Tryd.ntmps19
   go_wp2_with (first | ((with_reducible refine gd 2 rfl ?_); refine bx 2 25 (#[.slice a8 a3.length a9]) ?_; intro am hg w9 hbox hb; refine Ya4 (below_step (be HB.out) hb) (hbox) (bs hg (be HB.out)) (bs hg (be HB.out)) ?_; clear HB; intro HB a2 an ao; clear hb hbox hg) | ((with_reducible refine gd 4 rfl ?_); refine bx 4 25 (#[.slice none 0 0]) ?_; intro ad hg w10 hbox hb; refine Ya7 (bb a2 hb) (below_step (bf HB.out) hb) (hbox) (bs hg (bf HB.out)) (bs hg (bf HB.out)) (bl hg a2) (br hg a2) ?_; clear a2 HB; intro a2 HB a4 ap aq ae af; clear hb hbox hg; have hnb11 := ae.out; have hnc11 := af.out; have ⟨ay, az⟩ := Yc1 a2.out) | ((with_reducible refine gc 18 rfl ?_); refine gl (some 9) _ (#[.agg #[.slice a8 a3.length a9]]) Tryd.func18 ?_; (with_reducible refine (impl_ValidTree.calls k _ _ a3 true _ ?sideG ?side1 ?side2 A3.out).mono ?_); (case sideG => exact gf HG.out HB.out); (case side1 => exact cb (Kd.C_below ab.out HB.out)); (case side2 => exact ac.out); rintro e w13 ⟨rfl, hb⟩; refine ⟨_, rfl, ?_⟩; refine Ya3 (bb a2 hb) (bb a4 hb) (below_step (bf HB.out) hb) ?_; clear a2 a4 HB; intro a2 a4 HB; (try clear hb); (try clear hb2); (try clear hk); (try clear hi); have ⟨aA, aB⟩ := Yc1 a2.out) | ((with_reducible refine gc 74 rfl ?_); refine gl (some 15) _ (#[.agg #[.slice a8 a3.length a9], .string a1]) Tryd.func74 ?_; (with_reducible refine (impl_find.calls k _ _ a3 a1 a7 true _ ?side1 ?side2 A5.out).mono ?_); (case side1 => exact cb (Kd.C_below ab.out HB.out)); (case side2 => exact ac.out); rintro e w15 ⟨rfl, hb⟩; refine ⟨_, rfl, ?_⟩; refine Ya3 (bb a2 hb) (bb a4 hb) (below_step (bf HB.out) hb) ?_; clear a2 a4 HB; intro a2 a4 HB; (try clear hb); (try clear hb2); (try clear hk); (try clear hi); have ⟨aC, aD⟩ := Yc1 a2.out) | ((with_reducible refine gc 76 rfl ?_); refine gl (some 23) _ (#[.slice a8 a3.length a9]) Tryd.func76 ?_; (with_reducible refine (impl_Entry_76.calls _ _ a3 a5 _ ?side1 ?side2 A7.out).mono ?_); (case side1 => exact cb (Kd.C_below ab.out HB.out)); (case side2 => exact ac.out); rintro e w17 ⟨v382, rfl, ho0, hb⟩; refine ⟨_, rfl, ?_⟩; refine Ya4 (Kd.R_lower ho0 (below_size (bf HB.out))) (bb a2 hb) (bb a4 hb) (below_step (bf HB.out) hb) ?_; clear a2 a4 HB; intro ag a2 a4 HB; (try clear hb); (try clear hb2); (try clear hk); (try clear hi); (try clear ho0); obtain ⟨ah, ai, aw⟩ := Kd.R_slice ag.out; subst aw) | ((with_reducible refine gc 75 rfl ?_); refine gl (some 27) _ (#[.slice ah a5.length ai, .int .i64 a7, .int .i64 (wrap64 (a7 + 1))]) Tryd.func75 ?_; (with_reducible refine (impl_Entry_75.calls (fun k_ => some k_ = (.slice ah a5.length ai : Value).ownBlock) (.slice ah a5.length ai) a5 a7 (wrap64 (a7 + 1)) a6 w _ ?side1 ?side2 A8.out).mono ?_); (case side1 => exact bf HB.out); (case side2 => exact Kd.R_tight rfl ag.out); rintro e w19 ⟨v385, rfl, ho0, hb, hkp⟩; refine ⟨_, rfl, ?_⟩; refine Ya4 (blk_kept (bk a2.out) hkp (fun hs_ => (fun e_ => (Kd.R_ne ag.out a2.out (by decide)) e_) hs_)) (blk_kept (bk a4.out) hkp (fun hs_ => (fun e_ => (Kd.R_ne ag.out a4.out (by decide)) e_) hs_)) (Kd.R_mono (ok' := fun k_ => True) ho0 (fun k_ hk_ => trivial)) (hb) ?_; clear a2 a4 HB ag; intro a2 a4 ar HB; (try clear hb); (try clear hkp); (try clear ho0); obtain ⟨au, av, ax⟩ := Kd.R_slice ar.out; subst ax; have ⟨aE, aF⟩ := Yc1 a4.out))
   refine bodyPost_ret (results_ct rfl _ _ ad 25 #[.slice au a6.length av] (0, 0) _ rfl (bp a4.out) Tryd.underlying25 rfl (by kernel_rfl)) rfl ?_; exact ⟨_, Ye2, by (with_reducible repeat (first | apply Kd.R_alloc | apply Kd.R_drewN | apply Kd.R_drew)); exact Kd.R_mono (Kd.R_far (p := ⟨ad, 0, none⟩) (Kd.R_types ar.out a4.out (by decide)) (fun _ hk => hk.2) (.slice au a6.length av)) (fun _ hk => trivial), (bf HB.out)⟩
  ·replace c6 := Bool.eq_false_iff.mpr c6; subst c6
   have H1 : (some (([] : List (S27)), 4)) = some (r1, r2) := by rw [if_neg (show ¬ (false = true) by decide)] at H; exact H
   clear H; have H := H1; clear H1; simp only [Option.some.injEq, Prod.mk.injEq] at H; obtain ⟨rfl, rfl⟩ := H
   go_enter Tryd.func19, Tryd.ntmps19
   go_wp2_with (first | ((with_reducible refine gd 2 rfl ?_); refine bx 2 25 (#[.slice a8 a3.length a9]) ?_; intro am hg w22 hbox hb; refine Ya4 (below_step (be HB.out) hb) (hbox) (bs hg (be HB.out)) (bs hg (be HB.out)) ?_; clear HB; intro HB a2 an ao; clear hb hbox hg) | ((with_reducible refine gd 4 rfl ?_); refine bx 4 25 (#[.slice none 0 0]) ?_; intro ad hg w23 hbox hb; refine Ya7 (bb a2 hb) (below_step (bf HB.out) hb) (hbox) (bs hg (bf HB.out)) (bs hg (bf HB.out)) (bl hg a2) (br hg a2) ?_; clear a2 HB; intro a2 HB a4 ap aq ae af; clear hb hbox hg; have hnb24 := ae.out; have hnc24 := af.out; have ⟨aG, aH⟩ := Yc1 a2.out) | ((with_reducible refine gc 18 rfl ?_); refine gl (some 9) _ (#[.agg #[.slice a8 a3.length a9]]) Tryd.func18 ?_; (with_reducible refine (impl_ValidTree.calls k _ _ a3 true _ ?sideG ?side1 ?side2 A3.out).mono ?_); (case sideG => exact gf HG.out HB.out); (case side1 => exact cb (Kd.C_below ab.out HB.out)); (case side2 => exact ac.out); rintro e w26 ⟨rfl, hb⟩; refine ⟨_, rfl, ?_⟩; refine Ya3 (bb a2 hb) (bb a4 hb) (below_step (bf HB.out) hb) ?_; clear a2 a4 HB; intro a2 a4 HB; (try clear hb); (try clear hb2); (try clear hk); (try clear hi); have ⟨aI, aJ⟩ := Yc1 a2.out) | ((with_reducible refine gc 74 rfl ?_); refine gl (some 15) _ (#[.agg #[.slice a8 a3.length a9], .string a1]) Tryd.func74 ?_; (with_reducible refine (impl_find.calls k _ _ a3 a1 a7 false _ ?side1 ?side2 A5.out).mono ?_); (case side1 => exact cb (Kd.C_below ab.out HB.out)); (case side2 => exact ac.out); rintro e w28 ⟨rfl, hb⟩; refine ⟨_, rfl, ?_⟩; refine Ya3 (bb a2 hb) (bb a4 hb) (below_step (bf HB.out) hb) ?_; clear a2 a4 HB; intro a2 a4 HB; (try clear hb); (try clear hb2); (try clear hk); (try clear hi); have ⟨aK, aL⟩ := Yc1 a4.out))
   refine bodyPost_ret (results_ct rfl _ _ ad 25 #[.slice none 0 0] (0, 0) _ rfl (bp a4.out) Tryd.underlying25 rfl (by kernel_rfl)) rfl ?_; exact ⟨_, Ye2, nl, (bf HB.out)⟩
 ·replace c4 := Bool.eq_false_iff.mpr c4; subst c4
  have H1 : (some (([] : List (S27)), 1)) = some (r1, r2) := by rw [if_neg (show ¬ (false = true) by decide)] at H; exact H
  clear H; have H := H1; clear H1; simp only [Option.some.injEq, Prod.mk.injEq] at H; obtain ⟨rfl, rfl⟩ := H
  go_enter Tryd.func19, Tryd.ntmps19
  go_wp2_with (first | ((with_reducible refine gd 2 rfl ?_); refine bx 2 25 (#[.slice a8 a3.length a9]) ?_; intro am hg w30 hbox hb; refine Ya4 (below_step (be HB.out) hb) (hbox) (bs hg (be HB.out)) (bs hg (be HB.out)) ?_; clear HB; intro HB a2 an ao; clear hb hbox hg) | ((with_reducible refine gd 4 rfl ?_); refine bx 4 25 (#[.slice none 0 0]) ?_; intro ad hg w31 hbox hb; refine Ya7 (bb a2 hb) (below_step (bf HB.out) hb) (hbox) (bs hg (bf HB.out)) (bs hg (bf HB.out)) (bl hg a2) (br hg a2) ?_; clear a2 HB; intro a2 HB a4 ap aq ae af; clear hb hbox hg; have hnb32 := ae.out; have hnc32 := af.out; have ⟨aM, aN⟩ := Yc1 a2.out) | ((with_reducible refine gc 18 rfl ?_); refine gl (some 9) _ (#[.agg #[.slice a8 a3.length a9]]) Tryd.func18 ?_; (with_reducible refine (impl_ValidTree.calls k _ _ a3 false _ ?sideG ?side1 ?side2 A3.out).mono ?_); (case sideG => exact gf HG.out HB.out); (case side1 => exact cb (Kd.C_below ab.out HB.out)); (case side2 => exact ac.out); rintro e w34 ⟨rfl, hb⟩; refine ⟨_, rfl, ?_⟩; refine Ya3 (bb a2 hb) (bb a4 hb) (below_step (bf HB.out) hb) ?_; clear a2 a4 HB; intro a2 a4 HB; (try clear hb); (try clear hb2); (try clear hk); (try clear hi); have ⟨aO, aP⟩ := Yc1 a4.out))
  refine bodyPost_ret (results_ct rfl _ _ ad 25 #[.slice none 0 0] (0, 0) _ rfl (bp a4.out) Tryd.underlying25 rfl (by kernel_rfl)) rfl ?_; exact ⟨_, Ye2, nl, (bf HB.out)⟩

end Go.Proofs.YtknagppkeodggaaDoor.P


namespace Go.Proofs.YtknagppkeodggaaDoor.P
open Go.RowKit Go.Proofs.YtknagppkeodggaaDoorW.PrintWords Go.Proofs.YtknagppkeodggaaDoorW.PrintLast Go.Proofs.YtknagppkeodggaaDoorW.PrintMore
attribute [local go_sem] max2_int min2_int max_two min_two max_three min_three max_four min_four
set_option linter.unusedVariables false
set_option linter.unusedSimpArgs false

attribute [local go_sem high] eqA27
/-! ### laws_wTree: function 16 -/
def laws_wTree.l0 : Nat → Int → List (S27) → List (S27) → Option (Bool)
 | 0, _, _, _ => none
 | k + 1, x5, ak, al => if x5 < (ak.length : Int) then (if 0 ≤ x5 then (if x5 < (al.length : Int) then (if (!((((rd_T27 ak x5).f0).toList) == (((rd_T27 al x5).f0).toList)) || (!((((rd_T27 ak x5).f1).toList) == (((rd_T27 al x5).f1).toList)) || (!(((rd_T27 ak x5).f2) == ((rd_T27 al x5).f2))))) = true then (some false) else (laws_wTree.l0 k (wrap64 (x5 + 1)) ak al)) else (none)) else (none)) else (some true)
def laws_wTree.f (k : Nat) (a4 : List (S27)) (a5 : List (S27)) : Option (Bool) := if (a4.length : Int) = (a5.length : Int) then (laws_wTree.l0 k 0 a4 a5) else (some false)
theorem laws_wTree.mono_l : ∀ k, (∀ y0 y1 y2, LeO (laws_wTree.l0 k y0 y1 y2) (laws_wTree.l0 (k + 1) y0 y1 y2))
 | 0 => fun _ _ _ r h => by simp [laws_wTree.l0] at h
 | k + 1 => by
  have ih0 := laws_wTree.mono_l k
  ·intro y0 y1 y2
   unfold laws_wTree.l0
   repeat' first
   | (with_reducible exact ih0 _ _ _)
   | (with_reducible exact LeO.refl _)
   | (with_reducible exact LeO.none _)
   | (with_reducible refine LeO.ite ?_ ?_)
   | (with_reducible refine LeO.bind ?_ (fun _ => ?_))
   | exact ih0 _ _ _
   | exact LeO.none _
   | refine LeO.ite ?_ ?_
   | refine LeO.bind ?_ (fun _ => ?_)
theorem laws_wTree.mono : ∀ a0 a1 k, LeO (laws_wTree.f k a0 a1) (laws_wTree.f (k + 1) a0 a1) := by
 intro a0 a1 k; have ih0 := laws_wTree.mono_l k
 unfold laws_wTree.f
 repeat' first
   | (with_reducible exact ih0 _ _ _)
   | (with_reducible exact LeO.refl _)
   | (with_reducible exact LeO.none _)
   | (with_reducible refine LeO.ite ?_ ?_)
   | (with_reducible refine LeO.bind ?_ (fun _ => ?_))
   | exact ih0 _ _ _
   | exact LeO.none _
   | refine LeO.ite ?_ ?_
   | refine LeO.bind ?_ (fun _ => ?_)
set_option maxHeartbeats 8000000 in
set_option maxRecDepth 100000 in
theorem laws_wTree.calls (k : Nat) (a9 : Option Addr) (aa : Nat) (a4 : List (S27)) (ab : Option Addr) (ac : Nat) (a5 : List (S27)) (r : Bool) (w : World) (az : Kd.C k27 w a9 a4.length a4) (aA : a4.length ≤ aa) (aB : Kd.C k27 w ab a5.length a5) (aC : a5.length ≤ ac) (h : laws_wTree.f k a4 a5 = some r) :
  Calls Tryd.prog 16 #[.agg #[.slice a9 a4.length aa], .agg #[.slice ab a5.length ac]] w fun e w' => e = .returned (.bool r) ∧ Below w.heap.size w w' := by
 have hu25 := Tryd.underlying25; have hu27 := Tryd.underlying27; have aD := Aside0.mk az; have HC0_0 := Aside0.mk aA; clear az aA; have aE := Aside0.mk aB; have HC1_0 := Aside0.mk aC; clear aB aC; have HB := Aside0.mk (Below.refl w.heap.size w); have H : (if (a4.length : Int) = (a5.length : Int) then (laws_wTree.l0 k 0 a4 a5) else (some false)) = some r := h; clear h
 by_cases c3 : (a4.length : Int) = (a5.length : Int)
 ·rw [if_pos c3] at H
  have aF : ((a4.length : Int) == (a5.length : Int)) = true := beq_iff_eq.mpr c3; have aG : ((a4.length : Int) != (a5.length : Int)) = false := bne_eq_false_iff_eq.mpr c3
  have aH : (a4.length == a5.length) = true := by first | simpa using c3 | (simp at c3 ⊢; omega)
  clear c3; have H' := Aside0.mk H; clear H
  go_enter Tryd.func16, Tryd.ntmps16
  go_wp2_with (first | ((with_reducible refine gd 2 rfl ?_); refine bx 2 25 (#[.slice a9 a4.length aa]) ?_; intro ah hg w4 hbox hb; refine Ya4 (below_step (be HB.out) hb) (hbox) (bs hg (be HB.out)) (bs hg (be HB.out)) ?_; clear HB; intro HB a2 am an; clear hb hbox hg) | ((with_reducible refine gd 3 rfl ?_); refine bx 3 25 (#[.slice ab a5.length ac]) ?_; intro ai hg w5 hbox hb; refine Ya7 (bb a2 hb) (below_step (bf HB.out) hb) (hbox) (bs hg (bf HB.out)) (bs hg (bf HB.out)) (bl hg a2) (br hg a2) ?_; clear a2 HB; intro a2 HB a6 ao ap a7 a8; clear hb hbox hg; have aI := a7.out; have aJ := a8.out; have ⟨ar, au⟩ := Yc1 a2.out; have ⟨av, aw⟩ := Yc1 a6.out))
  try have ⟨av, aw⟩ := Yc1 a6.out
  repeat (go_quiet (first | ((with_reducible refine gd 2 rfl ?_); refine bx 2 25 (#[.slice a9 a4.length aa]) ?_; intro ah hg w4 hbox hb; refine Ya4 (below_step (be HB.out) hb) (hbox) (bs hg (be HB.out)) (bs hg (be HB.out)) ?_; clear HB; intro HB a2 am an; clear hb hbox hg) | ((with_reducible refine gd 3 rfl ?_); refine bx 3 25 (#[.slice ab a5.length ac]) ?_; intro ai hg w5 hbox hb; refine Ya7 (bb a2 hb) (below_step (bf HB.out) hb) (hbox) (bs hg (bf HB.out)) (bs hg (bf HB.out)) (bl hg a2) (br hg a2) ?_; clear a2 HB; intro a2 HB a6 ao ap a7 a8; clear hb hbox hg; have aI := a7.out; have aJ := a8.out; have ⟨ar, au⟩ := Yc1 a2.out)); try go_wp2_with (first | ((with_reducible refine gd 2 rfl ?_); refine bx 2 25 (#[.slice a9 a4.length aa]) ?_; intro ah hg w4 hbox hb; refine Ya4 (below_step (be HB.out) hb) (hbox) (bs hg (be HB.out)) (bs hg (be HB.out)) ?_; clear HB; intro HB a2 am an; clear hb hbox hg) | ((with_reducible refine gd 3 rfl ?_); refine bx 3 25 (#[.slice ab a5.length ac]) ?_; intro ai hg w5 hbox hb; refine Ya7 (bb a2 hb) (below_step (bf HB.out) hb) (hbox) (bs hg (bf HB.out)) (bs hg (bf HB.out)) (bl hg a2) (br hg a2) ?_; clear a2 HB; intro a2 HB a6 ao ap a7 a8; clear hb hbox hg; have aI := a7.out; have aJ := a8.out; have ⟨ar, au⟩ := Yc1 a2.out; have ⟨av, aw⟩ := Yc1 a6.out)))
  go_loopg [5] k (fun kq v5 w' => ∃ (a3 : Int), v5 = .int .i64 a3 ∧ Aside0 (laws_wTree.l0 kq a3 a4 a5 = some r) ∧ Aside0 (kq ≤ k) ∧ Aside0 (w'.heap[ah]? = some (.cells #[(.slice a9 a4.length aa)] 25 (0, 0))) ∧ Aside0 (w'.heap[ai]? = some (.cells #[(.slice ab a5.length ac)] 25 (0, 0))) ∧ Aside0 (Below w.heap.size w w'))
  case atStart => exact ⟨(0), Ye1, H', ⟨Nat.le_refl _⟩, ⟨bk a2.out⟩, ⟨bk a6.out⟩, ⟨bf HB.out⟩⟩
  case round =>
   clear H'; (try clear c1); (try clear p2); (try clear c3); (try clear aF); (try clear aG); (try clear aH); (try clear c6); (try clear ar); (try clear av); (try clear au); (try clear aw); obtain ⟨a3, rfl, HA, HK1, a2, a6, HB⟩ := hrel
   cases gk with
   | zero => exact absurd HA.out (by simp [laws_wTree.l0])
   | succ k1 =>
    have H := HA.out; clear HA; simp only [laws_wTree.l0] at H
    by_cases c9 : a3 < (a4.length : Int)
    ·rw [if_pos c9] at H
     have aQ : decide (a3 < (a4.length : Int)) = true := decide_eq_true c9; clear c9
     by_cases c10 : 0 ≤ a3
     ·rw [if_pos c10] at H
      have c10b0 : decide (0 ≤ a3) = true := decide_eq_true c10; clear c10
      by_cases aq : a3 < (a5.length : Int)
      ·rw [if_pos aq] at H
       have c11b0 : decide (a3 < (a5.length : Int)) = true := decide_eq_true aq; clear aq
       by_cases aj : (!((((rd_T27 a4 a3).f0).toList) == (((rd_T27 a5 a3).f0).toList)) || (!((((rd_T27 a4 a3).f1).toList) == (((rd_T27 a5 a3).f1).toList)) || (!(((rd_T27 a4 a3).f2) == ((rd_T27 a5 a3).f2))))) = true
       ·rw [if_pos aj] at H
        have aR : (!((((rd_T27 a4 a3).f0).toList) == (((rd_T27 a5 a3).f0).toList)) || (!((((rd_T27 a4 a3).f1).toList) == (((rd_T27 a5 a3).f1).toList)) || (!(((rd_T27 a4 a3).f2) == ((rd_T27 a5 a3).f2))))) = true := aj; clear aj; obtain rfl := Option.some.inj H; have hnb13 := a7.out; have hnc13 := a8.out; have ⟨b0, b1⟩ := Yc1 a2.out; have ad : 0 ≤ (a3 : Int) := oda; have ae : a3 < (a4.length : Int) := oda; obtain ⟨aS, ax, aT, aU, aV⟩ := at_T27 (Kd.C_below aD.out HB.out) a3 ad ae
        cases ax
        replace ad := eq_true ad; replace ae := eq_true ae; have ⟨b2, b3⟩ := Yc1 a6.out; have af : 0 ≤ (a3 : Int) := oda; have ag : a3 < (a5.length : Int) := oda; obtain ⟨aW, ay, aX, aY, aZ⟩ := at_T27 (Kd.C_below aE.out HB.out) a3 af ag
        cases ay
        replace af := eq_true af; replace ag := eq_true ag
        go_wp2
        repeat (go_quiet (fail); try go_wp2)
        go_ret
        exact ⟨Ye2, (bf HB.out)⟩
       ·rw [if_neg aj] at H
        have aR : (!((((rd_T27 a4 a3).f0).toList) == (((rd_T27 a5 a3).f0).toList)) || (!((((rd_T27 a4 a3).f1).toList) == (((rd_T27 a5 a3).f1).toList)) || (!(((rd_T27 a4 a3).f2) == ((rd_T27 a5 a3).f2))))) = false := by simpa using aj
        clear aj; have H' := Aside0.mk H; clear H; have hnb16 := a7.out; have hnc16 := a8.out; have ⟨b4, b5⟩ := Yc1 a2.out; have ad : 0 ≤ (a3 : Int) := oda; have ae : a3 < (a4.length : Int) := oda; obtain ⟨aS, ax, aT, aU, aV⟩ := at_T27 (Kd.C_below aD.out HB.out) a3 ad ae
        cases ax
        replace ad := eq_true ad; replace ae := eq_true ae; have ⟨b6, b7⟩ := Yc1 a6.out; have af : 0 ≤ (a3 : Int) := oda; have ag : a3 < (a5.length : Int) := oda; obtain ⟨aW, ay, aX, aY, aZ⟩ := at_T27 (Kd.C_below aE.out HB.out) a3 af ag
        cases ay
        replace af := eq_true af; replace ag := eq_true ag
        go_wp2
        repeat (go_quiet (fail); try go_wp2)
        go_roundg k1
        case measure => have := HK1.out; omega
        case rel => exact ⟨(wrap64 (a3 + 1)), Ye1, H', ⟨by have := HK1.out; omega⟩, ⟨bk a2.out⟩, ⟨bk a6.out⟩, ⟨bf HB.out⟩⟩
      ·rw [if_neg aq] at H
       exact absurd H (by simp)
     ·rw [if_neg c10] at H
      exact absurd H (by simp)
    ·rw [if_neg c9] at H
     have aQ : decide (a3 < (a4.length : Int)) = false := decide_eq_false c9; clear c9; obtain rfl := Option.some.inj H; have hnb19 := a7.out; have hnc19 := a8.out; have ⟨b8, b9⟩ := Yc1 a2.out
     go_wp2
     repeat (go_quiet (fail); try go_wp2)
     go_ret
     exact ⟨Ye2, (bf HB.out)⟩
 ·rw [if_neg c3] at H
  have aF : ((a4.length : Int) == (a5.length : Int)) = false := beq_eq_false_iff_ne.mpr c3; have aG : ((a4.length : Int) != (a5.length : Int)) = true := bne_iff_ne.mpr c3
  have aH : (a4.length == a5.length) = false := by first | simpa using c3 | (simp at c3 ⊢; omega)
  obtain rfl := Option.some.inj H
  go_enter Tryd.func16, Tryd.ntmps16
  go_wp2_with (first | ((with_reducible refine gd 2 rfl ?_); refine bx 2 25 (#[.slice a9 a4.length aa]) ?_; intro ah hg w21 hbox hb; refine Ya4 (below_step (be HB.out) hb) (hbox) (bs hg (be HB.out)) (bs hg (be HB.out)) ?_; clear HB; intro HB a2 am an; clear hb hbox hg) | ((with_reducible refine gd 3 rfl ?_); refine bx 3 25 (#[.slice ab a5.length ac]) ?_; intro ai hg w22 hbox hb; refine Ya7 (bb a2 hb) (below_step (bf HB.out) hb) (hbox) (bs hg (bf HB.out)) (bs hg (bf HB.out)) (bl hg a2) (br hg a2) ?_; clear a2 HB; intro a2 HB a6 ao ap a7 a8; clear hb hbox hg; have aK := a7.out; have aL := a8.out; have ⟨aM, aN⟩ := Yc1 a2.out; have ⟨aO, aP⟩ := Yc1 a6.out))
  try have ⟨aO, aP⟩ := Yc1 a6.out
  repeat (go_quiet (first | ((with_reducible refine gd 2 rfl ?_); refine bx 2 25 (#[.slice a9 a4.length aa]) ?_; intro ah hg w21 hbox hb; refine Ya4 (below_step (be HB.out) hb) (hbox) (bs hg (be HB.out)) (bs hg (be HB.out)) ?_; clear HB; intro HB a2 am an; clear hb hbox hg) | ((with_reducible refine gd 3 rfl ?_); refine bx 3 25 (#[.slice ab a5.length ac]) ?_; intro ai hg w22 hbox hb; refine Ya7 (bb a2 hb) (below_step (bf HB.out) hb) (hbox) (bs hg (bf HB.out)) (bs hg (bf HB.out)) (bl hg a2) (br hg a2) ?_; clear a2 HB; intro a2 HB a6 ao ap a7 a8; clear hb hbox hg; have aK := a7.out; have aL := a8.out; have ⟨aM, aN⟩ := Yc1 a2.out)); try go_wp2_with (first | ((with_reducible refine gd 2 rfl ?_); refine bx 2 25 (#[.slice a9 a4.length aa]) ?_; intro ah hg w21 hbox hb; refine Ya4 (below_step (be HB.out) hb) (hbox) (bs hg (be HB.out)) (bs hg (be HB.out)) ?_; clear HB; intro HB a2 am an; clear hb hbox hg) | ((with_reducible refine gd 3 rfl ?_); refine bx 3 25 (#[.slice ab a5.length ac]) ?_; intro ai hg w22 hbox hb; refine Ya7 (bb a2 hb) (below_step (bf HB.out) hb) (hbox) (bs hg (bf HB.out)) (bs hg (bf HB.out)) (bl hg a2) (br hg a2) ?_; clear a2 HB; intro a2 HB a6 ao ap a7 a8; clear hb hbox hg; have aK := a7.out; have aL := a8.out; have ⟨aM, aN⟩ := Yc1 a2.out; have ⟨aO, aP⟩ := Yc1 a6.out)))
  go_ret
  exact ⟨Ye2, (bf HB.out)⟩

end Go.Proofs.YtknagppkeodggaaDoor.P


namespace Go.Proofs.YtknagppkeodggaaDoor.P
open Go.RowKit Go.Proofs.YtknagppkeodggaaDoorW.PrintWords Go.Proofs.YtknagppkeodggaaDoorW.PrintLast Go.Proofs.YtknagppkeodggaaDoorW.PrintMore
attribute [local go_sem] max2_int min2_int max_two min_two max_three min_three max_four min_four
set_option linter.unusedVariables false
set_option linter.unusedSimpArgs false

/-! ### spec_l1Many: function 68 -/
def spec_l1Many.l0 : Nat → ByteArray → Int → ByteArray → Option (ByteArray)
 | 0, _, _, _ => none
 | k + 1, x0, x1, x5 => if x1 > 0 then (if (Int.tmod x1 2) = 1 then (if x5.size + x0.size ≤ 9223372036854775807 then (if x0.size + x0.size ≤ 9223372036854775807 then (spec_l1Many.l0 k (x0 ++ x0) (wrap64 (Int.tdiv x1 2)) (x5 ++ x0)) else (none)) else (none)) else (if x0.size + x0.size ≤ 9223372036854775807 then (spec_l1Many.l0 k (x0 ++ x0) (wrap64 (Int.tdiv x1 2)) x5) else (none))) else (some x5)
def spec_l1Many.f (k : Nat) (a0 : ByteArray) (a1 : Int) : Option (ByteArray) := spec_l1Many.l0 k a0 a1 (⟨#[]⟩ : ByteArray)
theorem spec_l1Many.mono_l : ∀ k, (∀ y0 y1 y2, LeO (spec_l1Many.l0 k y0 y1 y2) (spec_l1Many.l0 (k + 1) y0 y1 y2))
 | 0 => fun _ _ _ r h => by simp [spec_l1Many.l0] at h
 | k + 1 => by
  have ih0 := spec_l1Many.mono_l k
  ·intro y0 y1 y2
   unfold spec_l1Many.l0
   repeat' first
   | (with_reducible exact ih0 _ _ _)
   | (with_reducible exact LeO.refl _)
   | (with_reducible exact LeO.none _)
   | (with_reducible refine LeO.ite ?_ ?_)
   | (with_reducible refine LeO.bind ?_ (fun _ => ?_))
   | exact ih0 _ _ _
   | exact LeO.none _
   | refine LeO.ite ?_ ?_
   | refine LeO.bind ?_ (fun _ => ?_)
theorem spec_l1Many.mono : ∀ a0 a1 k, LeO (spec_l1Many.f k a0 a1) (spec_l1Many.f (k + 1) a0 a1) := by
 intro a0 a1 k; have ih0 := spec_l1Many.mono_l k
 unfold spec_l1Many.f
 repeat' first
   | (with_reducible exact ih0 _ _ _)
   | (with_reducible exact LeO.refl _)
   | (with_reducible exact LeO.none _)
   | (with_reducible refine LeO.ite ?_ ?_)
   | (with_reducible refine LeO.bind ?_ (fun _ => ?_))
   | exact ih0 _ _ _
   | exact LeO.none _
   | refine LeO.ite ?_ ?_
   | refine LeO.bind ?_ (fun _ => ?_)
set_option maxHeartbeats 8000000 in
set_option maxRecDepth 100000 in
theorem spec_l1Many.calls (k : Nat) (a0 : ByteArray) (a1 : Int) (r : ByteArray) (w : World) (h : spec_l1Many.f k a0 a1 = some r) :
  Calls Tryd.prog 68 #[.string a0, .int .i64 a1] w fun e w' => e = .returned (.string r) ∧ Drawn0 w w' := by
 have H : (spec_l1Many.l0 k a0 a1 (⟨#[]⟩ : ByteArray)) = some r := h; clear h; have H' := Aside0.mk H; clear H
 go_enter Tryd.func68, Tryd.ntmps68
 go_wp2
 go_loopg [0, 1, 5] k (fun kq v0 v1 v5 w' => ∃ (a2 : ByteArray) (a3 : Int) (a4 : ByteArray), v0 = .string a2 ∧ v1 = .int .i64 a3 ∧ v5 = .string a4 ∧ Aside0 (spec_l1Many.l0 kq a2 a3 a4 = some r) ∧ Aside0 (kq ≤ k) ∧ Drawn0 w w')
 case atStart => exact ⟨(a0), (a1), ((⟨#[]⟩ : ByteArray)), Ye1, Ye1, Ye1, H', ⟨Nat.le_refl _⟩, dz⟩
 case round =>
  clear H'; (try clear p2); obtain ⟨a2, a3, a4, rfl, rfl, rfl, HA, HK1, ⟨m1, rfl⟩⟩ := hrel
  cases gk with
  | zero => exact absurd HA.out (by simp [spec_l1Many.l0])
  | succ k1 =>
   have H := HA.out; clear HA; simp only [spec_l1Many.l0] at H
   by_cases c3 : a3 > 0
   ·rw [if_pos c3] at H
    have a5 : decide (0 < a3) = true := decide_eq_true c3; clear c3
    by_cases c4 : (Int.tmod a3 2) = 1
    ·rw [if_pos c4] at H
     have a6 : ((Int.tmod a3 2) == 1) = true := beq_iff_eq.mpr c4; have a7 : ((Int.tmod a3 2) != 1) = false := bne_eq_false_iff_eq.mpr c4; clear c4
     by_cases c5 : a4.size + a2.size ≤ 9223372036854775807
     ·rw [if_pos c5] at H
      have c5b0 := eq_true c5; have c5b1 : decide (a4.size + a2.size ≤ 9223372036854775807) = true := decide_eq_true c5
      try have c5b2 : (9223372036854775807 < a4.size + a2.size) = False := eq_false (Nat.not_lt.2 c5)
      by_cases c6 : a2.size + a2.size ≤ 9223372036854775807
      ·rw [if_pos c6] at H
       have c6b0 := eq_true c6; have c6b1 : decide (a2.size + a2.size ≤ 9223372036854775807) = true := decide_eq_true c6
       try have c6b2 : (9223372036854775807 < a2.size + a2.size) = False := eq_false (Nat.not_lt.2 c6)
       have H' := Aside0.mk H; clear H
       go_wp2
       go_roundg k1
       case measure => have := HK1.out; omega
       case rel => exact ⟨(a2 ++ a2), (wrap64 (Int.tdiv a3 2)), (a4 ++ a2), Ye1, Ye1, Ye1, H', ⟨by have := HK1.out; omega⟩, dz⟩
      ·rw [if_neg c6] at H
       exact absurd H (by simp)
     ·rw [if_neg c5] at H
      exact absurd H (by simp)
    ·rw [if_neg c4] at H
     have a6 : ((Int.tmod a3 2) == 1) = false := beq_eq_false_iff_ne.mpr c4; have a7 : ((Int.tmod a3 2) != 1) = true := bne_iff_ne.mpr c4
     by_cases c7 : a2.size + a2.size ≤ 9223372036854775807
     ·rw [if_pos c7] at H
      have c7b0 := eq_true c7; have c7b1 : decide (a2.size + a2.size ≤ 9223372036854775807) = true := decide_eq_true c7
      try have c7b2 : (9223372036854775807 < a2.size + a2.size) = False := eq_false (Nat.not_lt.2 c7)
      have H' := Aside0.mk H; clear H
      go_wp2
      go_roundg k1
      case measure => have := HK1.out; omega
      case rel => exact ⟨(a2 ++ a2), (wrap64 (Int.tdiv a3 2)), (a4), Ye1, Ye1, Ye1, H', ⟨by have := HK1.out; omega⟩, dz⟩
     ·rw [if_neg c7] at H
      exact absurd H (by simp)
   ·rw [if_neg c3] at H
    have a5 : decide (0 < a3) = false := decide_eq_false c3; clear c3; obtain rfl := Option.some.inj H
    go_wp2
    go_ret
    exact ⟨Ye1, dz⟩

end Go.Proofs.YtknagppkeodggaaDoor.P


namespace Go.Proofs.YtknagppkeodggaaDoor.P
open Go.RowKit Go.Proofs.YtknagppkeodggaaDoorW.PrintWords Go.Proofs.YtknagppkeodggaaDoorW.PrintLast Go.Proofs.YtknagppkeodggaaDoorW.PrintMore
attribute [local go_sem] max2_int min2_int max_two min_two max_three min_three max_four min_four
set_option linter.unusedVariables false
set_option linter.unusedSimpArgs false

/-- A state of type 173 at block g of W; what its slices lead to came in by w0. -/
def IsS173 (w0 W : World) (g : Nat) (f0 : List Int) (f1 : Int) : Prop := ∃ A0 c0, W.heap[g]? = some (.cells #[.slice A0 f0.length c0, .int .i64 f1] 173 (0, 0)) ∧ w0.heap.size ≤ g ∧ Kd.C (Kd.int .u8) w0 A0 f0.length f0
theorem IsS173.grown {w0 W : World} {g : Nat} {f0 : List Int} {f1 : Int} {W1 : World} {row : Option Nat} (h : IsS173 w0 W g f0 f1) (hw : W.grownBy W1 row) (hne : some g ≠ row) : IsS173 w0 W1 g f0 f1 := by
 obtain ⟨A0, c0, hb, hg, hr0⟩ := h
 exact ⟨A0, c0, blk_grown hb hw hne, hg, hr0⟩
theorem IsS173.own_neN {w0 W : World} {g : Nat} {f0 : List Int} {f1 : Int} {α : Type} {d : Kd α} {e : Nat} {base : Nat} {ok : Nat → Prop} {v : Value} {xs : List α} (h : IsS173 w0 W g f0 f1) (ho : Kd.N d e W base ok v xs) (ht : e ≠ 173) : some g ≠ v.ownBlock := by
 obtain ⟨A0, c0, hb, hg, hr0⟩ := h
 exact Kd.N_ne ho hb ht
theorem IsS173.fresh {w0 W : World} {g : Nat} {f0 : List Int} {f1 : Int} (h : IsS173 w0 W g f0 f1) : ∀ k, W.heap.size ≤ k → k ≠ g := by
 obtain ⟨A0, c0, hb, hg, hr0⟩ := h
 exact Kd.freshB hb
theorem IsS173.kept {w0 W : World} {g : Nat} {f0 : List Int} {f1 : Int} {W1 : World} {S : Nat → Prop} (h : IsS173 w0 W g f0 f1) (hk : Kept W W1 S) (hne : ¬ S g) : IsS173 w0 W1 g f0 f1 := by
 obtain ⟨A0, c0, hb, hg, hr0⟩ := h
 exact ⟨A0, c0, blk_kept hb hk hne, hg, hr0⟩
theorem IsS173.below {w0 W : World} {g : Nat} {f0 : List Int} {f1 : Int} {W1 : World} (h : IsS173 w0 W g f0 f1) (hw : Below W.heap.size W W1) : IsS173 w0 W1 g f0 f1 := h.grown (grown_of_below hw none) (by simp)
theorem IsS173.alloc {w0 W : World} {g : Nat} {f0 : List Int} {f1 : Int} (h : IsS173 w0 W g f0 f1) (o : Obj) : IsS173 w0 (W.alloc o) g f0 f1 := h.below (below_alloc (Below.refl _ _) o)
theorem IsS173.drewN {w0 W : World} {g : Nat} {f0 : List Int} {f1 : Int} (h : IsS173 w0 W g f0 f1) (m : Nat) : IsS173 w0 (W.drewN m) g f0 f1 := h
theorem IsS173.drew {w0 W : World} {g : Nat} {f0 : List Int} {f1 : Int} (h : IsS173 w0 W g f0 f1) : IsS173 w0 W.drew g f0 f1 := h
theorem IsS173.at_ {w0 W : World} {g : Nat} {f0 : List Int} {f1 : Int} {w' : World} {m : Nat} (hq : W.drewN m = w') (h : IsS173 w0 W g f0 f1) : IsS173 w0 w' g f0 f1 := by subst hq; exact IsS173.drewN h m
theorem IsS173.apart {w0 W : World} {g : Nat} {f0 : List Int} {f1 : Int} {α : Type} {d : Kd α} {e : Nat} {base : Nat} {ok : Nat → Prop} {v : Value} {xs : List α} (h : IsS173 w0 W g f0 f1) (ho : d.R e W base ok v xs) (ht : ∀ q, q ∈ e :: d.E → q ≠ 173) : d.R e W base (fun k => ok k ∧ k ≠ g) v xs := by
 obtain ⟨A0, c0, hb, hg, hr0⟩ := h
 exact Kd.R_types ho hb ht
theorem IsS173.own_ne {w0 W : World} {g : Nat} {f0 : List Int} {f1 : Int} {α : Type} {d : Kd α} {e : Nat} {base : Nat} {ok : Nat → Prop} {v : Value} {xs : List α} (h : IsS173 w0 W g f0 f1) (ho : d.R e W base ok v xs) (ht : e ≠ 173) : some g ≠ v.ownBlock := by
 obtain ⟨A0, c0, hb, hg, hr0⟩ := h
 exact Kd.R_ne ho hb ht
theorem IsS173.apartQ {w0 W : World} {g : Nat} {f0 : List Int} {f1 : Int} {α : Type} {d : Kd α} {e : Nat} {base : Nat} {ok : Nat → Prop} {v : Value} {xs : List α} (h : IsS173 w0 W g f0 f1) (ho : d.Q e W base ok v xs) (ht : ∀ q, q ∈ e :: d.E → q ≠ 173) : d.Q e W base (fun k => ok k ∧ k ≠ g) v xs := by
 obtain ⟨A0, c0, hb, hg, hr0⟩ := h
 exact Kd.Q_types ho hb ht
theorem IsS173.own_neQ {w0 W : World} {g : Nat} {f0 : List Int} {f1 : Int} {α : Type} {d : Kd α} {e : Nat} {base : Nat} {ok : Nat → Prop} {v : Value} {xs : List α} (h : IsS173 w0 W g f0 f1) (ho : d.Q e W base ok v xs) (ht : e ≠ 173) : some g ≠ v.ownBlock := by
 obtain ⟨A0, c0, hb, hg, hr0⟩ := h
 exact Kd.Q_ne ho hb ht
theorem IsS173.apartS {w0 W : World} {g : Nat} {f0 : List Int} {f1 : Int} {α : Type} {d : Kd α} {e : Nat} {base : Nat} {ok : Nat → Prop} {v : Value} {xs : List α} (h : IsS173 w0 W g f0 f1) (ho : d.S e W base ok v xs) (ht : ∀ q, q ∈ e :: d.E → q ≠ 173) : d.S e W base (fun k => ok k ∧ k ≠ g) v xs := by
 obtain ⟨A0, c0, hb, hg, hr0⟩ := h
 exact Kd.S_types ho hb ht
theorem IsS173.own_neS {w0 W : World} {g : Nat} {f0 : List Int} {f1 : Int} {α : Type} {d : Kd α} {e : Nat} {base : Nat} {ok : Nat → Prop} {v : Value} {xs : List α} (h : IsS173 w0 W g f0 f1) (ho : d.S e W base ok v xs) (ht : e ≠ 173) : some g ≠ v.ownBlock := by
 obtain ⟨A0, c0, hb, hg, hr0⟩ := h
 exact Kd.S_ne ho hb ht
theorem IsS173.lt {w0 W : World} {g : Nat} {f0 : List Int} {f1 : Int} (h : IsS173 w0 W g f0 f1) : g < W.heap.size := by
 obtain ⟨A0, c0, hb, hg, hr0⟩ := h
 exact blk_lt hb
theorem IsS173.ge {w0 W : World} {g : Nat} {f0 : List Int} {f1 : Int} (h : IsS173 w0 W g f0 f1) : w0.heap.size ≤ g := by
 obtain ⟨A0, c0, hb, hg, hr0⟩ := h
 exact hg
theorem IsS173.ne_blk {w0 W : World} {g : Nat} {f0 : List Int} {f1 : Int} {a : Nat} {cs : Array Value} {t : TypeId} {fr : Nat × Nat} (h : IsS173 w0 W g f0 f1) (hb2 : W.heap[a]? = some (.cells cs t fr)) (ht : t ≠ 173) : g ≠ a := by
 obtain ⟨A0, c0, hb, hg, hr0⟩ := h
 rintro rfl
 rw [hb] at hb2
 injection hb2 with hb2
 injection hb2 with _ ht2
 exact ht ht2.symm
theorem IsS173.far {w0 W : World} {g : Nat} {f0 : List Int} {f1 : Int} {p : Addr} (h : IsS173 w0 W g f0 f1) (hne : g ≠ p.block) (u : Value) : IsS173 w0 (W.setCell p u) g f0 f1 := by
 obtain ⟨A0, c0, hb, hg, hr0⟩ := h
 exact ⟨A0, c0, blk_far hb hne u, hg, hr0⟩
theorem cellS173_0 {W : World} {g : Nat} {A0 : Option Addr} {c0 : Nat} {f0 : List Int} {f1 : Int} (h : W.heap[g]? = some (.cells #[.slice A0 f0.length c0, .int .i64 f1] 173 (0, 0))) : W.cell? ⟨g, 0, none⟩ = some (.slice A0 f0.length c0) := (blk_cell h 0).trans rfl
theorem cellS173_1 {W : World} {g : Nat} {A0 : Option Addr} {c0 : Nat} {f0 : List Int} {f1 : Int} (h : W.heap[g]? = some (.cells #[.slice A0 f0.length c0, .int .i64 f1] 173 (0, 0))) : W.cell? ⟨g, 1, none⟩ = some (.int .i64 f1) := (blk_cell h 1).trans rfl
theorem IsS173.set_1 {w0 W : World} {g : Nat} {f0 : List Int} {f1 : Int} (h : IsS173 w0 W g f0 f1) (x : Int) : IsS173 w0 (W.setCell ⟨g, 1, none⟩ (.int .i64 x)) g f0 x := by
 obtain ⟨A0, c0, hb, hg, hr0⟩ := h
 exact ⟨A0, c0, by simpa using blk_set hb 1 (.int .i64 x), hg, hr0⟩
theorem IsS173.new (w0 W : World) (A0 : Option Addr) (c0 : Nat) (f0 : List Int) (f1 : Int) (hB : Below w0.heap.size w0 W) (hr0 : Kd.C (Kd.int .u8) w0 A0 f0.length f0) : IsS173 w0 (W.alloc (.cells #[.slice A0 f0.length c0, .int .i64 f1] 173)) W.heap.size f0 f1 := ⟨A0, c0, by simpa using heap_alloc_new W _, hB.size, hr0⟩

/-! ### spec_l1Open: function 62 -/
def spec_l1Open.f (l0 : List Int) : Option (List Int × Int) := if (l0.length : Int) > 2000 then (if 2000 ≤ (l0.length : Int) then (some (l0.take 2000, 0)) else (none)) else (some (l0, 0))
set_option maxHeartbeats 8000000 in
set_option maxRecDepth 100000 in
theorem spec_l1Open.calls (A0 : Option Addr) (c0 : Nat) (l0 : List Int) (r1 : List Int) (r2 : Int) (w0 w : World) (hB : Below w0.heap.size w0 w) (hr0 : Kd.C (Kd.int .u8) w0 A0 l0.length l0) (hc0 : l0.length ≤ c0) (h : spec_l1Open.f l0 = some (r1, r2)) :
  Calls Tryd.prog 62 #[.slice A0 l0.length c0] w fun e w' => ∃ g_ : Nat, e = .returned (.pointer (some ⟨g_, 0, none⟩)) ∧ IsS173 w0 w' g_ r1 r2 ∧ Below w0.heap.size w0 w' ∧ Below w.heap.size w w' := by
 have hu173 := Tryd.underlying173; have HR0 := Aside0.mk hr0; have HC0 := Aside0.mk hc0; clear hr0 hc0; have HBW := Aside0.mk (Below.refl w.heap.size w); have HW0 := Aside0.mk hB.size; have HB := Aside0.mk hB; clear hB; have H : (if (l0.length : Int) > 2000 then (if 2000 ≤ (l0.length : Int) then (some (l0.take 2000, 0)) else (none)) else (some (l0, 0))) = some (r1, r2) := h; clear h
 by_cases c2 : (l0.length : Int) > 2000
 ·rw [if_pos c2] at H
  have a4 : decide (2000 < (l0.length : Int)) = true := decide_eq_true c2; have a5 : decide (2000 < l0.length) = true := decide_eq_true (by omega); clear c2
  by_cases c3 : 2000 ≤ (l0.length : Int)
  ·rw [if_pos c3] at H
   have c3b0 := eq_true c3; have c3b1 : decide (2000 ≤ (l0.length : Int)) = true := decide_eq_true c3; clear c3; simp only [Option.some.injEq, Prod.mk.injEq] at H; obtain ⟨rfl, rfl⟩ := H; obtain ⟨i04, hi04, _, hsz4, _⟩ := info_parts info5; obtain ⟨hcut4, hA4, hC4⟩ := print_take_of (P := Tryd.prog) (Value.int .u8) 0 22 5 .i64 Tryd.underlying22 hi04 hsz4 A0 c0 l0 2000 (by omega) (oda) HC0.out; have a6 := Aside0.mk (Kd.C_of_reads (h1 := fun _ => rfl) (hA4 _ (Kd.reads_of_C HR0.out))); have HC101 := Aside0.mk hC4; clear hA4 hC4 hi04 hsz4
   go_enter Tryd.func62, Tryd.ntmps62
   go_wp2_with (first | ((with_reducible refine gd 10 rfl ?_); refine bx 10 173 (#[.slice A0 (l0.take 2000).length c0, .int .i64 0]) ?_; intro a0 hg w5 hbox hb; refine Ya5 (below_step HBW.out hb) (below_step (be HB.out) hb) (hbox) (bs hg (be HBW.out)) ((Nat.le_trans HW0.out (bs hg (be HBW.out)) : w0.heap.size ≤ a0)) ?_; clear HBW HB; intro HBW HB a7 a8 a1; clear hb hbox hg))
   go_ret
   exact ⟨_, rfl, (show IsS173 w0 _ a0 (l0.take 2000) 0 from ⟨_, _, bk a7.out, a1.out, a6.out⟩), (by first | exact be1 HB.out a1.out | exact be HB.out), (by first | exact be1 HBW.out a8.out | exact be HBW.out)⟩
  ·rw [if_neg c3] at H
   exact absurd H (by simp)
 ·rw [if_neg c2] at H
  have a4 : decide (2000 < (l0.length : Int)) = false := decide_eq_false c2; have a5 : decide (2000 < l0.length) = false := decide_eq_false (by omega); clear c2; simp only [Option.some.injEq, Prod.mk.injEq] at H; obtain ⟨rfl, rfl⟩ := H
  go_enter Tryd.func62, Tryd.ntmps62
  go_wp2_with (first | ((with_reducible refine gd 10 rfl ?_); refine bx 10 173 (#[.slice A0 l0.length c0, .int .i64 0]) ?_; intro a2 hg w6 hbox hb; refine Ya5 (below_step HBW.out hb) (below_step (be HB.out) hb) (hbox) (bs hg (be HBW.out)) ((Nat.le_trans HW0.out (bs hg (be HBW.out)) : w0.heap.size ≤ a2)) ?_; clear HBW HB; intro HBW HB a9 aa a3; clear hb hbox hg))
  go_ret
  exact ⟨_, rfl, (show IsS173 w0 _ a2 l0 0 from ⟨_, _, bk a9.out, a3.out, HR0.out⟩), (by first | exact be1 HB.out a3.out | exact be HB.out), (by first | exact be1 HBW.out aa.out | exact be HBW.out)⟩

end Go.Proofs.YtknagppkeodggaaDoor.P


namespace Go.Proofs.YtknagppkeodggaaDoor.P
open Go.RowKit Go.Proofs.YtknagppkeodggaaDoorW.PrintWords Go.Proofs.YtknagppkeodggaaDoorW.PrintLast Go.Proofs.YtknagppkeodggaaDoorW.PrintMore
attribute [local go_sem] max2_int min2_int max_two min_two max_three min_three max_four min_four
set_option linter.unusedVariables false
set_option linter.unusedSimpArgs false

/-! ### spec_l5Set: function 73 -/
mutual
def spec_l5Set.l0 : Nat → Bool → Int → List (S27) → ByteArray → ByteArray → Bool → List (S27) → Option ((List (S27)))
 | 0, _, _, _, _, _, _, _ => none
 | k + 1, x6, x7, ai, ao, aC, aD, aw => if x7 < (ai.length : Int) then (if x6 = true then (spec_l5Set.j1 k x6 x7 false ai ao aC aD aw) else (if 0 ≤ x7 then (spec_l5Set.j1 k x6 x7 (!(Op.bytesLess (((rd_T27 ai x7).f0).toList) ao.toList)) ai ao aC aD aw) else (none))) else (if x6 = true then (some aw) else (if aw.length < 3518437208883 then (some (aw ++ [(⟨ao, aC, aD⟩ : S27)])) else (none)))
def spec_l5Set.j1 : Nat → Bool → Int → Bool → List (S27) → ByteArray → ByteArray → Bool → List (S27) → Option ((List (S27)))
 | 0, _, _, _, _, _, _, _, _ => none
 | k + 1, x6, x7, x28, ai, ao, aC, aD, aw => if x28 = true then (if aw.length < 3518437208883 then ((some (aw ++ [(⟨ao, aC, aD⟩ : S27)] : List (S27))).bind fun ab => (if 0 ≤ x7 then (if x7 < (ai.length : Int) then (if ((rd_T27 ai x7).f0).toList = ao.toList then (spec_l5Set.l0 k true (wrap64 (x7 + 1)) ai ao aC aD ab) else (if ab.length < 3518437208883 then (spec_l5Set.l0 k true (wrap64 (x7 + 1)) ai ao aC aD (ab ++ [(⟨(rd_T27 ai x7).f0, (rd_T27 ai x7).f1, (rd_T27 ai x7).f2⟩ : S27)])) else (none))) else (none)) else (none))) else (none)) else (if 0 ≤ x7 then (if x7 < (ai.length : Int) then (if ((rd_T27 ai x7).f0).toList = ao.toList then (spec_l5Set.l0 k x6 (wrap64 (x7 + 1)) ai ao aC aD aw) else (if aw.length < 3518437208883 then (spec_l5Set.l0 k x6 (wrap64 (x7 + 1)) ai ao aC aD (aw ++ [(⟨(rd_T27 ai x7).f0, (rd_T27 ai x7).f1, (rd_T27 ai x7).f2⟩ : S27)])) else (none))) else (none)) else (none))
end
def spec_l5Set.f (k : Nat) (a5 : List (S27)) (a1_0 : ByteArray) (a1_1 : ByteArray) (a1_2 : Bool) : Option ((List (S27))) := spec_l5Set.l0 k false 0 a5 a1_0 a1_1 a1_2 ([] : List (S27))
theorem spec_l5Set.mono_l : ∀ k, (∀ y0 y1 y2 y3 y4 y5 y6, LeO (spec_l5Set.l0 k y0 y1 y2 y3 y4 y5 y6) (spec_l5Set.l0 (k + 1) y0 y1 y2 y3 y4 y5 y6)) ∧ (∀ y0 y1 y2 y3 y4 y5 y6 y7, LeO (spec_l5Set.j1 k y0 y1 y2 y3 y4 y5 y6 y7) (spec_l5Set.j1 (k + 1) y0 y1 y2 y3 y4 y5 y6 y7))
 | 0 => ⟨fun _ _ _ _ _ _ _ r h => by simp [spec_l5Set.l0] at h, fun _ _ _ _ _ _ _ _ r h => by simp [spec_l5Set.j1] at h⟩
 | k + 1 => by
  obtain ⟨ih0, ih1⟩ := spec_l5Set.mono_l k; refine ⟨?_, ?_⟩
  ·intro y0 y1 y2 y3 y4 y5 y6
   unfold spec_l5Set.l0
   repeat' first
   | (with_reducible exact ih0 _ _ _ _ _ _ _)
   | (with_reducible exact ih1 _ _ _ _ _ _ _ _)
   | (with_reducible exact LeO.refl _)
   | (with_reducible exact LeO.none _)
   | (with_reducible refine LeO.ite ?_ ?_)
   | (with_reducible refine LeO.bind ?_ (fun _ => ?_))
   | exact ih0 _ _ _ _ _ _ _
   | exact ih1 _ _ _ _ _ _ _ _
   | exact LeO.none _
   | refine LeO.ite ?_ ?_
   | refine LeO.bind ?_ (fun _ => ?_)
  ·intro y0 y1 y2 y3 y4 y5 y6 y7
   unfold spec_l5Set.j1
   repeat' first
   | (with_reducible exact ih0 _ _ _ _ _ _ _)
   | (with_reducible exact ih1 _ _ _ _ _ _ _ _)
   | (with_reducible exact LeO.refl _)
   | (with_reducible exact LeO.none _)
   | (with_reducible refine LeO.ite ?_ ?_)
   | (with_reducible refine LeO.bind ?_ (fun _ => ?_))
   | exact ih0 _ _ _ _ _ _ _
   | exact ih1 _ _ _ _ _ _ _ _
   | exact LeO.none _
   | refine LeO.ite ?_ ?_
   | refine LeO.bind ?_ (fun _ => ?_)
theorem spec_l5Set.mono : ∀ a0 a1 a2 a3 k, LeO (spec_l5Set.f k a0 a1 a2 a3) (spec_l5Set.f (k + 1) a0 a1 a2 a3) := by
 intro a0 a1 a2 a3 k; obtain ⟨ih0, ih1⟩ := spec_l5Set.mono_l k
 unfold spec_l5Set.f
 repeat' first
   | (with_reducible exact ih0 _ _ _ _ _ _ _)
   | (with_reducible exact ih1 _ _ _ _ _ _ _ _)
   | (with_reducible exact LeO.refl _)
   | (with_reducible exact LeO.none _)
   | (with_reducible refine LeO.ite ?_ ?_)
   | (with_reducible refine LeO.bind ?_ (fun _ => ?_))
   | exact ih0 _ _ _ _ _ _ _
   | exact ih1 _ _ _ _ _ _ _ _
   | exact LeO.none _
   | refine LeO.ite ?_ ?_
   | refine LeO.bind ?_ (fun _ => ?_)
def spec_l5Set.T6 : Bool × List (List Nat × List Nat) := (true, [([], []), ([0], [0]), ([1], [1]), ([2], [2]), ([3, 2], [2, 3]), ([2], [2]), ([4, 5, 2], [2, 4, 5]), ([6, 2], [2, 6]), ([7, 2], [2, 7]), ([2], [2]), ([9, 2], [2, 9]), ([8, 10, 2], [2, 8, 10]), ([2, 11], [2, 11])])
def spec_l5Set.B6 : List Nat := [0, 1, 3, 7, 15, 7, 63, 127, 255, 7, 519, 2047, 4095]
theorem spec_l5Set.tab6 : rtab .any (opsOf Tryd.f73 6) = spec_l5Set.T6 := by kernel_rfl
theorem spec_l5Set.bits6 : waitsOk spec_l5Set.T6.2 spec_l5Set.B6 = true := by kernel_rfl
def spec_l5Set.T9 : Bool × List (List Nat × List Nat) := (true, [([], []), ([0], [0]), ([], []), ([1, 2], [1, 2]), ([3], [3]), ([4], [4]), ([], []), ([6], [6]), ([5, 7], [5, 7])])
def spec_l5Set.B9 : List Nat := [0, 1, 0, 7, 15, 31, 0, 64, 255]
theorem spec_l5Set.tab9 : rtab .any (opsOf Tryd.f73 9) = spec_l5Set.T9 := by kernel_rfl
theorem spec_l5Set.bits9 : waitsOk spec_l5Set.T9.2 spec_l5Set.B9 = true := by kernel_rfl
def spec_l5Set.T10 : Bool × List (List Nat × List Nat) := (true, [([], []), ([0], [0]), ([], []), ([2], [2]), ([], []), ([3, 4], [3, 4]), ([5], [5]), ([6], [6]), ([1, 7], [1, 7]), ([0, 1, 2, 3, 4, 5, 6, 7, 8], []), ([9, 8, 8, 0, 1, 2, 3, 4, 5, 6, 7, 8], [8, 9])])
def spec_l5Set.B10 : List Nat := [0, 1, 0, 4, 0, 28, 60, 124, 255, 511, 1023]
theorem spec_l5Set.tab10 : rtab .any (opsOf Tryd.f73 10) = spec_l5Set.T10 := by kernel_rfl
theorem spec_l5Set.bits10 : waitsOk spec_l5Set.T10.2 spec_l5Set.B10 = true := by kernel_rfl
set_option maxHeartbeats 8000000 in
set_option maxRecDepth 100000 in
theorem spec_l5Set.calls (k : Nat) (ay : Option Addr) (aj : Nat) (a5 : List (S27)) (a1_0 : ByteArray) (a1_1 : ByteArray) (a1_2 : Bool) (r : List (S27)) (w : World) (cg : Kd.C k27 w ay a5.length a5) (ch : a5.length ≤ aj) (h : spec_l5Set.f k a5 a1_0 a1_1 a1_2 = some r) :
  Calls Tryd.prog 73 #[.agg #[.slice ay a5.length aj], .agg #[.string a1_0, .string a1_1, .bool a1_2]] w fun e w' => ∃ v0_ : Value, e = .returned (.agg #[v0_]) ∧ Kd.R k27 27 w' w.heap.size (fun _ => True) v0_ r ∧ Below w.heap.size w w' := by
 have hu25 := Tryd.underlying25; have hu27 := Tryd.underlying27; have aN := Aside0.mk cg; have HC0_0 := Aside0.mk ch; clear cg ch; have HB := Aside0.mk (Below.refl w.heap.size w); have H : (spec_l5Set.l0 k false 0 a5 a1_0 a1_1 a1_2 ([] : List (S27))) = some r := h; clear h; have H' := Aside0.mk H; clear H
 go_enter Tryd.func73, Tryd.ntmps73
 go_wp2_with (first | ((with_reducible refine gd 2 rfl ?_); refine bx 2 25 (#[.slice ay a5.length aj]) ?_; intro ak hg w3 hbox hb; refine Ya4 (below_step (be HB.out) hb) (hbox) (bs hg (be HB.out)) (bs hg (be HB.out)) ?_; clear HB; intro HB a6 GW130 GE130; clear hb hbox hg) | ((with_reducible refine gd 3 rfl ?_); refine bx 3 27 (#[.string a1_0, .string a1_1, .bool a1_2]) ?_; intro ac hg w4 hbox hb; refine Ya7 (bb a6 hb) (below_step (bf HB.out) hb) (hbox) (bs hg (bf HB.out)) (bs hg (bf HB.out)) (bl hg a6) (br hg a6) ?_; clear a6 HB; intro a6 HB a7 GW131 GE131 b9 ba; clear hb hbox hg) | ((with_reducible refine gd 4 rfl ?_); refine bx 4 25 (#[.slice none 0 0]) ?_; intro am hg w5 hbox hb; refine Ya10 (bb a6 hb) (bb a7 hb) (below_step (bf HB.out) hb) (hbox) (bs hg (bf HB.out)) (bs hg (bf HB.out)) (bl hg a6) (br hg a6) (bl hg a7) (br hg a7) ?_; clear a6 a7 HB; intro a6 a7 HB a9 GW132 GE132 bS bT bu bv; clear hb hbox hg) | ((with_reducible refine gd 5 rfl ?_); refine bx 5 25 (#[.slice none 0 0]) ?_; intro af hg w6 hbox hb; refine Ya13 (bb a6 hb) (bb a7 hb) (bb a9 hb) (below_step (bf HB.out) hb) (hbox) (bs hg (bf HB.out)) (bs hg (bf HB.out)) (bl hg a6) (br hg a6) (bl hg a7) (br hg a7) (bl hg a9) (br hg a9) ?_; clear a6 a7 a9 HB; intro a6 a7 a9 HB a8 GW133 GE133 an aM ap aQ aq aR; clear hb hbox hg; have hnb7 := aM.out; have hnc7 := an.out; have hnb8 := aQ.out; have hnc8 := ap.out; have hnb9 := aR.out; have hnc9 := aq.out; have ⟨ci, cj⟩ := Yc1 a8.out))
 go_loopg [6, 7] k (fun kq v6 v7 w' => ∃ (ax : Bool) (a4 : Int) (ad : List (S27)) (al : Value), v6 = .bool ax ∧ v7 = .int .i64 a4 ∧ Aside0 (spec_l5Set.l0 kq ax a4 a5 a1_0 a1_1 a1_2 ad = some r) ∧ Aside0 (kq ≤ k) ∧ Aside0 (Kd.R k27 27 w' w.heap.size (fun k_ => k_ ≠ ac) al ad) ∧ Aside0 (w'.heap[ak]? = some (.cells #[(.slice ay a5.length aj)] 25 (0, 0))) ∧ Aside0 (w'.heap[ac]? = some (.cells #[.string a1_0, .string a1_1, .bool a1_2] 27 (0, 0))) ∧ Aside0 (w'.heap[am]? = some (.cells #[(.slice none 0 0)] 25 (0, 0))) ∧ Aside0 (w'.heap[af]? = some (.cells #[al] 25 (0, 0))) ∧ Aside0 (Below w.heap.size w w'))
 case atStart => exact ⟨(false), (0), (([] : List (S27))), (.slice none 0 0), Ye1, Ye1, H', ⟨Nat.le_refl _⟩, ⟨nl⟩, ⟨bkf a6.out an.out⟩, ⟨bkf a7.out ap.out⟩, ⟨bkf a9.out aq.out⟩, ⟨bp a8.out⟩, ⟨bf HB.out⟩⟩
 case round =>
  clear H'; (try clear p2); (try clear c7); (try clear c8); (try clear c9); (try clear ci); (try clear cj); obtain ⟨ax, a4, ad, al, rfl, rfl, HA, HK1, aa, a6, a7, a9, a8, HB⟩ := hrel
  cases gk with
  | zero => exact absurd HA.out (by simp [spec_l5Set.l0])
  | succ k1 =>
   have H := HA.out; clear HA; simp only [spec_l5Set.l0] at H
   by_cases aT : a4 < (a5.length : Int)
   ·rw [if_pos aT] at H
    have ck : decide (a4 < (a5.length : Int)) = true := decide_eq_true aT; clear aT; have bU := Aside0.mk H; clear H; have hnb13 := b9.out; have hnc13 := ba.out; have hnb14 := bS.out; have hnc14 := bT.out; have hnb15 := an.out; have hnc15 := aM.out; have ⟨cu, cv⟩ := Yc1 a6.out
    go_upto_region 6 with (fail)
    go_cut [28] (fun v28 wc => ∃ (kq : Nat) (bw : Bool), v28 = .bool bw ∧ Aside0 (spec_l5Set.j1 kq ax a4 bw a5 a1_0 a1_1 a1_2 ad = some r) ∧ Aside0 (kq ≤ k1) ∧ Aside0 (Kd.R k27 27 wc w.heap.size (fun k_ => k_ ≠ ac) al ad) ∧ Aside0 (wc.heap[ak]? = some (.cells #[(.slice ay a5.length aj)] 25 (0, 0))) ∧ Aside0 (wc.heap[ac]? = some (.cells #[.string a1_0, .string a1_1, .bool a1_2] 27 (0, 0))) ∧ Aside0 (wc.heap[am]? = some (.cells #[(.slice none 0 0)] 25 (0, 0))) ∧ Aside0 (wc.heap[af]? = some (.cells #[al] 25 (0, 0))) ∧ Aside0 (Below w.heap.size w wc))
    case first =>
     have H := bU.out; clear bU
     by_cases bd : ax = true
     ·subst bd
      have H1 : (spec_l5Set.j1 k1 true a4 false a5 a1_0 a1_1 a1_2 ad) = some r := by rw [if_pos rfl] at H; exact H
      clear H; have H := H1; clear H1; have H' := Aside0.mk H; clear H
      try go_wp2
      refine Ya6 (Kd.R_drew aa.out) (blk_drew a6.out) (blk_drew a7.out) (blk_drew a9.out) (blk_drew a8.out) (below_drew1 HB.out) ?_; clear aa a6 a7 a9 a8 HB; intro aa a6 a7 a9 a8 HB; refine start_ (n := 13) (S := fun w' => True) (ds := []) (fb 13 0) (by kernel_rfl) rfl rfl trivial (fun hHeld => ?_); refine with_tabW spec_l5Set.tab6 spec_l5Set.bits6 (fun HT_ HW_ => ?_); generalize wr.drew = w18 at aa a6 a7 a9 a8 HB hHeld ⊢; refine pu 0 16 (fb 13 1) HT_ ?_; refine pu 1 17 (fb 13 3) HT_ ?_; refine pu 2 18 (fb 13 7) HT_ ?_; refine pn 3 19 (fb 13 15) HT_ ?_; refine pn 4 20 (fb 13 31) HT_ ?_; refine pn 5 21 (fb 13 63) HT_ ?_; refine pn 6 22 (fb 13 127) HT_ ?_; refine pn 7 23 (fb 13 255) HT_ ?_; refine pn 8 24 (fb 13 511) HT_ ?_; refine pn 9 25 (fb 13 1023) HT_ ?_; refine pn 10 26 (fb 13 2047) HT_ ?_; refine pn 11 27 (fb 13 4095) HT_ ?_; refine pu 12 28 (fb 13 8191) HT_ ?_; refine done_ (done_of HT_.out (by kernel_rfl)) ?_
      try go_wp2
      go_meet
      case rel => exact ⟨_, (false), Ye1, H', ⟨by have := HK1.out; first | omega | exact Nat.le_refl _⟩, ⟨kr aa.out⟩, ⟨bk a6.out⟩, ⟨bk a7.out⟩, ⟨bk a9.out⟩, ⟨bk a8.out⟩, ⟨bf HB.out⟩⟩
     ·replace bd := Bool.eq_false_iff.mpr bd; subst bd
      have H1 : (if 0 ≤ a4 then (spec_l5Set.j1 k1 false a4 (!(Op.bytesLess (((rd_T27 a5 a4).f0).toList) a1_0.toList)) a5 a1_0 a1_1 a1_2 ad) else (none)) = some r := by rw [if_neg (show ¬ (false = true) by decide)] at H; exact H
      clear H; have H := H1; clear H1
      by_cases bg : 0 ≤ a4
      ·rw [if_pos bg] at H
       have bV : decide (0 ≤ a4) = true := decide_eq_true bg; clear bg; (first | rw [bV] | (simp only [i64_w, i32_w]; rw [bV]) | skip); have H' := Aside0.mk H; clear H
       try go_wp2
       refine Ya6 (Kd.R_drew aa.out) (blk_drew a6.out) (blk_drew a7.out) (blk_drew a9.out) (blk_drew a8.out) (below_drew1 HB.out) ?_; clear aa a6 a7 a9 a8 HB; intro aa a6 a7 a9 a8 HB; have bz : 0 ≤ (a4 : Int) := oda; have bA : a4 < (a5.length : Int) := oda; obtain ⟨b8, cw, bh, bi, bj⟩ := at_T27 aN.out a4 bz bA; have hw137_2 := bj; have hw137_1 := bi; have hw137_0 := bh
       cases cw
       replace bh := pw_cell_below HB.out bh; replace bi := pw_cell_below HB.out bi; replace bj := pw_cell_below HB.out bj; replace bz := eq_true bz; replace bA := eq_true bA; refine start_ (n := 13) (S := fun w' => w'.cell? ⟨ak, 0, none⟩ = some (.slice (some b8) a5.length aj) ∧ w'.cell? ⟨ac, 0, none⟩ = some (.string a1_0) ∧ w'.cell? ⟨ac, 1, none⟩ = some (.string a1_1) ∧ w'.cell? ⟨ac, 2, none⟩ = some (.bool a1_2) ∧ w'.cell? (b8.add ((a4).toNat * 3)) = some (.string ((rd_T27 a5 a4).f0)) ∧ w'.cell? ⟨(b8.add ((a4).toNat * 3)).block, (b8.add ((a4).toNat * 3)).off + 1, none⟩ = some (.string ((rd_T27 a5 a4).f1)) ∧ w'.cell? ⟨(b8.add ((a4).toNat * 3)).block, (b8.add ((a4).toNat * 3)).off + 2, none⟩ = some (.bool ((rd_T27 a5 a4).f2))) (ds := []) (fb 13 0) (by kernel_rfl) rfl rfl ⟨bc a6 0, bc a7 0, bc a7 1, bc a7 2, (pw_cell_below HB.out hw137_0), (pw_cell_below HB.out hw137_1), (pw_cell_below HB.out hw137_2)⟩ (fun hHeld => ?_); refine with_tabW spec_l5Set.tab6 spec_l5Set.bits6 (fun HT_ HW_ => ?_); generalize wr.drew = w20 at aa a6 a7 a9 a8 HB bh bi bj hHeld ⊢; refine pu 0 16 (fb 13 1) HT_ ?_; refine pu 1 17 (fb 13 3) HT_ ?_; refine pu 2 18 (fb 13 7) HT_ ?_; refine pu 3 19 (fb 13 15) HT_ ?_; refine pu 5 21 (fb 13 47) HT_ ?_; refine pu 9 25 (fb 13 559) HT_ ?_; refine tk 4 20 (fb 13 575) HT_ HW_ hHeld ?_; refine pu 6 22 (fb 13 639) HT_ ?_; refine pu 7 23 (fb 13 767) HT_ ?_; refine tk 8 24 (fb 13 1023) HT_ HW_ hHeld ?_; refine tk 10 26 (fb 13 2047) HT_ HW_ hHeld ?_; refine pu 11 27 (fb 13 4095) HT_ ?_; refine pu 12 28 (fb 13 8191) HT_ ?_; refine done_ (done_of HT_.out (by kernel_rfl)) ?_
       try go_wp2
       go_meet
       case rel => exact ⟨_, (!(Op.bytesLess (((rd_T27 a5 a4).f0).toList) a1_0.toList)), Ye1, H', ⟨by have := HK1.out; first | omega | exact Nat.le_refl _⟩, ⟨kr aa.out⟩, ⟨bk a6.out⟩, ⟨bk a7.out⟩, ⟨bk a9.out⟩, ⟨bk a8.out⟩, ⟨bf HB.out⟩⟩
      ·rw [if_neg bg] at H
       exact absurd H (by simp)
    case rest =>
     clear bU; (try clear c1); (try clear p1); (try clear q1); (try clear hx1); (try clear p2); (try clear c7); (try clear c8); (try clear c9); (try clear aT); (try clear ck); (try clear c13); (try clear p13); (try clear q13); (try clear hx13); (try clear c14); (try clear c15); (try clear bd); (try clear bg); (try clear bV); (try clear ci); (try clear cu); (try clear cj); (try clear cv); (try clear bh); (try clear bi); (try clear bj); (try clear bz); (try clear p2); (try clear bA); obtain ⟨kq, bw, rfl, HA, HJ11, aa, a6, a7, a9, a8, HB⟩ := hcut
     cases kq with
     | zero => exact absurd HA.out (by simp [spec_l5Set.j1])
     | succ ar =>
      have H := HA.out; clear HA; simp only [spec_l5Set.j1] at H
      by_cases bB : bw = true
      ·subst bB
       have H1 : (if ad.length < 3518437208883 then ((some (ad ++ [(⟨a1_0, a1_1, a1_2⟩ : S27)] : List (S27))).bind fun ab => (if 0 ≤ a4 then (if a4 < (a5.length : Int) then (if ((rd_T27 a5 a4).f0).toList = a1_0.toList then (spec_l5Set.l0 ar true (wrap64 (a4 + 1)) a5 a1_0 a1_1 a1_2 ab) else (if ab.length < 3518437208883 then (spec_l5Set.l0 ar true (wrap64 (a4 + 1)) a5 a1_0 a1_1 a1_2 (ab ++ [(⟨(rd_T27 a5 a4).f0, (rd_T27 a5 a4).f1, (rd_T27 a5 a4).f2⟩ : S27)])) else (none))) else (none)) else (none))) else (none)) = some r := by rw [if_pos rfl] at H; exact H
       clear H; have H := H1; clear H1
       by_cases bC : ad.length < 3518437208883
       ·rw [if_pos bC] at H
        have cl := Aside0.mk bC; clear bC
        obtain ⟨ab, bm⟩ : ∃ y_ : List (S27), y_ = (ad ++ [(⟨a1_0, a1_1, a1_2⟩ : S27)]) := ⟨_, rfl⟩
        replace H : (if 0 ≤ a4 then (if a4 < (a5.length : Int) then (if ((rd_T27 a5 a4).f0).toList = a1_0.toList then (spec_l5Set.l0 ar true (wrap64 (a4 + 1)) a5 a1_0 a1_1 a1_2 ab) else (if ab.length < 3518437208883 then (spec_l5Set.l0 ar true (wrap64 (a4 + 1)) a5 a1_0 a1_1 a1_2 (ab ++ [(⟨(rd_T27 a5 a4).f0, (rd_T27 a5 a4).f1, (rd_T27 a5 a4).f2⟩ : S27)])) else (none))) else (none)) else (none)) = some r := by first | (rw [bm]; with_reducible exact H) | (have H2_ := (Option.bind_some _ _).symm.trans H; rw [bm]; with_reducible exact H2_) | (have H2_ := (Option.bind_some _ _).symm.trans H; with_reducible exact H2_) | with_reducible exact H | (rw [bm]; exact H) | exact H
        have cm := Aside0.mk bm; clear bm
        by_cases bD : 0 ≤ a4
        ·rw [if_pos bD] at H
         have c23b0 : decide (0 ≤ a4) = true := decide_eq_true bD; clear bD
         by_cases bE : a4 < (a5.length : Int)
         ·rw [if_pos bE] at H
          have c24b0 : decide (a4 < (a5.length : Int)) = true := decide_eq_true bE; clear bE
          by_cases aU : ((rd_T27 a5 a4).f0).toList = a1_0.toList
          ·rw [if_pos aU] at H
           have cx : (((rd_T27 a5 a4).f0).toList == a1_0.toList) = true := beq_iff_eq.mpr aU; have cy : (((rd_T27 a5 a4).f0).toList != a1_0.toList) = false := bne_eq_false_iff_eq.mpr aU; clear aU; have H' := Aside0.mk H; clear H; have hnb26 := aM.out; have hnc26 := an.out; have hnb27 := aQ.out; have hnc27 := ap.out; have hnb28 := aR.out; have hnc28 := aq.out; have ⟨cU, cV⟩ := Yc1 a8.out; have hnb30 := ba.out; have hnc30 := b9.out; have hnb31 := bu.out; have hnc31 := bv.out; have ⟨cW, cX, cY, cZ, d0, d1⟩ := Yc3 a7.out
           try go_wp2_with (first | ((with_reducible refine gate_builtin (b := .append) (xs := #[.tmp 30, .tmp 32]) rfl ?_); at_builtin; refine Kd.R_append k27 (w0 := w) w.heap.size rfl (.tmp 30) (.tmp 32) 23 27 (.agg #[(.string ⟨#[]⟩), (.string ⟨#[]⟩), (.bool false)]) 40 rfl Tryd.underlying23 info27 rfl (by decide) (by omega) al ad (⟨a1_0, a1_1, a1_2⟩ : S27) [.string a1_0, .string a1_1, .bool a1_2] (fun k_ => k_ ≠ ac) (fun _ => False) rfl rfl ?aP (fun _ hk => hk.elim) ?aF ?aO ?aB ?aS ?aL ?_; (case aP => exact k27_mkM _ _ _ (⟨a1_0, a1_1, a1_2⟩ : S27)); (case aB => exact (bf HB.out)); (case aF => exact (fun k_ hk => Kd.freshB (g := ac) (o := .cells #[.string a1_0, .string a1_1, .bool a1_2] 27 (0, 0)) (bk a7.out) k_ hk)); (case aO => exact (kr aa.out)); (case aS => exact (below_size (bf HB.out))); (case aL => have := cl.out; omega); intro cz aV ho hb hg hat; rw [← cm.out] at ho; refine Ya6 (blk_grown (g := ak) (o := .cells #[.slice ay a5.length aj] 25 (0, 0)) (bk a6.out) hg (Kd.R_ne aa.out a6.out (by decide))) (blk_grown (g := ac) (o := .cells #[.string a1_0, .string a1_1, .bool a1_2] 27 (0, 0)) (bk a7.out) hg (Kd.R_away aa.out (fun _ hk => hk))) (blk_grown (g := am) (o := .cells #[.slice none 0 0] 25 (0, 0)) (bk a9.out) hg (Kd.R_ne aa.out a9.out (by decide))) (blk_grown (g := af) (o := .cells #[al] 25 (0, 0)) (bk a8.out) hg (Kd.R_ne aa.out a8.out (by decide))) (hb) (ho) ?_; clear a6 a7 a9 a8 HB aa; intro a6 a7 a9 a8 HB ae; clear ho hb hg hat; obtain ⟨az, aA, cA⟩ := Kd.R_slice ae.out; subst cA; have ⟨d2, d3⟩ := Yc1 a8.out))
           have aW : Aside0 (Kd.R k27 27 (aV.setCell ⟨af, 0, none⟩ (.slice az ab.length aA)) w.heap.size (fun k_ => k_ ≠ ac) (.slice az ab.length aA) ab) := ⟨rf ae a8⟩
           have aX : Aside0 ((aV.setCell ⟨af, 0, none⟩ (.slice az ab.length aA)).heap[ak]? = some (.cells #[.slice ay a5.length aj] 25 (0, 0))) := ⟨bkf a6.out an.out⟩
           have aY : Aside0 ((aV.setCell ⟨af, 0, none⟩ (.slice az ab.length aA)).heap[ac]? = some (.cells #[.string a1_0, .string a1_1, .bool a1_2] 27 (0, 0))) := ⟨bkf a7.out ap.out⟩
           have aZ : Aside0 ((aV.setCell ⟨af, 0, none⟩ (.slice az ab.length aA)).heap[am]? = some (.cells #[.slice none 0 0] 25 (0, 0))) := ⟨bkf a9.out aq.out⟩
           have b0 : Aside0 ((aV.setCell ⟨af, 0, none⟩ (.slice az ab.length aA)).heap[af]? = some (.cells #[.slice az ab.length aA] 25 (0, 0))) := ⟨bp a8.out⟩
           have b1 : Aside0 (Below w.heap.size w (aV.setCell ⟨af, 0, none⟩ (.slice az ab.length aA))) := ⟨bf HB.out⟩
           (try clear ae); (try clear a6); (try clear a7); (try clear a9); (try clear a8); (try clear HB); generalize (aV.setCell ⟨af, 0, none⟩ (.slice az ab.length aA)) = w36 at aW aX aY aZ b0 b1 ⊢; have ae := aW; have a6 := aX; have a7 := aY; have a9 := aZ; have a8 := b0; have HB := b1; clear aW aX aY aZ b0 b1; refine Ya6 (Kd.R_drew ae.out) (blk_drew a6.out) (blk_drew a7.out) (blk_drew a9.out) (blk_drew a8.out) (below_drew1 HB.out) ?_; clear ae a6 a7 a9 a8 HB; intro ae a6 a7 a9 a8 HB; have b2 : 0 ≤ (a4 : Int) := oda; have b3 : a4 < (a5.length : Int) := oda; obtain ⟨ag, bW, aE, aG, aH⟩ := at_T27 aN.out a4 b2 b3; have hw141_2 := aH; have hw141_1 := aG; have hw141_0 := aE
           cases bW
           replace aE := pw_cell_below HB.out aE; replace aG := pw_cell_below HB.out aG; replace aH := pw_cell_below HB.out aH; replace b2 := eq_true b2; replace b3 := eq_true b3; refine start_ (n := 9) (S := fun w' => w'.cell? ⟨ak, 0, none⟩ = some (.slice (some ag) a5.length aj) ∧ w'.cell? ⟨ac, 0, none⟩ = some (.string a1_0) ∧ w'.cell? ⟨ac, 1, none⟩ = some (.string a1_1) ∧ w'.cell? ⟨ac, 2, none⟩ = some (.bool a1_2) ∧ w'.cell? (ag.add ((a4).toNat * 3)) = some (.string ((rd_T27 a5 a4).f0)) ∧ w'.cell? ⟨(ag.add ((a4).toNat * 3)).block, (ag.add ((a4).toNat * 3)).off + 1, none⟩ = some (.string ((rd_T27 a5 a4).f1)) ∧ w'.cell? ⟨(ag.add ((a4).toNat * 3)).block, (ag.add ((a4).toNat * 3)).off + 2, none⟩ = some (.bool ((rd_T27 a5 a4).f2))) (ds := []) (fb 9 0) (by kernel_rfl) rfl rfl ⟨bc a6 0, bc a7 0, bc a7 1, bc a7 2, (pw_cell_below HB.out hw141_0), (pw_cell_below HB.out hw141_1), (pw_cell_below HB.out hw141_2)⟩ (fun hHeld => ?_); refine with_tabW spec_l5Set.tab9 spec_l5Set.bits9 (fun HT_ HW_ => ?_); generalize w36.drew = w37 at ae a6 a7 a9 a8 HB aE aG aH hHeld ⊢; refine pu 0 35 (fb 9 1) HT_ ?_; refine pu 2 37 (fb 9 5) HT_ ?_; refine pu 6 41 (fb 9 69) HT_ ?_; refine tk 1 36 (fb 9 71) HT_ HW_ hHeld ?_; refine pu 3 38 (fb 9 79) HT_ ?_; refine pu 4 39 (fb 9 95) HT_ ?_; refine tk 5 40 (fb 9 127) HT_ HW_ hHeld ?_; refine tk 7 42 (fb 9 255) HT_ HW_ hHeld ?_; refine pu 8 43 (fb 9 511) HT_ ?_; refine done_ (done_of HT_.out (by kernel_rfl)) ?_
           try go_wp2
           go_roundg ar
           case measure => have := HK1.out; have := HJ11.out; omega
           case rel => exact ⟨(true), (wrap64 (a4 + 1)), (ab), (.slice az ab.length aA), Ye1, Ye1, H', ⟨by have := HK1.out; have := HJ11.out; omega⟩, ⟨kr ae.out⟩, ⟨bk a6.out⟩, ⟨bk a7.out⟩, ⟨bk a9.out⟩, ⟨bk a8.out⟩, ⟨bf HB.out⟩⟩
          ·rw [if_neg aU] at H
           have cx : (((rd_T27 a5 a4).f0).toList == a1_0.toList) = false := beq_eq_false_iff_ne.mpr aU; have cy : (((rd_T27 a5 a4).f0).toList != a1_0.toList) = true := bne_iff_ne.mpr aU
           by_cases bF : ab.length < 3518437208883
           ·rw [if_pos bF] at H
            have cB := Aside0.mk bF; clear bF
            obtain ⟨bX, bn⟩ : ∃ y_ : List (S27), y_ = (ab ++ [(⟨(rd_T27 a5 a4).f0, (rd_T27 a5 a4).f1, (rd_T27 a5 a4).f2⟩ : S27)]) := ⟨_, rfl⟩
            replace H : (spec_l5Set.l0 ar true (wrap64 (a4 + 1)) a5 a1_0 a1_1 a1_2 bX) = some r := by first | (rw [bn]; with_reducible exact H) | (have H2_ := (Option.bind_some _ _).symm.trans H; rw [bn]; with_reducible exact H2_) | (have H2_ := (Option.bind_some _ _).symm.trans H; with_reducible exact H2_) | with_reducible exact H | (rw [bn]; exact H) | exact H
            have cC := Aside0.mk bn; clear bn; have H' := Aside0.mk H; clear H; have hnb39 := aM.out; have hnc39 := an.out; have hnb40 := aQ.out; have hnc40 := ap.out; have hnb41 := aR.out; have hnc41 := aq.out; have ⟨d4, d5⟩ := Yc1 a8.out; have hnb43 := ba.out; have hnc43 := b9.out; have hnb44 := bu.out; have hnc44 := bv.out; have ⟨d6, d7, d8, d9, da, db⟩ := Yc3 a7.out
            try go_wp2_with (first | ((with_reducible refine gate_builtin (b := .append) (xs := #[.tmp 30, .tmp 32]) rfl ?_); at_builtin; refine Kd.R_append k27 (w0 := w) w.heap.size rfl (.tmp 30) (.tmp 32) 23 27 (.agg #[(.string ⟨#[]⟩), (.string ⟨#[]⟩), (.bool false)]) 40 rfl Tryd.underlying23 info27 rfl (by decide) (by omega) al ad (⟨a1_0, a1_1, a1_2⟩ : S27) [.string a1_0, .string a1_1, .bool a1_2] (fun k_ => k_ ≠ ac) (fun _ => False) rfl rfl ?aP (fun _ hk => hk.elim) ?aF ?aO ?aB ?aS ?aL ?_; (case aP => exact k27_mkM _ _ _ (⟨a1_0, a1_1, a1_2⟩ : S27)); (case aB => exact (bf HB.out)); (case aF => exact (fun k_ hk => Kd.freshB (g := ac) (o := .cells #[.string a1_0, .string a1_1, .bool a1_2] 27 (0, 0)) (bk a7.out) k_ hk)); (case aO => exact (kr aa.out)); (case aS => exact (below_size (bf HB.out))); (case aL => have := cl.out; omega); intro cz b4 ho hb hg hat; rw [← cm.out] at ho; refine Ya6 (blk_grown (g := ak) (o := .cells #[.slice ay a5.length aj] 25 (0, 0)) (bk a6.out) hg (Kd.R_ne aa.out a6.out (by decide))) (blk_grown (g := ac) (o := .cells #[.string a1_0, .string a1_1, .bool a1_2] 27 (0, 0)) (bk a7.out) hg (Kd.R_away aa.out (fun _ hk => hk))) (blk_grown (g := am) (o := .cells #[.slice none 0 0] 25 (0, 0)) (bk a9.out) hg (Kd.R_ne aa.out a9.out (by decide))) (blk_grown (g := af) (o := .cells #[al] 25 (0, 0)) (bk a8.out) hg (Kd.R_ne aa.out a8.out (by decide))) (hb) (ho) ?_; clear a6 a7 a9 a8 HB aa; intro a6 a7 a9 a8 HB ae; clear ho hb hg hat; obtain ⟨au, av, cD⟩ := Kd.R_slice ae.out; subst cD; have ⟨dc, dd⟩ := Yc1 a8.out))
            have aW : Aside0 (Kd.R k27 27 (b4.setCell ⟨af, 0, none⟩ (.slice au ab.length av)) w.heap.size (fun k_ => k_ ≠ ac) (.slice au ab.length av) ab) := ⟨rf ae a8⟩
            have aX : Aside0 ((b4.setCell ⟨af, 0, none⟩ (.slice au ab.length av)).heap[ak]? = some (.cells #[.slice ay a5.length aj] 25 (0, 0))) := ⟨bkf a6.out an.out⟩
            have aY : Aside0 ((b4.setCell ⟨af, 0, none⟩ (.slice au ab.length av)).heap[ac]? = some (.cells #[.string a1_0, .string a1_1, .bool a1_2] 27 (0, 0))) := ⟨bkf a7.out ap.out⟩
            have aZ : Aside0 ((b4.setCell ⟨af, 0, none⟩ (.slice au ab.length av)).heap[am]? = some (.cells #[.slice none 0 0] 25 (0, 0))) := ⟨bkf a9.out aq.out⟩
            have b0 : Aside0 ((b4.setCell ⟨af, 0, none⟩ (.slice au ab.length av)).heap[af]? = some (.cells #[.slice au ab.length av] 25 (0, 0))) := ⟨bp a8.out⟩
            have b1 : Aside0 (Below w.heap.size w (b4.setCell ⟨af, 0, none⟩ (.slice au ab.length av))) := ⟨bf HB.out⟩
            (try clear ae); (try clear a6); (try clear a7); (try clear a9); (try clear a8); (try clear HB); generalize (b4.setCell ⟨af, 0, none⟩ (.slice au ab.length av)) = w49 at aW aX aY aZ b0 b1 ⊢; have ae := aW; have a6 := aX; have a7 := aY; have a9 := aZ; have a8 := b0; have HB := b1; clear aW aX aY aZ b0 b1; refine Ya6 (Kd.R_drew ae.out) (blk_drew a6.out) (blk_drew a7.out) (blk_drew a9.out) (blk_drew a8.out) (below_drew1 HB.out) ?_; clear ae a6 a7 a9 a8 HB; intro ae a6 a7 a9 a8 HB; have b2 : 0 ≤ (a4 : Int) := oda; have b3 : a4 < (a5.length : Int) := oda; obtain ⟨ag, bW, aE, aG, aH⟩ := at_T27 aN.out a4 b2 b3; have hw141_2 := aH; have hw141_1 := aG; have hw141_0 := aE
            cases bW
            replace aE := pw_cell_below HB.out aE; replace aG := pw_cell_below HB.out aG; replace aH := pw_cell_below HB.out aH; replace b2 := eq_true b2; replace b3 := eq_true b3; refine start_ (n := 9) (S := fun w' => w'.cell? ⟨ak, 0, none⟩ = some (.slice (some ag) a5.length aj) ∧ w'.cell? ⟨ac, 0, none⟩ = some (.string a1_0) ∧ w'.cell? ⟨ac, 1, none⟩ = some (.string a1_1) ∧ w'.cell? ⟨ac, 2, none⟩ = some (.bool a1_2) ∧ w'.cell? (ag.add ((a4).toNat * 3)) = some (.string ((rd_T27 a5 a4).f0)) ∧ w'.cell? ⟨(ag.add ((a4).toNat * 3)).block, (ag.add ((a4).toNat * 3)).off + 1, none⟩ = some (.string ((rd_T27 a5 a4).f1)) ∧ w'.cell? ⟨(ag.add ((a4).toNat * 3)).block, (ag.add ((a4).toNat * 3)).off + 2, none⟩ = some (.bool ((rd_T27 a5 a4).f2))) (ds := []) (fb 9 0) (by kernel_rfl) rfl rfl ⟨bc a6 0, bc a7 0, bc a7 1, bc a7 2, (pw_cell_below HB.out hw141_0), (pw_cell_below HB.out hw141_1), (pw_cell_below HB.out hw141_2)⟩ (fun hHeld => ?_); refine with_tabW spec_l5Set.tab9 spec_l5Set.bits9 (fun HT_ HW_ => ?_); generalize w49.drew = w50 at ae a6 a7 a9 a8 HB aE aG aH hHeld ⊢; refine pu 0 35 (fb 9 1) HT_ ?_; refine pu 2 37 (fb 9 5) HT_ ?_; refine pu 6 41 (fb 9 69) HT_ ?_; refine tk 1 36 (fb 9 71) HT_ HW_ hHeld ?_; refine pu 3 38 (fb 9 79) HT_ ?_; refine pu 4 39 (fb 9 95) HT_ ?_; refine tk 5 40 (fb 9 127) HT_ HW_ hHeld ?_; refine tk 7 42 (fb 9 255) HT_ HW_ hHeld ?_; refine pu 8 43 (fb 9 511) HT_ ?_; refine done_ (done_of HT_.out (by kernel_rfl)) ?_
            try go_wp2
            refine Ya6 (Kd.R_drew ae.out) (blk_drew a6.out) (blk_drew a7.out) (blk_drew a9.out) (blk_drew a8.out) (below_drew1 HB.out) ?_; clear ae a6 a7 a9 a8 HB; intro ae a6 a7 a9 a8 HB; have bY : 0 ≤ (a4 : Int) := oda; have bZ : a4 < (a5.length : Int) := oda; obtain ⟨cE, cF, bG, bH, bI⟩ := at_T27 aN.out a4 bY bZ; have hw142_2 := bI; have hw142_1 := bH; have hw142_0 := bG
            obtain rfl : ag = cE := (by injection cF)
            replace bG := pw_cell_below HB.out bG; replace bH := pw_cell_below HB.out bH; replace bI := pw_cell_below HB.out bI; replace bY := eq_true bY; replace bZ := eq_true bZ; refine start_ (n := 11) (S := fun w' => w'.cell? ⟨af, 0, none⟩ = some (.slice au ab.length av) ∧ w'.cell? ⟨ak, 0, none⟩ = some (.slice (some ag) a5.length aj) ∧ w'.cell? (ag.add ((a4).toNat * 3)) = some (.string ((rd_T27 a5 a4).f0)) ∧ w'.cell? ⟨(ag.add ((a4).toNat * 3)).block, (ag.add ((a4).toNat * 3)).off + 1, none⟩ = some (.string ((rd_T27 a5 a4).f1)) ∧ w'.cell? ⟨(ag.add ((a4).toNat * 3)).block, (ag.add ((a4).toNat * 3)).off + 2, none⟩ = some (.bool ((rd_T27 a5 a4).f2))) (ds := [10]) (fb 11 0) (by kernel_rfl) rfl rfl ⟨bc a8 0, bc a6 0, (pw_cell_below HB.out hw142_0), (pw_cell_below HB.out hw142_1), (pw_cell_below HB.out hw142_2)⟩ (fun hHeld => ?_); refine with_tabW spec_l5Set.tab10 spec_l5Set.bits10 (fun HT_ HW_ => ?_); generalize w50.drew = w51 at ae a6 a7 a9 a8 HB bG bH bI hHeld ⊢; refine pu 0 44 (fb 11 1) HT_ ?_; refine pu 2 46 (fb 11 5) HT_ ?_; refine pu 4 48 (fb 11 21) HT_ ?_; refine tk 1 45 (fb 11 23) HT_ HW_ hHeld ?_; refine tk 3 47 (fb 11 31) HT_ HW_ hHeld ?_; refine pu 5 49 (fb 11 63) HT_ ?_; refine tk 6 50 (fb 11 127) HT_ HW_ hHeld ?_; refine o1 7 (some 51) (fb 11 255) HT_ (fun K hK => ?_); refine value_ (w1 := ?_) (v := ?_) (by rfl) rfl ?_ ?_; rotate_left 2
            ·go_simp
             constructor
             ·rfl
             ·rfl
            refine hK.out _ _ ⟨(blk_cell (blk_alloc a8.out _) 0).trans rfl, (blk_cell (blk_alloc a6.out _) 0).trans rfl, (World.cell?_alloc_lt _ _ _ (World.block_lt_of_cell? _ _ ((pw_cell_below HB.out hw142_0)))).trans ((pw_cell_below HB.out hw142_0)), (World.cell?_alloc_lt _ _ _ (World.block_lt_of_cell? _ _ ((pw_cell_below HB.out hw142_1)))).trans ((pw_cell_below HB.out hw142_1)), (World.cell?_alloc_lt _ _ _ (World.block_lt_of_cell? _ _ ((pw_cell_below HB.out hw142_2)))).trans ((pw_cell_below HB.out hw142_2))⟩ (fun hHeld => ?_); clear hK K; refine nm 51 ?_; refine o1 8 (some 52) (fb 11 511) HT_ (fun K hK => ?_); refine Kd.R_append_step k27 (w0 := w) w.heap.size (by rfl) (.tmp 45) (.tmp 51) 23 27 (.agg #[(.string ⟨#[]⟩), (.string ⟨#[]⟩), (.bool false)]) 40 rfl Tryd.underlying23 info27 rfl (by decide) (by omega) (.slice au ab.length av) ab (⟨(rd_T27 a5 a4).f0, (rd_T27 a5 a4).f1, (rd_T27 a5 a4).f2⟩ : S27) [.string ((rd_T27 a5 a4).f0), .string ((rd_T27 a5 a4).f1), .bool ((rd_T27 a5 a4).f2)] (fun k_ => k_ ≠ ac) (fun _ => False) rfl rfl ?aP (fun _ hk => hk.elim) ?aF ?aO ?aB ?aS ?aL ?_; (case aP => exact k27_mkM _ _ _ (⟨(rd_T27 a5 a4).f0, (rd_T27 a5 a4).f1, (rd_T27 a5 a4).f2⟩ : S27)); (case aB => exact (bf HB.out)); (case aF => exact (fun k_ hk => Kd.freshB (g := ac) (o := .cells #[.string a1_0, .string a1_1, .bool a1_2] 27 (0, 0)) (bk a7.out) k_ hk)); (case aO => exact (kr ae.out)); (case aS => exact (below_size (bf HB.out))); (case aL => have := cB.out; omega); intro v144 w52 ho hb hg hat
            rw [← cC.out] at ho
            refine Ya6 (blk_grown (g := ak) (o := .cells #[.slice (some ag) a5.length aj] 25 (0, 0)) (bk a6.out) hg (Kd.R_ne ae.out a6.out (by decide))) (blk_grown (g := ac) (o := .cells #[.string a1_0, .string a1_1, .bool a1_2] 27 (0, 0)) (bk a7.out) hg (Kd.R_away ae.out (fun _ hk => hk))) (blk_grown (g := am) (o := .cells #[.slice none 0 0] 25 (0, 0)) (bk a9.out) hg (Kd.R_ne ae.out a9.out (by decide))) (blk_grown (g := af) (o := .cells #[.slice au ab.length av] 25 (0, 0)) (bk a8.out) hg (Kd.R_ne ae.out a8.out (by decide))) (hb) (ho) ?_; clear a6 a7 a9 a8 HB ae; intro a6 a7 a9 a8 HB cn; clear ho hb hg hat; obtain ⟨cG, cH, co⟩ := Kd.R_slice cn.out; (first | subst co | (injection co with f1_ f2_ f3_; have f4_ := f1_.symm; have f5_ := f3_.symm; clear f1_ f2_ f3_; subst f4_; subst f5_)); refine hK.out _ _ ⟨bc a8 0, bc a6 0, (pw_cell_below HB.out hw142_0), (pw_cell_below HB.out hw142_1), (pw_cell_below HB.out hw142_2)⟩ (fun hHeld => ?_); clear hK K; refine nm 52 ?_; refine pu 9 53 (fb 11 1023) HT_ ?_; refine last_ (i := 10) (N := none) (fb 11 2047) rfl rfl (one_of HT_.out (by kernel_rfl)) (by decide) (fun K hK => ?_); have ⟨hs54, hfs54⟩ := Yc1 a8.out; have de := an.out; have df := ap.out; have dg := aq.out; have dh := aM.out; have di := aQ.out; have dj := aR.out; refine skip_ (w1 := ?_) (by rfl) rfl ?_ ?_; rotate_left
            ·go_simp; rfl
            refine hK.out _ _ ?_; clear hK K; refine done_ (done_of HT_.out (by kernel_rfl)) ?_
            try go_wp2
            go_roundg ar
            case measure => have := HK1.out; have := HJ11.out; omega
            case rel => exact ⟨(true), (wrap64 (a4 + 1)), (bX), (.slice cG bX.length cH), Ye1, Ye1, H', ⟨by have := HK1.out; have := HJ11.out; omega⟩, ⟨rf cn a8⟩, ⟨bkf a6.out an.out⟩, ⟨bkf a7.out ap.out⟩, ⟨bkf a9.out aq.out⟩, ⟨bp a8.out⟩, ⟨bf HB.out⟩⟩
           ·rw [if_neg bF] at H
            exact absurd H (by simp)
         ·rw [if_neg bE] at H
          exact absurd H (by simp)
        ·rw [if_neg bD] at H
         exact absurd H (by simp)
       ·rw [if_neg bC] at H
        exact absurd H (by simp)
      ·replace bB := Bool.eq_false_iff.mpr bB; subst bB
       have H1 : (if 0 ≤ a4 then (if a4 < (a5.length : Int) then (if ((rd_T27 a5 a4).f0).toList = a1_0.toList then (spec_l5Set.l0 ar ax (wrap64 (a4 + 1)) a5 a1_0 a1_1 a1_2 ad) else (if ad.length < 3518437208883 then (spec_l5Set.l0 ar ax (wrap64 (a4 + 1)) a5 a1_0 a1_1 a1_2 (ad ++ [(⟨(rd_T27 a5 a4).f0, (rd_T27 a5 a4).f1, (rd_T27 a5 a4).f2⟩ : S27)])) else (none))) else (none)) else (none)) = some r := by rw [if_neg (show ¬ (false = true) by decide)] at H; exact H
       clear H; have H := H1; clear H1
       by_cases bJ : 0 ≤ a4
       ·rw [if_pos bJ] at H
        have c55b0 : decide (0 ≤ a4) = true := decide_eq_true bJ; clear bJ
        by_cases bK : a4 < (a5.length : Int)
        ·rw [if_pos bK] at H
         have c56b0 : decide (a4 < (a5.length : Int)) = true := decide_eq_true bK; clear bK
         by_cases b5 : ((rd_T27 a5 a4).f0).toList = a1_0.toList
         ·rw [if_pos b5] at H
          have cI : (((rd_T27 a5 a4).f0).toList == a1_0.toList) = true := beq_iff_eq.mpr b5; have cJ : (((rd_T27 a5 a4).f0).toList != a1_0.toList) = false := bne_eq_false_iff_eq.mpr b5; clear b5; have H' := Aside0.mk H; clear H
          try go_wp2
          refine Ya6 (Kd.R_drew aa.out) (blk_drew a6.out) (blk_drew a7.out) (blk_drew a9.out) (blk_drew a8.out) (below_drew1 HB.out) ?_; clear aa a6 a7 a9 a8 HB; intro aa a6 a7 a9 a8 HB; have b6 : 0 ≤ (a4 : Int) := oda; have b7 : a4 < (a5.length : Int) := oda; obtain ⟨ah, c0, aI, aJ, aK⟩ := at_T27 aN.out a4 b6 b7; have hw146_2 := aK; have hw146_1 := aJ; have hw146_0 := aI
          cases c0
          replace aI := pw_cell_below HB.out aI; replace aJ := pw_cell_below HB.out aJ; replace aK := pw_cell_below HB.out aK; replace b6 := eq_true b6; replace b7 := eq_true b7; refine start_ (n := 9) (S := fun w' => w'.cell? ⟨ak, 0, none⟩ = some (.slice (some ah) a5.length aj) ∧ w'.cell? ⟨ac, 0, none⟩ = some (.string a1_0) ∧ w'.cell? ⟨ac, 1, none⟩ = some (.string a1_1) ∧ w'.cell? ⟨ac, 2, none⟩ = some (.bool a1_2) ∧ w'.cell? (ah.add ((a4).toNat * 3)) = some (.string ((rd_T27 a5 a4).f0)) ∧ w'.cell? ⟨(ah.add ((a4).toNat * 3)).block, (ah.add ((a4).toNat * 3)).off + 1, none⟩ = some (.string ((rd_T27 a5 a4).f1)) ∧ w'.cell? ⟨(ah.add ((a4).toNat * 3)).block, (ah.add ((a4).toNat * 3)).off + 2, none⟩ = some (.bool ((rd_T27 a5 a4).f2))) (ds := []) (fb 9 0) (by kernel_rfl) rfl rfl ⟨bc a6 0, bc a7 0, bc a7 1, bc a7 2, (pw_cell_below HB.out hw146_0), (pw_cell_below HB.out hw146_1), (pw_cell_below HB.out hw146_2)⟩ (fun hHeld => ?_); refine with_tabW spec_l5Set.tab9 spec_l5Set.bits9 (fun HT_ HW_ => ?_); generalize wc.drew = w58 at aa a6 a7 a9 a8 HB aI aJ aK hHeld ⊢; refine pu 0 35 (fb 9 1) HT_ ?_; refine pu 2 37 (fb 9 5) HT_ ?_; refine pu 6 41 (fb 9 69) HT_ ?_; refine tk 1 36 (fb 9 71) HT_ HW_ hHeld ?_; refine pu 3 38 (fb 9 79) HT_ ?_; refine pu 4 39 (fb 9 95) HT_ ?_; refine tk 5 40 (fb 9 127) HT_ HW_ hHeld ?_; refine tk 7 42 (fb 9 255) HT_ HW_ hHeld ?_; refine pu 8 43 (fb 9 511) HT_ ?_; refine done_ (done_of HT_.out (by kernel_rfl)) ?_
          try go_wp2
          go_roundg ar
          case measure => have := HK1.out; have := HJ11.out; omega
          case rel => exact ⟨(ax), (wrap64 (a4 + 1)), (ad), (al), Ye1, Ye1, H', ⟨by have := HK1.out; have := HJ11.out; omega⟩, ⟨kr aa.out⟩, ⟨bk a6.out⟩, ⟨bk a7.out⟩, ⟨bk a9.out⟩, ⟨bk a8.out⟩, ⟨bf HB.out⟩⟩
         ·rw [if_neg b5] at H
          have cI : (((rd_T27 a5 a4).f0).toList == a1_0.toList) = false := beq_eq_false_iff_ne.mpr b5; have cJ : (((rd_T27 a5 a4).f0).toList != a1_0.toList) = true := bne_iff_ne.mpr b5
          by_cases bL : ad.length < 3518437208883
          ·rw [if_pos bL] at H
           have cK := Aside0.mk bL; clear bL
           obtain ⟨ca, bo⟩ : ∃ y_ : List (S27), y_ = (ad ++ [(⟨(rd_T27 a5 a4).f0, (rd_T27 a5 a4).f1, (rd_T27 a5 a4).f2⟩ : S27)]) := ⟨_, rfl⟩
           replace H : (spec_l5Set.l0 ar ax (wrap64 (a4 + 1)) a5 a1_0 a1_1 a1_2 ca) = some r := by first | (rw [bo]; with_reducible exact H) | (have H2_ := (Option.bind_some _ _).symm.trans H; rw [bo]; with_reducible exact H2_) | (have H2_ := (Option.bind_some _ _).symm.trans H; with_reducible exact H2_) | with_reducible exact H | (rw [bo]; exact H) | exact H
           have cL := Aside0.mk bo; clear bo; have H' := Aside0.mk H; clear H
           try go_wp2
           refine Ya6 (Kd.R_drew aa.out) (blk_drew a6.out) (blk_drew a7.out) (blk_drew a9.out) (blk_drew a8.out) (below_drew1 HB.out) ?_; clear aa a6 a7 a9 a8 HB; intro aa a6 a7 a9 a8 HB; have b6 : 0 ≤ (a4 : Int) := oda; have b7 : a4 < (a5.length : Int) := oda; obtain ⟨ah, c0, aI, aJ, aK⟩ := at_T27 aN.out a4 b6 b7; have hw146_2 := aK; have hw146_1 := aJ; have hw146_0 := aI
           cases c0
           replace aI := pw_cell_below HB.out aI; replace aJ := pw_cell_below HB.out aJ; replace aK := pw_cell_below HB.out aK; replace b6 := eq_true b6; replace b7 := eq_true b7; refine start_ (n := 9) (S := fun w' => w'.cell? ⟨ak, 0, none⟩ = some (.slice (some ah) a5.length aj) ∧ w'.cell? ⟨ac, 0, none⟩ = some (.string a1_0) ∧ w'.cell? ⟨ac, 1, none⟩ = some (.string a1_1) ∧ w'.cell? ⟨ac, 2, none⟩ = some (.bool a1_2) ∧ w'.cell? (ah.add ((a4).toNat * 3)) = some (.string ((rd_T27 a5 a4).f0)) ∧ w'.cell? ⟨(ah.add ((a4).toNat * 3)).block, (ah.add ((a4).toNat * 3)).off + 1, none⟩ = some (.string ((rd_T27 a5 a4).f1)) ∧ w'.cell? ⟨(ah.add ((a4).toNat * 3)).block, (ah.add ((a4).toNat * 3)).off + 2, none⟩ = some (.bool ((rd_T27 a5 a4).f2))) (ds := []) (fb 9 0) (by kernel_rfl) rfl rfl ⟨bc a6 0, bc a7 0, bc a7 1, bc a7 2, (pw_cell_below HB.out hw146_0), (pw_cell_below HB.out hw146_1), (pw_cell_below HB.out hw146_2)⟩ (fun hHeld => ?_); refine with_tabW spec_l5Set.tab9 spec_l5Set.bits9 (fun HT_ HW_ => ?_); generalize wc.drew = w60 at aa a6 a7 a9 a8 HB aI aJ aK hHeld ⊢; refine pu 0 35 (fb 9 1) HT_ ?_; refine pu 2 37 (fb 9 5) HT_ ?_; refine pu 6 41 (fb 9 69) HT_ ?_; refine tk 1 36 (fb 9 71) HT_ HW_ hHeld ?_; refine pu 3 38 (fb 9 79) HT_ ?_; refine pu 4 39 (fb 9 95) HT_ ?_; refine tk 5 40 (fb 9 127) HT_ HW_ hHeld ?_; refine tk 7 42 (fb 9 255) HT_ HW_ hHeld ?_; refine pu 8 43 (fb 9 511) HT_ ?_; refine done_ (done_of HT_.out (by kernel_rfl)) ?_
           try go_wp2
           refine Ya6 (Kd.R_drew aa.out) (blk_drew a6.out) (blk_drew a7.out) (blk_drew a9.out) (blk_drew a8.out) (below_drew1 HB.out) ?_; clear aa a6 a7 a9 a8 HB; intro aa a6 a7 a9 a8 HB; have cc : 0 ≤ (a4 : Int) := oda; have cd : a4 < (a5.length : Int) := oda; obtain ⟨cM, cN, bM, bN, bO⟩ := at_T27 aN.out a4 cc cd; have hw147_2 := bO; have hw147_1 := bN; have hw147_0 := bM
           obtain rfl : ah = cM := (by injection cN)
           replace bM := pw_cell_below HB.out bM; replace bN := pw_cell_below HB.out bN; replace bO := pw_cell_below HB.out bO; replace cc := eq_true cc; replace cd := eq_true cd; refine start_ (n := 11) (S := fun w' => w'.cell? ⟨af, 0, none⟩ = some (al) ∧ w'.cell? ⟨ak, 0, none⟩ = some (.slice (some ah) a5.length aj) ∧ w'.cell? (ah.add ((a4).toNat * 3)) = some (.string ((rd_T27 a5 a4).f0)) ∧ w'.cell? ⟨(ah.add ((a4).toNat * 3)).block, (ah.add ((a4).toNat * 3)).off + 1, none⟩ = some (.string ((rd_T27 a5 a4).f1)) ∧ w'.cell? ⟨(ah.add ((a4).toNat * 3)).block, (ah.add ((a4).toNat * 3)).off + 2, none⟩ = some (.bool ((rd_T27 a5 a4).f2))) (ds := [10]) (fb 11 0) (by kernel_rfl) rfl rfl ⟨bc a8 0, bc a6 0, (pw_cell_below HB.out hw147_0), (pw_cell_below HB.out hw147_1), (pw_cell_below HB.out hw147_2)⟩ (fun hHeld => ?_); refine with_tabW spec_l5Set.tab10 spec_l5Set.bits10 (fun HT_ HW_ => ?_); generalize w60.drew = w61 at aa a6 a7 a9 a8 HB bM bN bO hHeld ⊢; refine pu 0 44 (fb 11 1) HT_ ?_; refine pu 2 46 (fb 11 5) HT_ ?_; refine pu 4 48 (fb 11 21) HT_ ?_; refine tk 1 45 (fb 11 23) HT_ HW_ hHeld ?_; refine tk 3 47 (fb 11 31) HT_ HW_ hHeld ?_; refine pu 5 49 (fb 11 63) HT_ ?_; refine tk 6 50 (fb 11 127) HT_ HW_ hHeld ?_; refine o1 7 (some 51) (fb 11 255) HT_ (fun K hK => ?_); refine value_ (w1 := ?_) (v := ?_) (by rfl) rfl ?_ ?_; rotate_left 2
           ·go_simp
            constructor
            ·rfl
            ·rfl
           refine hK.out _ _ ⟨(blk_cell (blk_alloc a8.out _) 0).trans rfl, (blk_cell (blk_alloc a6.out _) 0).trans rfl, (World.cell?_alloc_lt _ _ _ (World.block_lt_of_cell? _ _ ((pw_cell_below HB.out hw147_0)))).trans ((pw_cell_below HB.out hw147_0)), (World.cell?_alloc_lt _ _ _ (World.block_lt_of_cell? _ _ ((pw_cell_below HB.out hw147_1)))).trans ((pw_cell_below HB.out hw147_1)), (World.cell?_alloc_lt _ _ _ (World.block_lt_of_cell? _ _ ((pw_cell_below HB.out hw147_2)))).trans ((pw_cell_below HB.out hw147_2))⟩ (fun hHeld => ?_); clear hK K; refine nm 51 ?_; refine o1 8 (some 52) (fb 11 511) HT_ (fun K hK => ?_); refine Kd.R_append_step k27 (w0 := w) w.heap.size (by rfl) (.tmp 45) (.tmp 51) 23 27 (.agg #[(.string ⟨#[]⟩), (.string ⟨#[]⟩), (.bool false)]) 40 rfl Tryd.underlying23 info27 rfl (by decide) (by omega) al ad (⟨(rd_T27 a5 a4).f0, (rd_T27 a5 a4).f1, (rd_T27 a5 a4).f2⟩ : S27) [.string ((rd_T27 a5 a4).f0), .string ((rd_T27 a5 a4).f1), .bool ((rd_T27 a5 a4).f2)] (fun k_ => k_ ≠ ac) (fun _ => False) rfl rfl ?aP (fun _ hk => hk.elim) ?aF ?aO ?aB ?aS ?aL ?_; (case aP => exact k27_mkM _ _ _ (⟨(rd_T27 a5 a4).f0, (rd_T27 a5 a4).f1, (rd_T27 a5 a4).f2⟩ : S27)); (case aB => exact (bf HB.out)); (case aF => exact (fun k_ hk => Kd.freshB (g := ac) (o := .cells #[.string a1_0, .string a1_1, .bool a1_2] 27 (0, 0)) (bk a7.out) k_ hk)); (case aO => exact (kr aa.out)); (case aS => exact (below_size (bf HB.out))); (case aL => have := cK.out; omega); intro v149 w62 ho hb hg hat
           rw [← cL.out] at ho
           refine Ya6 (blk_grown (g := ak) (o := .cells #[.slice (some ah) a5.length aj] 25 (0, 0)) (bk a6.out) hg (Kd.R_ne aa.out a6.out (by decide))) (blk_grown (g := ac) (o := .cells #[.string a1_0, .string a1_1, .bool a1_2] 27 (0, 0)) (bk a7.out) hg (Kd.R_away aa.out (fun _ hk => hk))) (blk_grown (g := am) (o := .cells #[.slice none 0 0] 25 (0, 0)) (bk a9.out) hg (Kd.R_ne aa.out a9.out (by decide))) (blk_grown (g := af) (o := .cells #[al] 25 (0, 0)) (bk a8.out) hg (Kd.R_ne aa.out a8.out (by decide))) (hb) (ho) ?_; clear a6 a7 a9 a8 HB aa; intro a6 a7 a9 a8 HB cp; clear ho hb hg hat; obtain ⟨cO, cP, cq⟩ := Kd.R_slice cp.out; (first | subst cq | (injection cq with f1_ f2_ f3_; have f4_ := f1_.symm; have f5_ := f3_.symm; clear f1_ f2_ f3_; subst f4_; subst f5_)); refine hK.out _ _ ⟨bc a8 0, bc a6 0, (pw_cell_below HB.out hw147_0), (pw_cell_below HB.out hw147_1), (pw_cell_below HB.out hw147_2)⟩ (fun hHeld => ?_); clear hK K; refine nm 52 ?_; refine pu 9 53 (fb 11 1023) HT_ ?_; refine last_ (i := 10) (N := none) (fb 11 2047) rfl rfl (one_of HT_.out (by kernel_rfl)) (by decide) (fun K hK => ?_); have ⟨hs64, hfs64⟩ := Yc1 a8.out; have dk := an.out; have dl := ap.out; have dm := aq.out; have dn := aM.out; have dp := aQ.out; have dq := aR.out; refine skip_ (w1 := ?_) (by rfl) rfl ?_ ?_; rotate_left
           ·go_simp; rfl
           refine hK.out _ _ ?_; clear hK K; refine done_ (done_of HT_.out (by kernel_rfl)) ?_
           try go_wp2
           go_roundg ar
           case measure => have := HK1.out; have := HJ11.out; omega
           case rel => exact ⟨(ax), (wrap64 (a4 + 1)), (ca), (.slice cO ca.length cP), Ye1, Ye1, H', ⟨by have := HK1.out; have := HJ11.out; omega⟩, ⟨rf cp a8⟩, ⟨bkf a6.out an.out⟩, ⟨bkf a7.out ap.out⟩, ⟨bkf a9.out aq.out⟩, ⟨bp a8.out⟩, ⟨bf HB.out⟩⟩
          ·rw [if_neg bL] at H
           exact absurd H (by simp)
        ·rw [if_neg bK] at H
         exact absurd H (by simp)
       ·rw [if_neg bJ] at H
        exact absurd H (by simp)
   ·rw [if_neg aT] at H
    have ck : decide (a4 < (a5.length : Int)) = false := decide_eq_false aT; clear aT
    by_cases bP : ax = true
    ·subst bP
     have H1 : (some ad) = some r := by rw [if_pos rfl] at H; exact H
     clear H; have H := H1; clear H1; obtain rfl := Option.some.inj H; have hnb66 := b9.out; have hnc66 := ba.out; have hnb67 := bS.out; have hnc67 := bT.out; have hnb68 := an.out; have hnc68 := aM.out; have ⟨dr, dt⟩ := Yc1 a6.out; have hnb70 := aQ.out; have hnc70 := ap.out; have hnb71 := aR.out; have hnc71 := aq.out; have ⟨du, dv⟩ := Yc1 a8.out; obtain ⟨cr, cs, cQ⟩ := Kd.R_slice aa.out; subst cQ; have hnb74 := bv.out; have hnc74 := bu.out; have ⟨dw, dx⟩ := Yc1 a9.out
     go_wp2
     refine bodyPost_ret (results_cell_row rfl _ _ am 25 #[.slice cr ad.length cs] (0, 0) _ rfl (bp a9.out) Tryd.underlying25 rfl (by kernel_rfl)) rfl ?_; exact ⟨_, Ye2, by (with_reducible repeat (first | apply Kd.R_alloc | apply Kd.R_drewN | apply Kd.R_drew)); exact Kd.R_mono (Kd.R_far (p := ⟨am, 0, none⟩) (Kd.R_types aa.out a9.out (by decide)) (fun _ hk => hk.2) (.slice cr ad.length cs)) (fun _ hk => trivial), (bf HB.out)⟩
    ·replace bP := Bool.eq_false_iff.mpr bP; subst bP
     have H1 : (if ad.length < 3518437208883 then (some (ad ++ [(⟨a1_0, a1_1, a1_2⟩ : S27)])) else (none)) = some r := by rw [if_neg (show ¬ (false = true) by decide)] at H; exact H
     clear H; have H := H1; clear H1
     by_cases bQ : ad.length < 3518437208883
     ·rw [if_pos bQ] at H
      have cR := Aside0.mk bQ; clear bQ
      obtain ⟨bR, bq⟩ : ∃ y_ : List (S27), y_ = (ad ++ [(⟨a1_0, a1_1, a1_2⟩ : S27)]) := ⟨_, rfl⟩
      replace H : (some bR) = some r := by first | (rw [bq]; with_reducible exact H) | (have H2_ := (Option.bind_some _ _).symm.trans H; rw [bq]; with_reducible exact H2_) | (have H2_ := (Option.bind_some _ _).symm.trans H; with_reducible exact H2_) | with_reducible exact H | (rw [bq]; exact H) | exact H
      have cS := Aside0.mk bq; clear bq; obtain rfl := Option.some.inj H; have hnb77 := b9.out; have hnc77 := ba.out; have hnb78 := bS.out; have hnc78 := bT.out; have hnb79 := an.out; have hnc79 := aM.out; have ⟨dy, dA⟩ := Yc1 a6.out; have hnb81 := aQ.out; have hnc81 := ap.out; have hnb82 := aR.out; have hnc82 := aq.out; have ⟨dB, dC⟩ := Yc1 a8.out; have hnb84 := bu.out; have hnc84 := bv.out; have ⟨dD, dE, dF, dG, dH, dI⟩ := Yc3 a7.out
      go_wp2_with (first | ((with_reducible refine gate_builtin (b := .append) (xs := #[.tmp 57, .tmp 59]) rfl ?_); at_builtin; refine Kd.R_append k27 (w0 := w) w.heap.size rfl (.tmp 57) (.tmp 59) 23 27 (.agg #[(.string ⟨#[]⟩), (.string ⟨#[]⟩), (.bool false)]) 40 rfl Tryd.underlying23 info27 rfl (by decide) (by omega) al ad (⟨a1_0, a1_1, a1_2⟩ : S27) [.string a1_0, .string a1_1, .bool a1_2] (fun k_ => k_ ≠ ac) (fun _ => False) rfl rfl ?aP (fun _ hk => hk.elim) ?aF ?aO ?aB ?aS ?aL ?_; (case aP => exact k27_mkM _ _ _ (⟨a1_0, a1_1, a1_2⟩ : S27)); (case aB => exact (bf HB.out)); (case aF => exact (fun k_ hk => Kd.freshB (g := ac) (o := .cells #[.string a1_0, .string a1_1, .bool a1_2] 27 (0, 0)) (bk a7.out) k_ hk)); (case aO => exact (kr aa.out)); (case aS => exact (below_size (bf HB.out))); (case aL => have := cR.out; omega); intro v135 w86 ho hb hg hat; rw [← cS.out] at ho; refine Ya6 (blk_grown (g := ak) (o := .cells #[.slice ay a5.length aj] 25 (0, 0)) (bk a6.out) hg (Kd.R_ne aa.out a6.out (by decide))) (blk_grown (g := ac) (o := .cells #[.string a1_0, .string a1_1, .bool a1_2] 27 (0, 0)) (bk a7.out) hg (Kd.R_away aa.out (fun _ hk => hk))) (blk_grown (g := am) (o := .cells #[.slice none 0 0] 25 (0, 0)) (bk a9.out) hg (Kd.R_ne aa.out a9.out (by decide))) (blk_grown (g := af) (o := .cells #[al] 25 (0, 0)) (bk a8.out) hg (Kd.R_ne aa.out a8.out (by decide))) (hb) (ho) ?_; clear a6 a7 a9 a8 HB aa; intro a6 a7 a9 a8 HB ct; clear ho hb hg hat; obtain ⟨ce, cf, cT⟩ := Kd.R_slice ct.out; subst cT; have ⟨dJ, dK⟩ := Yc1 a8.out; have ⟨dL, dM⟩ := Yc1 a9.out))
      refine bodyPost_ret (results_cell_row rfl _ _ am 25 #[.slice ce bR.length cf] (0, 0) _ rfl (bp a9.out) Tryd.underlying25 rfl (by kernel_rfl)) rfl ?_; exact ⟨_, Ye2, by (with_reducible repeat (first | apply Kd.R_alloc | apply Kd.R_drewN | apply Kd.R_drew)); exact Kd.R_mono (Kd.R_far (p := ⟨am, 0, none⟩) (Kd.R_far (p := ⟨af, 0, none⟩) (Kd.R_types (Kd.R_types ct.out a8.out (by decide)) a9.out (by decide)) (fun _ hk => hk.1.2) (.slice ce bR.length cf)) (fun _ hk => hk.2) (.slice ce bR.length cf)) (fun _ hk => trivial), (bf HB.out)⟩
     ·rw [if_neg bQ] at H
      exact absurd H (by simp)

end Go.Proofs.YtknagppkeodggaaDoor.P


namespace Go.Proofs.YtknagppkeodggaaDoor.P
open Go.RowKit Go.Proofs.YtknagppkeodggaaDoorW.PrintWords Go.Proofs.YtknagppkeodggaaDoorW.PrintLast Go.Proofs.YtknagppkeodggaaDoorW.PrintMore
attribute [local go_sem] max2_int min2_int max_two min_two max_three min_three max_four min_four
set_option linter.unusedVariables false
set_option linter.unusedSimpArgs false

/-! ### spec_l5Begins: function 72 -/
def spec_l5Begins.f (a0 : ByteArray) (a1 : ByteArray) : Option (Bool) := if (a1.size : Int) > (a0.size : Int) then (if 0 ≤ (a0.size : Int) then (if (a0.size : Int) ≤ (a1.size : Int) then (if (a1.extract 0 ((a0.size : Int) : Int).toNat).toList = a0.toList then (if (a0.size : Int) < (a1.size : Int) then (some ((bt a1 (a0.size : Int)) == 47)) else (none)) else (some false)) else (none)) else (none)) else (some false)
set_option maxHeartbeats 8000000 in
set_option maxRecDepth 100000 in
theorem spec_l5Begins.calls (a0 : ByteArray) (a1 : ByteArray) (r : Bool) (w : World) (h : spec_l5Begins.f a0 a1 = some r) :
  Calls Tryd.prog 72 #[.string a0, .string a1] w fun e w' => e = .returned (.bool r) ∧ Drawn0 w w' := by
 have H : (if (a1.size : Int) > (a0.size : Int) then (if 0 ≤ (a0.size : Int) then (if (a0.size : Int) ≤ (a1.size : Int) then (if (a1.extract 0 ((a0.size : Int) : Int).toNat).toList = a0.toList then (if (a0.size : Int) < (a1.size : Int) then (some ((bt a1 (a0.size : Int)) == 47)) else (none)) else (some false)) else (none)) else (none)) else (some false)) = some r := h; clear h
 by_cases c3 : (a1.size : Int) > (a0.size : Int)
 ·rw [if_pos c3] at H
  have a6 : decide ((a0.size : Int) < (a1.size : Int)) = true := decide_eq_true c3; have a7 : decide (a0.size < a1.size) = true := decide_eq_true (Int.ofNat_lt.mp c3); clear c3
  by_cases c4 : 0 ≤ (a0.size : Int)
  ·rw [if_pos c4] at H
   have c4b0 := eq_true c4; have c4b1 : decide (0 ≤ (a0.size : Int)) = true := decide_eq_true c4; clear c4
   by_cases c5 : (a0.size : Int) ≤ (a1.size : Int)
   ·rw [if_pos c5] at H
    have c5b0 := eq_true c5; have c5b1 : decide ((a0.size : Int) ≤ (a1.size : Int)) = true := decide_eq_true c5; clear c5
    by_cases c6 : (a1.extract 0 ((a0.size : Int) : Int).toNat).toList = a0.toList
    ·rw [if_pos c6] at H
     have a2 : ((a1.extract 0 ((a0.size : Int) : Int).toNat).toList == a0.toList) = true := beq_iff_eq.mpr c6; have a3 := a2; (try simp only [Int.toNat_natCast] at a3); have a4 : ((a1.extract 0 ((a0.size : Int) : Int).toNat).toList != a0.toList) = false := bne_eq_false_iff_eq.mpr c6; have a5 := a4; (try simp only [Int.toNat_natCast] at a5); clear c6
     by_cases c7 : (a0.size : Int) < (a1.size : Int)
     ·rw [if_pos c7] at H
      have c7b0 : decide ((a0.size : Int) < (a1.size : Int)) = true := decide_eq_true c7; have c7b1 : decide (a0.size < a1.size) = true := decide_eq_true (Int.ofNat_lt.mp c7); clear c7; obtain rfl := Option.some.inj H; have p8 : 0 ≤ ((a0.size : Int) : Int) := oda; have q8 : (a0.size : Int) < (a1.size : Int) := oda; have hx8 := bt_at a1 (a0.size : Int); (try have hx8n := hx8 (by omega)); (try simp only [Int.toNat_natCast] at hx8n); replace p8 := eq_true p8; replace q8 := eq_true q8
      go_enter Tryd.func72, Tryd.ntmps72
      go_wp2
      go_ret
      exact ⟨Ye1, dz⟩
     ·rw [if_neg c7] at H
      exact absurd H (by simp)
    ·rw [if_neg c6] at H
     have a2 : ((a1.extract 0 ((a0.size : Int) : Int).toNat).toList == a0.toList) = false := beq_eq_false_iff_ne.mpr c6; have a3 := a2; (try simp only [Int.toNat_natCast] at a3); have a4 : ((a1.extract 0 ((a0.size : Int) : Int).toNat).toList != a0.toList) = true := bne_iff_ne.mpr c6; have a5 := a4; (try simp only [Int.toNat_natCast] at a5); obtain rfl := Option.some.inj H
     go_enter Tryd.func72, Tryd.ntmps72
     go_wp2
     go_ret
     exact ⟨Ye1, dz⟩
   ·rw [if_neg c5] at H
    exact absurd H (by simp)
  ·rw [if_neg c4] at H
   exact absurd H (by simp)
 ·rw [if_neg c3] at H
  have a6 : decide ((a0.size : Int) < (a1.size : Int)) = false := decide_eq_false c3; have a7 : decide (a0.size < a1.size) = false := decide_eq_false (fun h => c3 (Int.ofNat_lt.mpr h)); clear c3; obtain rfl := Option.some.inj H
  go_enter Tryd.func72, Tryd.ntmps72
  go_wp2
  go_ret
  exact ⟨Ye1, dz⟩

end Go.Proofs.YtknagppkeodggaaDoor.P


namespace Go.Proofs.YtknagppkeodggaaDoor.P
open Go.RowKit Go.Proofs.YtknagppkeodggaaDoorW.PrintWords Go.Proofs.YtknagppkeodggaaDoorW.PrintLast Go.Proofs.YtknagppkeodggaaDoorW.PrintMore
attribute [local go_sem] max2_int min2_int max_two min_two max_three min_three max_four min_four
set_option linter.unusedVariables false
set_option linter.unusedSimpArgs false

/-! ### spec_l1In: function 131 -/
def spec_l1In.f (a0 : Int) (a1 : Int) (a2 : Int) : Option (Bool) := if a0 ≥ a1 then (some (decide (a0 ≤ a2))) else (some false)
set_option maxHeartbeats 8000000 in
set_option maxRecDepth 100000 in
theorem spec_l1In.calls (a0 : Int) (a1 : Int) (a2 : Int) (r : Bool) (w : World) (h : spec_l1In.f a0 a1 a2 = some r) :
  Calls Tryd.prog 131 #[.int .i64 a0, .int .i64 a1, .int .i64 a2] w fun e w' => e = .returned (.bool r) ∧ Drawn0 w w' := by
 have H : (if a0 ≥ a1 then (some (decide (a0 ≤ a2))) else (some false)) = some r := h; clear h
 by_cases c4 : a0 ≥ a1
 ·rw [if_pos c4] at H
  have a3 : decide (a1 ≤ a0) = true := decide_eq_true c4; clear c4; obtain rfl := Option.some.inj H
  go_enter Tryd.func131, Tryd.ntmps131
  go_wp2
  go_ret
  exact ⟨Ye1, dz⟩
 ·rw [if_neg c4] at H
  have a3 : decide (a1 ≤ a0) = false := decide_eq_false c4; clear c4; obtain rfl := Option.some.inj H
  go_enter Tryd.func131, Tryd.ntmps131
  go_wp2
  go_ret
  exact ⟨Ye1, dz⟩

end Go.Proofs.YtknagppkeodggaaDoor.P

