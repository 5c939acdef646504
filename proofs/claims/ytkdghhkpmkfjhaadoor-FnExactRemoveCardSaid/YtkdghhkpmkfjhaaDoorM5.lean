/- Several texts of this claim in one file: YtkdghhkpmkfjhaaDoorPLawsEntry, YtkdghhkpmkfjhaaDoorPLawsTree, YtkdghhkpmkfjhaaDoorPImplFind, YtkdghhkpmkfjhaaDoorPImplIn, YtkdghhkpmkfjhaaDoorPImplGoodPart, YtkdghhkpmkfjhaaDoorPStringsSplit, YtkdghhkpmkfjhaaDoorPImplParts, YtkdghhkpmkfjhaaDoorPImplValidPath, YtkdghhkpmkfjhaaDoorPImplGoodEntry, YtkdghhkpmkfjhaaDoorPStringsliteHasPrefix, YtkdghhkpmkfjhaaDoorPStringsHasPrefix, YtkdghhkpmkfjhaaDoorPImplOver, YtkdghhkpmkfjhaaDoorPImplValidTree, YtkdghhkpmkfjhaaDoorPLawsMarkText, YtkdghhkpmkfjhaaDoorPLawsHeldEntryS, YtkdghhkpmkfjhaaDoorPLawsHeldTree, YtkdghhkpmkfjhaaDoorPLawsMarkEntryS, YtkdghhkpmkfjhaaDoorPLawsMarkTree, YtkdghhkpmkfjhaaDoorPSpecL5Begins, YtkdghhkpmkfjhaaDoorPSpecL1In, YtkdghhkpmkfjhaaDoorPSpecL4PartOk, YtkdghhkpmkfjhaaDoorPSpecL4Parts, YtkdghhkpmkfjhaaDoorPSpecL4Ok, YtkdghhkpmkfjhaaDoorPSpecValidPath. -/
import Derived.Test.YtkdghhkpmkfjhaaDoorM3
import Derived.Test.YtkdghhkpmkfjhaaDoorM4
import Derived.Deep.QuietTactic
import Derived.Lib.SplitLaws
namespace Go.Proofs.YtkdghhkpmkfjhaaDoor.P
open Go.RowKit Go.Proofs.YtkdghhkpmkfjhaaDoorW.PrintWords Go.Proofs.YtkdghhkpmkfjhaaDoorW.PrintLast Go.Proofs.YtkdghhkpmkfjhaaDoorW.PrintMore
attribute [local go_sem] max2_int min2_int max_two min_two max_three min_three max_four min_four
set_option linter.unusedVariables false
set_option linter.unusedSimpArgs false

/-! ### laws_szEntry: function 41 -/
def laws_szEntry.f (a0_0 : ByteArray) (a0_1 : ByteArray) (a0_2 : Bool) (a1 : Int) : Option (Int) := if (wrap64 (a1 - (a0_0.size : Int))) < 0 then (some (-1)) else (if (wrap64 ((wrap64 (a1 - (a0_0.size : Int))) - (a0_1.size : Int))) < 0 then (some (-1)) else (some (wrap64 ((wrap64 (a1 - (a0_0.size : Int))) - (a0_1.size : Int)))))
set_option maxHeartbeats 8000000 in
set_option maxRecDepth 100000 in
theorem laws_szEntry.calls (a0_0 : ByteArray) (a0_1 : ByteArray) (a0_2 : Bool) (a1 : Int) (r : Int) (w : World) (h : laws_szEntry.f a0_0 a0_1 a0_2 a1 = some r) :
  Calls Tryd.prog 41 #[.agg #[.string a0_0, .string a0_1, .bool a0_2], .int .i64 a1] w fun e w' => e = .returned (.int .i64 r) ∧ Below w.heap.size w w' := by
 have hu62 := Tryd.underlying62
 have HB := Aside0.mk (Below.refl w.heap.size w)
 have H : (if (wrap64 (a1 - (a0_0.size : Int))) < 0 then (some (-1)) else (if (wrap64 ((wrap64 (a1 - (a0_0.size : Int))) - (a0_1.size : Int))) < 0 then (some (-1)) else (some (wrap64 ((wrap64 (a1 - (a0_0.size : Int))) - (a0_1.size : Int)))))) = some r := h
 clear h
 by_cases c3 : (wrap64 (a1 - (a0_0.size : Int))) < 0
 ·rw [if_pos c3] at H
  have c3b0 : decide ((wrap64 (a1 - (a0_0.size : Int))) < 0) = true := decide_eq_true c3
  clear c3
  obtain rfl := Option.some.inj H
  go_enter Tryd.func41, Tryd.ntmps41
  go_wp2_with (first | ((with_reducible refine gd 2 rfl ?_); refine bx 2 62 (#[.string a0_0, .string a0_1, .bool a0_2]) ?_; intro gb101 hg w4 hbox hb; refine Ya4 (below_step (be HB.out) hb) (hbox) (bs hg (be HB.out)) (bs hg (be HB.out)) ?_; clear HB; intro HB BK101 GW101 GE101; clear hb hbox hg; have ⟨hcz5_0, hcz5_1, hcz5_2, hfz5_0, hfz5_1, hfz5_2⟩ := Yc3 BK101.out))
  go_ret
  exact ⟨Ye2, (by first | exact be1 HB.out GE101.out | exact be HB.out)⟩
 ·rw [if_neg c3] at H
  have c3b0 : decide ((wrap64 (a1 - (a0_0.size : Int))) < 0) = false := decide_eq_false c3
  clear c3
  by_cases c6 : (wrap64 ((wrap64 (a1 - (a0_0.size : Int))) - (a0_1.size : Int))) < 0
  ·rw [if_pos c6] at H
   have c6b0 : decide ((wrap64 ((wrap64 (a1 - (a0_0.size : Int))) - (a0_1.size : Int))) < 0) = true := decide_eq_true c6
   clear c6
   obtain rfl := Option.some.inj H
   go_enter Tryd.func41, Tryd.ntmps41
   go_wp2_with (first | ((with_reducible refine gd 2 rfl ?_); refine bx 2 62 (#[.string a0_0, .string a0_1, .bool a0_2]) ?_; intro gb101 hg w7 hbox hb; refine Ya4 (below_step (be HB.out) hb) (hbox) (bs hg (be HB.out)) (bs hg (be HB.out)) ?_; clear HB; intro HB BK101 GW101 GE101; clear hb hbox hg; have ⟨hcz8_0, hcz8_1, hcz8_2, hfz8_0, hfz8_1, hfz8_2⟩ := Yc3 BK101.out))
   go_ret
   exact ⟨Ye2, (by first | exact be1 HB.out GE101.out | exact be HB.out)⟩
  ·rw [if_neg c6] at H
   have c6b0 : decide ((wrap64 ((wrap64 (a1 - (a0_0.size : Int))) - (a0_1.size : Int))) < 0) = false := decide_eq_false c6
   clear c6
   obtain rfl := Option.some.inj H
   go_enter Tryd.func41, Tryd.ntmps41
   go_wp2_with (first | ((with_reducible refine gd 2 rfl ?_); refine bx 2 62 (#[.string a0_0, .string a0_1, .bool a0_2]) ?_; intro gb101 hg w9 hbox hb; refine Ya4 (below_step (be HB.out) hb) (hbox) (bs hg (be HB.out)) (bs hg (be HB.out)) ?_; clear HB; intro HB BK101 GW101 GE101; clear hb hbox hg; have ⟨hcz10_0, hcz10_1, hcz10_2, hfz10_0, hfz10_1, hfz10_2⟩ := Yc3 BK101.out))
   go_ret
   exact ⟨Ye2, (by first | exact be1 HB.out GE101.out | exact be HB.out)⟩

/-! ### laws_szEntryS: function 47 -/
def laws_szEntryS.l0 : Nat → List (S62) → Int → Int → Option (Int)
 | 0, _, _, _ => none
 | k + 1, x0, x1, x5 => if x5 < (x0.length : Int) then (if 0 ≤ x5 then ((laws_szEntry.f ((rd_T62 x0 x5).f0) ((rd_T62 x0 x5).f1) ((rd_T62 x0 x5).f2) x1).bind fun t103 => (if t103 < 0 then (some (-1)) else (laws_szEntryS.l0 k x0 t103 (wrap64 (x5 + 1))))) else (none)) else (some x1)
def laws_szEntryS.f (k : Nat) (l0 : List (S62)) (a1 : Int) : Option (Int) := if (wrap64 (a1 - (l0.length : Int))) < 0 then (some (-1)) else (laws_szEntryS.l0 k l0 (wrap64 (a1 - (l0.length : Int))) 0)
theorem laws_szEntryS.mono_l : ∀ k, (∀ y0 y1 y2, LeO (laws_szEntryS.l0 k y0 y1 y2) (laws_szEntryS.l0 (k + 1) y0 y1 y2))
 | 0 => fun _ _ _ r h => by simp [laws_szEntryS.l0] at h
 | k + 1 => by
  have ih0 := laws_szEntryS.mono_l k
  ·intro y0 y1 y2
   unfold laws_szEntryS.l0
   repeat' first
   | (with_reducible exact ih0 _ _ _)
   | (with_reducible exact LeO.refl _)
   | (with_reducible exact LeO.none _)
   | (with_reducible refine LeO.ite ?_ ?_)
   | (with_reducible refine LeO.bind ?_ (fun _ => ?_))
   | exact ih0 _ _ _
   | exact LeO.none _
   | refine LeO.ite ?_ ?_
   | refine LeO.bind ?_ (fun _ => ?_)
theorem laws_szEntryS.mono : ∀ a0 a1 k, LeO (laws_szEntryS.f k a0 a1) (laws_szEntryS.f (k + 1) a0 a1) := by
 intro a0 a1 k
 have ih0 := laws_szEntryS.mono_l k
 unfold laws_szEntryS.f
 repeat' first
   | (with_reducible exact ih0 _ _ _)
   | (with_reducible exact LeO.refl _)
   | (with_reducible exact LeO.none _)
   | (with_reducible refine LeO.ite ?_ ?_)
   | (with_reducible refine LeO.bind ?_ (fun _ => ?_))
   | exact ih0 _ _ _
   | exact LeO.none _
   | refine LeO.ite ?_ ?_
   | refine LeO.bind ?_ (fun _ => ?_)
set_option maxHeartbeats 8000000 in
set_option maxRecDepth 100000 in
theorem laws_szEntryS.calls (k : Nat) (A0 : Option Addr) (c0 : Nat) (l0 : List (S62)) (a1 : Int) (r : Int) (w : World) (hr0 : Kd.C k62 w A0 l0.length l0) (hc0 : l0.length ≤ c0) (h : laws_szEntryS.f k l0 a1 = some r) :
  Calls Tryd.prog 47 #[.slice A0 l0.length c0, .int .i64 a1] w fun e w' => e = .returned (.int .i64 r) ∧ Below w.heap.size w w' := by
 have hu62 := Tryd.underlying62
 have HR0 := Aside0.mk hr0
 have HC0 := Aside0.mk hc0
 clear hr0 hc0
 have HB := Aside0.mk (Below.refl w.heap.size w)
 have H : (if (wrap64 (a1 - (l0.length : Int))) < 0 then (some (-1)) else (laws_szEntryS.l0 k l0 (wrap64 (a1 - (l0.length : Int))) 0)) = some r := h
 clear h
 by_cases c3 : (wrap64 (a1 - (l0.length : Int))) < 0
 ·rw [if_pos c3] at H
  have c3b0 : decide ((wrap64 (a1 - (l0.length : Int))) < 0) = true := decide_eq_true c3
  clear c3
  obtain rfl := Option.some.inj H
  go_enter Tryd.func47, Tryd.ntmps47
  go_wp2
  go_ret
  exact ⟨Ye2, be HB.out⟩
 ·rw [if_neg c3] at H
  have c3b0 : decide ((wrap64 (a1 - (l0.length : Int))) < 0) = false := decide_eq_false c3
  clear c3
  have H' := Aside0.mk H
  clear H
  go_enter Tryd.func47, Tryd.ntmps47
  go_wp2
  go_loopg [1, 5] k (fun kq v1 v5 w' => ∃ (x1_1 : Int) (x5_1 : Int), v1 = .int .i64 x1_1 ∧ v5 = .int .i64 x5_1 ∧ Aside0 (laws_szEntryS.l0 kq l0 x1_1 x5_1 = some r) ∧ Aside0 (kq ≤ k) ∧ Aside0 (Below w.heap.size w w'))
  case atStart => exact ⟨(wrap64 (a1 - (l0.length : Int))), (0), Ye1, Ye1, H', ⟨Nat.le_refl _⟩, ⟨be HB.out⟩⟩
  case round =>
   clear H'
   try clear p2
   try clear c3
   try clear c3b0
   obtain ⟨x1_1, x5_1, rfl, rfl, HA, HK1, HB⟩ := hrel
   cases gk with
   | zero => exact absurd HA.out (by simp [laws_szEntryS.l0])
   | succ k1 =>
    have H := HA.out
    clear HA
    simp only [laws_szEntryS.l0] at H
    by_cases c4 : x5_1 < (l0.length : Int)
    ·rw [if_pos c4] at H
     have c4b0 : decide (x5_1 < (l0.length : Int)) = true := decide_eq_true c4
     clear c4
     by_cases c5 : 0 ≤ x5_1
     ·rw [if_pos c5] at H
      have c5b0 : decide (0 ≤ x5_1) = true := decide_eq_true c5
      clear c5
      replace H := Option.bind_eq_some_iff.mp H
      obtain ⟨t103, A60, H⟩ := H
      replace H : (if t103 < 0 then (some (-1)) else (laws_szEntryS.l0 k1 l0 t103 (wrap64 (x5_1 + 1)))) = some r := H
      have A6 := Aside0.mk A60
      clear A60
      by_cases c7 : t103 < 0
      ·rw [if_pos c7] at H
       have c7b0 : decide (t103 < 0) = true := decide_eq_true c7
       clear c7
       obtain rfl := Option.some.inj H
       have p102 : 0 ≤ (x5_1 : Int) := oda
       have q102 : x5_1 < (l0.length : Int) := oda
       obtain ⟨ad102, e102, hx102_0, hx102_1, hx102_2⟩ := at_T62 (Kd.C_below HR0.out HB.out) x5_1 p102 q102
       cases e102
       replace p102 := eq_true p102
       replace q102 := eq_true q102
       go_wp2_with (first | ((with_reducible refine gc 41 rfl ?_); refine gl (some 23) _ (#[.agg #[.string ((rd_T62 l0 x5_1).f0), .string ((rd_T62 l0 x5_1).f1), .bool ((rd_T62 l0 x5_1).f2)], .int .i64 x1_1]) Tryd.func41 ?_; (with_reducible refine (laws_szEntry.calls ((rd_T62 l0 x5_1).f0) ((rd_T62 l0 x5_1).f1) ((rd_T62 l0 x5_1).f2) x1_1 t103 _ A6.out).mono ?_); rintro e w8 ⟨rfl, hb⟩; refine ⟨_, rfl, ?_⟩; refine Ya1 (below_step (be HB.out) hb) ?_; clear HB; intro HB; (try clear hb); (try clear hb2); (try clear hk); (try clear hi)))
       go_ret
       exact ⟨Ye2, be HB.out⟩
      ·rw [if_neg c7] at H
       have c7b0 : decide (t103 < 0) = false := decide_eq_false c7
       clear c7
       have H' := Aside0.mk H
       clear H
       have p102 : 0 ≤ (x5_1 : Int) := oda
       have q102 : x5_1 < (l0.length : Int) := oda
       obtain ⟨ad102, e102, hx102_0, hx102_1, hx102_2⟩ := at_T62 (Kd.C_below HR0.out HB.out) x5_1 p102 q102
       cases e102
       replace p102 := eq_true p102
       replace q102 := eq_true q102
       go_wp2_with (first | ((with_reducible refine gc 41 rfl ?_); refine gl (some 23) _ (#[.agg #[.string ((rd_T62 l0 x5_1).f0), .string ((rd_T62 l0 x5_1).f1), .bool ((rd_T62 l0 x5_1).f2)], .int .i64 x1_1]) Tryd.func41 ?_; (with_reducible refine (laws_szEntry.calls ((rd_T62 l0 x5_1).f0) ((rd_T62 l0 x5_1).f1) ((rd_T62 l0 x5_1).f2) x1_1 t103 _ A6.out).mono ?_); rintro e w9 ⟨rfl, hb⟩; refine ⟨_, rfl, ?_⟩; refine Ya1 (below_step (be HB.out) hb) ?_; clear HB; intro HB; (try clear hb); (try clear hb2); (try clear hk); (try clear hi)))
       go_roundg k1
       case measure => have := HK1.out; omega
       case rel => exact ⟨(t103), (wrap64 (x5_1 + 1)), Ye1, Ye1, H', ⟨by have := HK1.out; omega⟩, ⟨be HB.out⟩⟩
     ·rw [if_neg c5] at H
      exact absurd H (by simp)
    ·rw [if_neg c4] at H
     have c4b0 : decide (x5_1 < (l0.length : Int)) = false := decide_eq_false c4
     clear c4
     obtain rfl := Option.some.inj H
     go_wp2
     go_ret
     exact ⟨Ye2, be HB.out⟩

/-! ### laws_toEntry: function 43 -/
def laws_toEntry.f (a0_0 : ByteArray) (a0_1 : ByteArray) (a0_2 : Bool) : Option (ByteArray × ByteArray × Bool) := some (a0_0, a0_1, a0_2)
set_option maxHeartbeats 8000000 in
set_option maxRecDepth 100000 in
theorem laws_toEntry.calls (a0_0 : ByteArray) (a0_1 : ByteArray) (a0_2 : Bool) (r1 : ByteArray) (r2 : ByteArray) (r3 : Bool) (w : World) (h : laws_toEntry.f a0_0 a0_1 a0_2 = some (r1, r2, r3)) :
  Calls Tryd.prog 43 #[.agg #[.string a0_0, .string a0_1, .bool a0_2]] w fun e w' => e = .returned (.agg #[.string r1, .string r2, .bool r3]) ∧ Below w.heap.size w w' := by
 have hu62 := Tryd.underlying62
 have hu45 := Tryd.underlying45
 have HB := Aside0.mk (Below.refl w.heap.size w)
 have H : (some (a0_0, a0_1, a0_2)) = some (r1, r2, r3) := h
 clear h
 simp only [Option.some.injEq, Prod.mk.injEq] at H
 obtain ⟨rfl, rfl, rfl⟩ := H
 go_enter Tryd.func43, Tryd.ntmps43
 go_wp2_with (first | ((with_reducible refine gd 1 rfl ?_); refine bx 1 62 (#[.string a0_0, .string a0_1, .bool a0_2]) ?_; intro gb129 hg w2 hbox hb; refine Ya4 (below_step (be HB.out) hb) (hbox) (bs hg (be HB.out)) (bs hg (be HB.out)) ?_; clear HB; intro HB BK129 GW129 GE129; clear hb hbox hg) | ((with_reducible refine gd 2 rfl ?_); refine bx 2 45 (#[.string (⟨#[]⟩ : ByteArray), .string (⟨#[]⟩ : ByteArray), .bool false]) ?_; intro gb130 hg w3 hbox hb; refine Ya7 (bb BK129 hb) (below_step (be1 HB.out GE129.out) hb) (hbox) (bs hg (be1 HB.out GE129.out)) (bs hg (be1 HB.out GE129.out)) (bl hg BK129) (br hg BK129) ?_; clear BK129 HB; intro BK129 HB BK130 GW130 GE130 NB129_130 NB130_129; clear hb hbox hg) | ((with_reducible refine gd 3 rfl ?_); refine bx 3 45 (#[.string (⟨#[]⟩ : ByteArray), .string (⟨#[]⟩ : ByteArray), .bool false]) ?_; intro gb131 hg w4 hbox hb; have n0_ := Aside0.mk (bb BK129 hb); have n1_ := Aside0.mk (bb BK130 hb); have n2_ := Aside0.mk (below_step (be2 HB.out GE129.out GE130.out) hb); have n3_ := Aside0.mk (hbox); have n4_ := Aside0.mk (bs hg (be2 HB.out GE129.out GE130.out)); have n5_ := Aside0.mk (bs hg (be2 HB.out GE129.out GE130.out)); have n6_ := Aside0.mk (bl hg BK129); have n7_ := Aside0.mk (br hg BK129); have n8_ := Aside0.mk (bl hg BK130); have n9_ := Aside0.mk (br hg BK130); clear BK129; clear BK130; clear HB; have BK129 := n0_; have BK130 := n1_; have HB := n2_; have BK131 := n3_; have GW131 := n4_; have GE131 := n5_; have NB129_131 := n6_; have NB131_129 := n7_; have NB130_131 := n8_; have NB131_130 := n9_; clear n0_ n1_ n2_ n3_ n4_ n5_ n6_ n7_ n8_ n9_; clear hb hbox hg; have hnb5 := NB129_130.out; have hnc5 := NB130_129.out; have hnb6 := NB129_131.out; have hnc6 := NB131_129.out; have ⟨hcz7_0, hcz7_1, hcz7_2, hfz7_0, hfz7_1, hfz7_2⟩ := Yc3 BK129.out; have hnb8 := NB131_130.out; have hnc8 := NB130_131.out; have ⟨hcz9_0, hcz9_1, hcz9_2, hfz9_0, hfz9_1, hfz9_2⟩ := Yc3 BK131.out; have ⟨hcz10_0, hcz10_1, hcz10_2, hfz10_0, hfz10_1, hfz10_2⟩ := Yc3 BK130.out))
 refine bodyPost_ret (results_cell_row rfl _ _ gb130 45 #[.string a0_0, .string a0_1, .bool a0_2] (0, 0) _ rfl (by (with_reducible repeat (first | refine blk_drewN ?_ _ | refine blk_drew ?_ | refine blk_alloc ?_ _)); refine blk_put (cs := #[.string a0_0, .string a0_1, .bool false]) ?_ 2 _ rfl; (with_reducible repeat (first | refine blk_drewN ?_ _ | refine blk_drew ?_ | refine blk_alloc ?_ _)); refine blk_put (cs := #[.string a0_0, .string (⟨#[]⟩ : ByteArray), .bool false]) ?_ 1 _ rfl; (with_reducible repeat (first | refine blk_drewN ?_ _ | refine blk_drew ?_ | refine blk_alloc ?_ _)); refine blk_put (cs := #[.string (⟨#[]⟩ : ByteArray), .string (⟨#[]⟩ : ByteArray), .bool false]) ?_ 0 _ rfl; (with_reducible repeat (first | refine blk_drewN ?_ _ | refine blk_drew ?_ | refine blk_alloc ?_ _)); refine blk_far ?_ NB130_131.out _; (with_reducible repeat (first | refine blk_drewN ?_ _ | refine blk_drew ?_ | refine blk_alloc ?_ _)); refine blk_far ?_ NB130_131.out _; (with_reducible repeat (first | refine blk_drewN ?_ _ | refine blk_drew ?_ | refine blk_alloc ?_ _)); refine blk_far ?_ NB130_131.out _; (with_reducible repeat (first | refine blk_drewN ?_ _ | refine blk_drew ?_ | refine blk_alloc ?_ _)); exact BK130.out) Tryd.underlying45 rfl (by kernel_rfl)) rfl ?_
 exact ⟨Ye2, (by first | exact be3 HB.out GE129.out GE130.out GE131.out | exact be2 HB.out GE129.out GE130.out | exact be1 HB.out GE129.out)⟩

/-! ### laws_toEntryS: function 50 -/
def laws_toEntryS.l0 : Nat → List (S62) → List (S45) → Int → Option ((List (S45)))
 | 0, _, _, _ => none
 | k + 1, x0, x3, x4 => if x4 < (x0.length : Int) then (if 0 ≤ x4 then ((laws_toEntry.f ((rd_T62 x0 x4).f0) ((rd_T62 x0 x4).f1) ((rd_T62 x0 x4).f2)).bind fun bt136 => (if x4 < (x3.length : Int) then (laws_toEntryS.l0 k x0 (x3.set (x4 : Int).toNat (⟨bt136.1, bt136.2.1, bt136.2.2⟩ : S45)) (wrap64 (x4 + 1))) else (none))) else (none)) else (some x3)
def laws_toEntryS.f (k : Nat) (l0 : List (S62)) : Option ((List (S45))) := if 0 ≤ (l0.length : Int) then (if ((l0.length : Int) : Int).toNat ≤ 7036874417766 then (laws_toEntryS.l0 k l0 (List.replicate ((l0.length : Int) : Int).toNat z45) 0) else (none)) else (none)
theorem laws_toEntryS.mono_l : ∀ k, (∀ y0 y1 y2, LeO (laws_toEntryS.l0 k y0 y1 y2) (laws_toEntryS.l0 (k + 1) y0 y1 y2))
 | 0 => fun _ _ _ r h => by simp [laws_toEntryS.l0] at h
 | k + 1 => by
  have ih0 := laws_toEntryS.mono_l k
  ·intro y0 y1 y2
   unfold laws_toEntryS.l0
   repeat' first
   | (with_reducible exact ih0 _ _ _)
   | (with_reducible exact LeO.refl _)
   | (with_reducible exact LeO.none _)
   | (with_reducible refine LeO.ite ?_ ?_)
   | (with_reducible refine LeO.bind ?_ (fun _ => ?_))
   | exact ih0 _ _ _
   | exact LeO.none _
   | refine LeO.ite ?_ ?_
   | refine LeO.bind ?_ (fun _ => ?_)
theorem laws_toEntryS.mono : ∀ a0 k, LeO (laws_toEntryS.f k a0) (laws_toEntryS.f (k + 1) a0) := by
 intro a0 k
 have ih0 := laws_toEntryS.mono_l k
 unfold laws_toEntryS.f
 repeat' first
   | (with_reducible exact ih0 _ _ _)
   | (with_reducible exact LeO.refl _)
   | (with_reducible exact LeO.none _)
   | (with_reducible refine LeO.ite ?_ ?_)
   | (with_reducible refine LeO.bind ?_ (fun _ => ?_))
   | exact ih0 _ _ _
   | exact LeO.none _
   | refine LeO.ite ?_ ?_
   | refine LeO.bind ?_ (fun _ => ?_)
set_option maxHeartbeats 8000000 in
set_option maxRecDepth 100000 in
theorem laws_toEntryS.calls (k : Nat) (A0 : Option Addr) (c0 : Nat) (l0 : List (S62)) (r : List (S45)) (w : World) (hr0 : Kd.C k62 w A0 l0.length l0) (hc0 : l0.length ≤ c0) (h : laws_toEntryS.f k l0 = some r) :
  Calls Tryd.prog 50 #[.slice A0 l0.length c0] w fun e w' => ∃ v0_ : Value, e = .returned (v0_) ∧ Kd.R k45 45 w' w.heap.size (fun _ => True) v0_ r ∧ Below w.heap.size w w' := by
 have hu62 := Tryd.underlying62
 have hu45 := Tryd.underlying45
 have HR0 := Aside0.mk hr0
 have HC0 := Aside0.mk hc0
 clear hr0 hc0
 have HB := Aside0.mk (Below.refl w.heap.size w)
 have H : (if 0 ≤ (l0.length : Int) then (if ((l0.length : Int) : Int).toNat ≤ 7036874417766 then (laws_toEntryS.l0 k l0 (List.replicate ((l0.length : Int) : Int).toNat z45) 0) else (none)) else (none)) = some r := h
 clear h
 by_cases c2 : 0 ≤ (l0.length : Int)
 ·rw [if_pos c2] at H
  have c2b0 := eq_true c2
  have c2b1 : decide (0 ≤ (l0.length : Int)) = true := decide_eq_true c2
  clear c2
  by_cases c3 : ((l0.length : Int) : Int).toNat ≤ 7036874417766
  ·rw [if_pos c3] at H
   have c3b0 := eq_true c3
   have c3b1 : decide (((l0.length : Int) : Int).toNat ≤ 7036874417766) = true := decide_eq_true c3
   clear c3
   obtain ⟨y132, hy132⟩ : ∃ y_ : List (S45), y_ = (List.replicate ((l0.length : Int) : Int).toNat z45) := ⟨_, rfl⟩
   replace H : (laws_toEntryS.l0 k l0 y132 0) = some r := by first | (rw [hy132]; with_reducible exact H) | (have H2_ := (Option.bind_some _ _).symm.trans H; rw [hy132]; with_reducible exact H2_) | (have H2_ := (Option.bind_some _ _).symm.trans H; with_reducible exact H2_) | with_reducible exact H | (rw [hy132]; exact H) | exact H
   have Ny132 := Aside0.mk hy132
   clear hy132
   have H' := Aside0.mk H
   clear H
   go_enter Tryd.func50, Tryd.ntmps50
   go_wp2_with (first | ((with_reducible refine gd 7 rfl ?_); refine Kd.R_make k45 _ 45 rfl (N := 7) rfl 27 _ _ rfl (l0.length : Int) rfl rfl Tryd.underlying27 (.agg #[(.string ⟨#[]⟩), (.string ⟨#[]⟩), (.bool false)]) 40 info45 rfl (by decide) (by omega) z45 (ok := fun _ => True) (okp := fun _ => True) (k45_mkM _ _ _ z45 ) (fun _ hk => hk) trivial (oda) (Nat.le_trans (Nat.mul_le_mul_right _ (oda : (l0.length : Int).toNat ≤ 7036874417766)) (by omega)) (Below.refl _ _) (Nat.le_refl _) ?_; intro v133 w4 ho5 hb hg_ hnew_; clear hg_ hnew_; (first | rw [← Ny132.out] at ho5 | (simp only [Int.reduceToNat] at ho5; rw [← Ny132.out] at ho5)); refine Ya2 (Kd.R_lower ho5 (below_size (be HB.out))) (below_step (be HB.out) hb) ?_; clear HB; intro HO134 HB; clear hb ho5))
   go_loopg [4] k (fun kq v4 w' => ∃ (x3_1 : List (S45)) (x4_1 : Int), v4 = .int .i64 x4_1 ∧ Aside0 (laws_toEntryS.l0 kq l0 x3_1 x4_1 = some r) ∧ Aside0 (kq ≤ k) ∧ Aside0 (Kd.R k45 45 w' w.heap.size (fun _ => True) v133 x3_1) ∧ Aside0 (Below w.heap.size w w'))
   case atStart => exact ⟨(y132), (0), Ye1, H', ⟨Nat.le_refl _⟩, ⟨kr HO134.out⟩, ⟨be HB.out⟩⟩
   case round =>
    clear H'
    try clear c2
    try clear c2b0
    try clear c2b1
    try clear p2
    try clear c3
    try clear c3b0
    try clear c3b1
    try clear c5
    obtain ⟨x3_1, x4_1, rfl, HA, HK1, HO_3, HB⟩ := hrel
    cases gk with
    | zero => exact absurd HA.out (by simp [laws_toEntryS.l0])
    | succ k1 =>
     have H := HA.out
     clear HA
     simp only [laws_toEntryS.l0] at H
     by_cases c6 : x4_1 < (l0.length : Int)
     ·rw [if_pos c6] at H
      have c6b0 : decide (x4_1 < (l0.length : Int)) = true := decide_eq_true c6
      clear c6
      by_cases c7 : 0 ≤ x4_1
      ·rw [if_pos c7] at H
       have c7b0 : decide (0 ≤ x4_1) = true := decide_eq_true c7
       clear c7
       replace H := Option.bind_eq_some_iff.mp H
       obtain ⟨⟨t136, t137, t138⟩, A80, H⟩ := H
       replace H : (if x4_1 < (x3_1.length : Int) then (laws_toEntryS.l0 k1 l0 (x3_1.set (x4_1 : Int).toNat (⟨t136, t137, t138⟩ : S45)) (wrap64 (x4_1 + 1))) else (none)) = some r := H
       have A8 := Aside0.mk A80
       clear A80
       by_cases c9 : x4_1 < (x3_1.length : Int)
       ·rw [if_pos c9] at H
        have c9b0 : decide (x4_1 < (x3_1.length : Int)) = true := decide_eq_true c9
        clear c9
        obtain ⟨y139, hy139⟩ : ∃ y_ : List (S45), y_ = (x3_1.set (x4_1 : Int).toNat (⟨t136, t137, t138⟩ : S45)) := ⟨_, rfl⟩
        replace H : (laws_toEntryS.l0 k1 l0 y139 (wrap64 (x4_1 + 1))) = some r := by first | (rw [hy139]; with_reducible exact H) | (have H2_ := (Option.bind_some _ _).symm.trans H; rw [hy139]; with_reducible exact H2_) | (have H2_ := (Option.bind_some _ _).symm.trans H; with_reducible exact H2_) | with_reducible exact H | (rw [hy139]; exact H) | exact H
        have Ny139 := Aside0.mk hy139
        clear hy139
        have H' := Aside0.mk H
        clear H
        have p135 : 0 ≤ (x4_1 : Int) := oda
        have q135 : x4_1 < (l0.length : Int) := oda
        obtain ⟨ad135, e135, hx135_0, hx135_1, hx135_2⟩ := at_T62 (Kd.C_below HR0.out HB.out) x4_1 p135 q135
        cases e135
        replace p135 := eq_true p135
        replace q135 := eq_true q135
        go_wp2_with (first | ((with_reducible refine gc 43 rfl ?_); refine gl (some 20) _ (#[.agg #[.string ((rd_T62 l0 x4_1).f0), .string ((rd_T62 l0 x4_1).f1), .bool ((rd_T62 l0 x4_1).f2)]]) Tryd.func43 ?_; (with_reducible refine (laws_toEntry.calls ((rd_T62 l0 x4_1).f0) ((rd_T62 l0 x4_1).f1) ((rd_T62 l0 x4_1).f2) t136 t137 t138 _ A8.out).mono ?_); rintro e w11 ⟨rfl, hb⟩; refine ⟨_, rfl, ?_⟩; refine Ya2 (Kd.R_below (kr HO_3.out) hb) (below_step (be HB.out) hb) ?_; clear HO_3 HB; intro HO_3 HB; (try clear hb); (try clear hb2); (try clear hk); (try clear hi); have p10 : 0 ≤ (x4_1 : Int) := oda; have q10 : (x4_1 : Int) < ((x3_1.length : Int) : Int) := oda; obtain ⟨go10, co10, eo10, gb10, gl10, cl10, HG10⟩ := Kd.R_form HO_3.out (by omega); (first | cases eo10 | (injection eo10 with ea_ en_ ec_; (first | subst ea_ | (injection ea_ with ea_; subst ea_)); subst ec_; clear en_)); have GB10 := Aside0.mk gb10; have GG10 := Aside0.mk HG10; clear gb10 gl10 HG10; obtain ⟨ce10, hcl10, hM10, hcc10, hfr10⟩ := Kd.R_elem HO_3.out z45 (x4_1 : Int) p10 q10; obtain rfl := k45_openM hM10; have hx10_0 : w11.cell? ⟨go10, (x4_1 : Int).toNat * 3, none⟩ = some (.string ((rd_T45 x3_1 x4_1).f0)) := hcc10 0 _ rfl; have hx10_1 : w11.cell? ⟨go10, (x4_1 : Int).toNat * 3 + 1, none⟩ = some (.string ((rd_T45 x3_1 x4_1).f1)) := hcc10 1 _ rfl; have hx10_2 : w11.cell? ⟨go10, (x4_1 : Int).toNat * 3 + 2, none⟩ = some (.bool ((rd_T45 x3_1 x4_1).f2)) := hcc10 2 _ rfl; have hf10_0 : w11.frozen? ⟨go10, (x4_1 : Int).toNat * 3, none⟩ = false := hfr10 0; have hf10_1 : w11.frozen? ⟨go10, (x4_1 : Int).toNat * 3 + 1, none⟩ = false := hfr10 1; have hf10_2 : w11.frozen? ⟨go10, (x4_1 : Int).toNat * 3 + 2, none⟩ = false := hfr10 2; (try clear hM10); clear hcl10 hcc10 hfr10; replace p10 := eq_true p10; replace q10 := eq_true q10; have HX12 := Aside0.mk (show Kd.R k45 45 w11 w.heap.size (fun _ => True) (.slice (some ⟨go10, 0, none⟩) x3_1.length co10) x3_1 from (kr HO_3.out)); obtain ⟨ce12, hcl12, hM12, hcc12, hfr12⟩ := Kd.R_elem HX12.out z45 (x4_1 : Int) (oda) (by have h_ : (x4_1 : Int) < ((x3_1.length : Int) : Int) := oda; first | exact h_ | (have e_ := (Kd.R_reads' HO_3.out).1; omega) | simpa using h_); obtain rfl := k45_openM hM12; have HP12 := Kd.R_seg HX12.out (x4_1 : Int) (oda) (by have h_ : (x4_1 : Int) < ((x3_1.length : Int) : Int) := oda; first | exact h_ | (have e_ := (Kd.R_reads' HO_3.out).1; omega) | simpa using h_) (seg := [.string t136, .string t137, .bool t138]) (j := 0) hcl12 hcc12 (show 3 ≤ 3 from by decide) (x' := (⟨t136, t137, t138⟩ : S45)) (k45_mkM _ _ _ (⟨t136, t137, t138⟩ : S45) ) (fun _ hk => hk); have hx12_0 := hcc12 0 _ rfl; (try simp only [show (k45).sz = 3 from rfl, Nat.mul_one, Nat.add_zero] at hx12_0); have hf12_0 := hfr12 0; (try simp only [show (k45).sz = 3 from rfl, Nat.mul_one, Nat.add_zero] at hf12_0); have hx12_1 := hcc12 1 _ rfl; (try simp only [show (k45).sz = 3 from rfl, Nat.mul_one, Nat.add_zero] at hx12_1); have hf12_1 := hfr12 1; (try simp only [show (k45).sz = 3 from rfl, Nat.mul_one, Nat.add_zero] at hf12_1); have hx12_2 := hcc12 2 _ rfl; (try simp only [show (k45).sz = 3 from rfl, Nat.mul_one, Nat.add_zero] at hx12_2); have hf12_2 := hfr12 2; (try simp only [show (k45).sz = 3 from rfl, Nat.mul_one, Nat.add_zero] at hf12_2); (try clear hM12); clear hcl12 hcc12 hfr12) | ((with_reducible refine gate_store (t := 45) (p := 21) rfl ?_); refine store_event (t := 45) (p := 21) (v := ?vo_w13) (w1 := (((w11.setCell ⟨go10, (x4_1 : Int).toNat * 3, none⟩ (.string t136)).setCell ⟨go10, (x4_1 : Int).toNat * 3 + 1, none⟩ (.string t137)).setCell ⟨go10, (x4_1 : Int).toNat * 3 + 2, none⟩ (.bool t138))) ?hg ?ho ?hn ?hr ?_; (case ho => rfl); (case hg => rfl); (case hn => rfl); (case hr => first | (go_simp; done) | (go_simp; rfl)); intro w13 hw; have hg : w11.grownBy w13 (some go10) := (by rw [hw]; exact HP12.2); have hp_ : Kd.R k45 45 w13 w.heap.size (fun _ => True) (.slice (some ⟨go10, 0, none⟩) x3_1.length co10) y139 := (by rw [hw, Ny139.out]; exact HP12.1); clear HP12; refine Ya2 (hp_) ((by rw [hw]; exact below_set (below_set (below_set (HB.out) GB10.out) GB10.out) GB10.out : Below w.heap.size w w13)) ?_; clear HO_3 HB; intro HO_3 HB; clear hg hw hp_))
        go_roundg k1
        case measure => have := HK1.out; omega
        case rel => exact ⟨(y139), (wrap64 (x4_1 + 1)), Ye1, H', ⟨by have := HK1.out; omega⟩, ⟨kr HO_3.out⟩, ⟨be HB.out⟩⟩
       ·rw [if_neg c9] at H
        exact absurd H (by simp)
      ·rw [if_neg c7] at H
       exact absurd H (by simp)
     ·rw [if_neg c6] at H
      have c6b0 : decide (x4_1 < (l0.length : Int)) = false := decide_eq_false c6
      clear c6
      obtain rfl := Option.some.inj H
      go_wp2
      go_ret
      exact ⟨_, Ye2, kr HO_3.out, be HB.out⟩
  ·rw [if_neg c3] at H
   exact absurd H (by simp)
 ·rw [if_neg c2] at H
  exact absurd H (by simp)

/-! ### laws_eqEntry: function 24 -/
def laws_eqEntry.f (a0_0 : ByteArray) (a0_1 : ByteArray) (a0_2 : Bool) (a1_0 : ByteArray) (a1_1 : ByteArray) (a1_2 : Bool) : Option (Bool) := if a0_0.toList = a1_0.toList then (if a0_1.toList = a1_1.toList then (if (a0_2 != a1_2) = true then (some false) else (some true)) else (some false)) else (some false)
set_option maxHeartbeats 8000000 in
set_option maxRecDepth 100000 in
theorem laws_eqEntry.calls (a0_0 : ByteArray) (a0_1 : ByteArray) (a0_2 : Bool) (a1_0 : ByteArray) (a1_1 : ByteArray) (a1_2 : Bool) (r : Bool) (w : World) (h : laws_eqEntry.f a0_0 a0_1 a0_2 a1_0 a1_1 a1_2 = some r) :
  Calls Tryd.prog 24 #[.agg #[.string a0_0, .string a0_1, .bool a0_2], .agg #[.string a1_0, .string a1_1, .bool a1_2]] w fun e w' => e = .returned (.bool r) ∧ Below w.heap.size w w' := by
 have hu45 := Tryd.underlying45
 have HB := Aside0.mk (Below.refl w.heap.size w)
 have H : (if a0_0.toList = a1_0.toList then (if a0_1.toList = a1_1.toList then (if (a0_2 != a1_2) = true then (some false) else (some true)) else (some false)) else (some false)) = some r := h
 clear h
 by_cases c3 : a0_0.toList = a1_0.toList
 ·rw [if_pos c3] at H
  have c3b0 : (a0_0.toList == a1_0.toList) = true := beq_iff_eq.mpr c3
  have c3b1 : (a0_0.toList != a1_0.toList) = false := bne_eq_false_iff_eq.mpr c3
  clear c3
  by_cases c4 : a0_1.toList = a1_1.toList
  ·rw [if_pos c4] at H
   have c4b0 : (a0_1.toList == a1_1.toList) = true := beq_iff_eq.mpr c4
   have c4b1 : (a0_1.toList != a1_1.toList) = false := bne_eq_false_iff_eq.mpr c4
   clear c4
   by_cases c5 : (a0_2 != a1_2) = true
   ·rw [if_pos c5] at H
    have c5b0 : (a0_2 != a1_2) = true := c5
    (try (have c5b1 : decide (a0_2 = a1_2) = false := by simpa using c5))
    (try (have c5b2 : (a0_2 == a1_2) = false := by simpa using c5))
    (try (have c5b3 : ¬ (a0_2 = a1_2) := by simpa using c5))
    clear c5
    obtain rfl := Option.some.inj H
    go_enter Tryd.func24, Tryd.ntmps24
    go_wp2_with (first | ((with_reducible refine gd 2 rfl ?_); refine bx 2 45 (#[.string a0_0, .string a0_1, .bool a0_2]) ?_; intro gb166 hg w6 hbox hb; refine Ya4 (below_step (be HB.out) hb) (hbox) (bs hg (be HB.out)) (bs hg (be HB.out)) ?_; clear HB; intro HB BK166 GW166 GE166; clear hb hbox hg) | ((with_reducible refine gd 3 rfl ?_); refine bx 3 45 (#[.string a1_0, .string a1_1, .bool a1_2]) ?_; intro gb167 hg w7 hbox hb; refine Ya7 (bb BK166 hb) (below_step (be1 HB.out GE166.out) hb) (hbox) (bs hg (be1 HB.out GE166.out)) (bs hg (be1 HB.out GE166.out)) (bl hg BK166) (br hg BK166) ?_; clear BK166 HB; intro BK166 HB BK167 GW167 GE167 NB166_167 NB167_166; clear hb hbox hg; have hnb8 := NB166_167.out; have hnc8 := NB167_166.out; have ⟨hcz9_0, hcz9_1, hcz9_2, hfz9_0, hfz9_1, hfz9_2⟩ := Yc3 BK166.out; have ⟨hcz10_0, hcz10_1, hcz10_2, hfz10_0, hfz10_1, hfz10_2⟩ := Yc3 BK167.out))
    go_ret
    exact ⟨Ye2, (by first | exact be2 HB.out GE166.out GE167.out | exact be1 HB.out GE166.out | exact be HB.out)⟩
   ·rw [if_neg c5] at H
    have c5b0 : (a0_2 != a1_2) = false := by simpa using c5
    (try (have c5b1 : decide (a0_2 = a1_2) = true := by simpa using c5))
    (try (have c5b2 : (a0_2 == a1_2) = true := by simpa using c5))
    clear c5
    obtain rfl := Option.some.inj H
    go_enter Tryd.func24, Tryd.ntmps24
    go_wp2_with (first | ((with_reducible refine gd 2 rfl ?_); refine bx 2 45 (#[.string a0_0, .string a0_1, .bool a0_2]) ?_; intro gb166 hg w11 hbox hb; refine Ya4 (below_step (be HB.out) hb) (hbox) (bs hg (be HB.out)) (bs hg (be HB.out)) ?_; clear HB; intro HB BK166 GW166 GE166; clear hb hbox hg) | ((with_reducible refine gd 3 rfl ?_); refine bx 3 45 (#[.string a1_0, .string a1_1, .bool a1_2]) ?_; intro gb167 hg w12 hbox hb; refine Ya7 (bb BK166 hb) (below_step (be1 HB.out GE166.out) hb) (hbox) (bs hg (be1 HB.out GE166.out)) (bs hg (be1 HB.out GE166.out)) (bl hg BK166) (br hg BK166) ?_; clear BK166 HB; intro BK166 HB BK167 GW167 GE167 NB166_167 NB167_166; clear hb hbox hg; have hnb13 := NB166_167.out; have hnc13 := NB167_166.out; have ⟨hcz14_0, hcz14_1, hcz14_2, hfz14_0, hfz14_1, hfz14_2⟩ := Yc3 BK166.out; have ⟨hcz15_0, hcz15_1, hcz15_2, hfz15_0, hfz15_1, hfz15_2⟩ := Yc3 BK167.out))
    go_ret
    exact ⟨Ye2, (by first | exact be2 HB.out GE166.out GE167.out | exact be1 HB.out GE166.out | exact be HB.out)⟩
  ·rw [if_neg c4] at H
   have c4b0 : (a0_1.toList == a1_1.toList) = false := beq_eq_false_iff_ne.mpr c4
   have c4b1 : (a0_1.toList != a1_1.toList) = true := bne_iff_ne.mpr c4
   obtain rfl := Option.some.inj H
   go_enter Tryd.func24, Tryd.ntmps24
   go_wp2_with (first | ((with_reducible refine gd 2 rfl ?_); refine bx 2 45 (#[.string a0_0, .string a0_1, .bool a0_2]) ?_; intro gb166 hg w16 hbox hb; refine Ya4 (below_step (be HB.out) hb) (hbox) (bs hg (be HB.out)) (bs hg (be HB.out)) ?_; clear HB; intro HB BK166 GW166 GE166; clear hb hbox hg) | ((with_reducible refine gd 3 rfl ?_); refine bx 3 45 (#[.string a1_0, .string a1_1, .bool a1_2]) ?_; intro gb167 hg w17 hbox hb; refine Ya7 (bb BK166 hb) (below_step (be1 HB.out GE166.out) hb) (hbox) (bs hg (be1 HB.out GE166.out)) (bs hg (be1 HB.out GE166.out)) (bl hg BK166) (br hg BK166) ?_; clear BK166 HB; intro BK166 HB BK167 GW167 GE167 NB166_167 NB167_166; clear hb hbox hg; have hnb18 := NB166_167.out; have hnc18 := NB167_166.out; have ⟨hcz19_0, hcz19_1, hcz19_2, hfz19_0, hfz19_1, hfz19_2⟩ := Yc3 BK166.out; have ⟨hcz20_0, hcz20_1, hcz20_2, hfz20_0, hfz20_1, hfz20_2⟩ := Yc3 BK167.out))
   go_ret
   exact ⟨Ye2, (by first | exact be2 HB.out GE166.out GE167.out | exact be1 HB.out GE166.out | exact be HB.out)⟩
 ·rw [if_neg c3] at H
  have c3b0 : (a0_0.toList == a1_0.toList) = false := beq_eq_false_iff_ne.mpr c3
  have c3b1 : (a0_0.toList != a1_0.toList) = true := bne_iff_ne.mpr c3
  obtain rfl := Option.some.inj H
  go_enter Tryd.func24, Tryd.ntmps24
  go_wp2_with (first | ((with_reducible refine gd 2 rfl ?_); refine bx 2 45 (#[.string a0_0, .string a0_1, .bool a0_2]) ?_; intro gb166 hg w21 hbox hb; refine Ya4 (below_step (be HB.out) hb) (hbox) (bs hg (be HB.out)) (bs hg (be HB.out)) ?_; clear HB; intro HB BK166 GW166 GE166; clear hb hbox hg) | ((with_reducible refine gd 3 rfl ?_); refine bx 3 45 (#[.string a1_0, .string a1_1, .bool a1_2]) ?_; intro gb167 hg w22 hbox hb; refine Ya7 (bb BK166 hb) (below_step (be1 HB.out GE166.out) hb) (hbox) (bs hg (be1 HB.out GE166.out)) (bs hg (be1 HB.out GE166.out)) (bl hg BK166) (br hg BK166) ?_; clear BK166 HB; intro BK166 HB BK167 GW167 GE167 NB166_167 NB167_166; clear hb hbox hg; have hnb23 := NB166_167.out; have hnc23 := NB167_166.out; have ⟨hcz24_0, hcz24_1, hcz24_2, hfz24_0, hfz24_1, hfz24_2⟩ := Yc3 BK166.out; have ⟨hcz25_0, hcz25_1, hcz25_2, hfz25_0, hfz25_1, hfz25_2⟩ := Yc3 BK167.out))
  go_ret
  exact ⟨Ye2, (by first | exact be2 HB.out GE166.out GE167.out | exact be1 HB.out GE166.out | exact be HB.out)⟩

/-! ### laws_eqEntryS: function 53 -/
def laws_eqEntryS.l0 : Nat → List (S45) → List (S45) → Int → Option (Bool)
 | 0, _, _, _ => none
 | k + 1, x0, x1, x5 => if x5 < (x0.length : Int) then (if 0 ≤ x5 then (if x5 < (x1.length : Int) then ((laws_eqEntry.f ((rd_T45 x0 x5).f0) ((rd_T45 x0 x5).f1) ((rd_T45 x0 x5).f2) ((rd_T45 x1 x5).f0) ((rd_T45 x1 x5).f1) ((rd_T45 x1 x5).f2)).bind fun t170 => (if t170 = true then (laws_eqEntryS.l0 k x0 x1 (wrap64 (x5 + 1))) else (some false))) else (none)) else (none)) else (some true)
def laws_eqEntryS.f (k : Nat) (l0 : List (S45)) (l1 : List (S45)) : Option (Bool) := if (l0.length : Int) = (l1.length : Int) then (laws_eqEntryS.l0 k l0 l1 0) else (some false)
theorem laws_eqEntryS.mono_l : ∀ k, (∀ y0 y1 y2, LeO (laws_eqEntryS.l0 k y0 y1 y2) (laws_eqEntryS.l0 (k + 1) y0 y1 y2))
 | 0 => fun _ _ _ r h => by simp [laws_eqEntryS.l0] at h
 | k + 1 => by
  have ih0 := laws_eqEntryS.mono_l k
  ·intro y0 y1 y2
   unfold laws_eqEntryS.l0
   repeat' first
   | (with_reducible exact ih0 _ _ _)
   | (with_reducible exact LeO.refl _)
   | (with_reducible exact LeO.none _)
   | (with_reducible refine LeO.ite ?_ ?_)
   | (with_reducible refine LeO.bind ?_ (fun _ => ?_))
   | exact ih0 _ _ _
   | exact LeO.none _
   | refine LeO.ite ?_ ?_
   | refine LeO.bind ?_ (fun _ => ?_)
theorem laws_eqEntryS.mono : ∀ a0 a1 k, LeO (laws_eqEntryS.f k a0 a1) (laws_eqEntryS.f (k + 1) a0 a1) := by
 intro a0 a1 k
 have ih0 := laws_eqEntryS.mono_l k
 unfold laws_eqEntryS.f
 repeat' first
   | (with_reducible exact ih0 _ _ _)
   | (with_reducible exact LeO.refl _)
   | (with_reducible exact LeO.none _)
   | (with_reducible refine LeO.ite ?_ ?_)
   | (with_reducible refine LeO.bind ?_ (fun _ => ?_))
   | exact ih0 _ _ _
   | exact LeO.none _
   | refine LeO.ite ?_ ?_
   | refine LeO.bind ?_ (fun _ => ?_)
def laws_eqEntryS.T6 : Bool × List (List Nat × List Nat) := (true, [([], []), ([], []), ([0, 1], [0, 1]), ([2], [2]), ([], []), ([], []), ([4, 5], [4, 5]), ([6], [6]), ([3, 7], [3, 7]), ([8], [8])])
def laws_eqEntryS.B6 : List Nat := [0, 0, 3, 7, 0, 0, 48, 112, 255, 511]
theorem laws_eqEntryS.tab6 : rtab .any (opsOf Tryd.f53 6) = laws_eqEntryS.T6 := by kernel_rfl
theorem laws_eqEntryS.bits6 : waitsOk laws_eqEntryS.T6.2 laws_eqEntryS.B6 = true := by kernel_rfl
set_option maxHeartbeats 8000000 in
set_option maxRecDepth 100000 in
theorem laws_eqEntryS.calls (k : Nat) (A0 : Option Addr) (c0 : Nat) (l0 : List (S45)) (A1 : Option Addr) (c1 : Nat) (l1 : List (S45)) (r : Bool) (w : World) (hr0 : Kd.C k45 w A0 l0.length l0) (hc0 : l0.length ≤ c0) (hr1 : Kd.C k45 w A1 l1.length l1) (hc1 : l1.length ≤ c1) (h : laws_eqEntryS.f k l0 l1 = some r) :
  Calls Tryd.prog 53 #[.slice A0 l0.length c0, .slice A1 l1.length c1] w fun e w' => e = .returned (.bool r) ∧ Below w.heap.size w w' := by
 have hu45 := Tryd.underlying45
 have HR0 := Aside0.mk hr0
 have HC0 := Aside0.mk hc0
 clear hr0 hc0
 have HR1 := Aside0.mk hr1
 have HC1 := Aside0.mk hc1
 clear hr1 hc1
 have HB := Aside0.mk (Below.refl w.heap.size w)
 have H : (if (l0.length : Int) = (l1.length : Int) then (laws_eqEntryS.l0 k l0 l1 0) else (some false)) = some r := h
 clear h
 by_cases c3 : (l0.length : Int) = (l1.length : Int)
 ·rw [if_pos c3] at H
  have c3b0 : ((l0.length : Int) == (l1.length : Int)) = true := beq_iff_eq.mpr c3
  have c3b1 : ((l0.length : Int) != (l1.length : Int)) = false := bne_eq_false_iff_eq.mpr c3
  have c3b2 : (l0.length == l1.length) = true := by first | simpa using c3 | (simp at c3 ⊢; omega)
  clear c3
  have H' := Aside0.mk H
  clear H
  go_enter Tryd.func53, Tryd.ntmps53
  go_wp2
  go_loopg [5] k (fun kq v5 w' => ∃ (x5_1 : Int), v5 = .int .i64 x5_1 ∧ Aside0 (laws_eqEntryS.l0 kq l0 l1 x5_1 = some r) ∧ Aside0 (kq ≤ k) ∧ Aside0 (Below w.heap.size w w'))
  case atStart => exact ⟨(0), Ye1, H', ⟨Nat.le_refl _⟩, ⟨be HB.out⟩⟩
  case round =>
   clear H'
   try clear c1
   try clear p2
   try clear c3
   try clear c3b0
   try clear c3b1
   try clear c3b2
   obtain ⟨x5_1, rfl, HA, HK1, HB⟩ := hrel
   cases gk with
   | zero => exact absurd HA.out (by simp [laws_eqEntryS.l0])
   | succ k1 =>
    have H := HA.out
    clear HA
    simp only [laws_eqEntryS.l0] at H
    by_cases c4 : x5_1 < (l0.length : Int)
    ·rw [if_pos c4] at H
     have c4b0 : decide (x5_1 < (l0.length : Int)) = true := decide_eq_true c4
     clear c4
     by_cases c5 : 0 ≤ x5_1
     ·rw [if_pos c5] at H
      have c5b0 : decide (0 ≤ x5_1) = true := decide_eq_true c5
      clear c5
      by_cases c6 : x5_1 < (l1.length : Int)
      ·rw [if_pos c6] at H
       have c6b0 : decide (x5_1 < (l1.length : Int)) = true := decide_eq_true c6
       clear c6
       replace H := Option.bind_eq_some_iff.mp H
       obtain ⟨t170, A70, H⟩ := H
       replace H : (if t170 = true then (laws_eqEntryS.l0 k1 l0 l1 (wrap64 (x5_1 + 1))) else (some false)) = some r := H
       have A7 := Aside0.mk A70
       clear A70
       by_cases c8 : t170 = true
       ·subst c8
        have H1 : (laws_eqEntryS.l0 k1 l0 l1 (wrap64 (x5_1 + 1))) = some r := by rw [if_pos rfl] at H; exact H
        clear H
        have H := H1
        clear H1
        have H' := Aside0.mk H
        clear H
        try go_wp2
        refine Ya1 (below_drew1 HB.out) ?_
        clear HB
        intro HB
        have p168 : 0 ≤ (x5_1 : Int) := oda
        have q168 : x5_1 < (l0.length : Int) := oda
        obtain ⟨ad168, e168, hx168_0, hx168_1, hx168_2⟩ := at_T45 HR0.out x5_1 p168 q168
        have hw168_2 := hx168_2
        have hw168_1 := hx168_1
        have hw168_0 := hx168_0
        cases e168
        replace hx168_0 := pw_cell_below HB.out hx168_0
        replace hx168_1 := pw_cell_below HB.out hx168_1
        replace hx168_2 := pw_cell_below HB.out hx168_2
        replace p168 := eq_true p168
        replace q168 := eq_true q168
        have p169 : 0 ≤ (x5_1 : Int) := oda
        have q169 : x5_1 < (l1.length : Int) := oda
        obtain ⟨ad169, e169, hx169_0, hx169_1, hx169_2⟩ := at_T45 HR1.out x5_1 p169 q169
        have hw169_2 := hx169_2
        have hw169_1 := hx169_1
        have hw169_0 := hx169_0
        cases e169
        replace hx169_0 := pw_cell_below HB.out hx169_0
        replace hx169_1 := pw_cell_below HB.out hx169_1
        replace hx169_2 := pw_cell_below HB.out hx169_2
        replace p169 := eq_true p169
        replace q169 := eq_true q169
        refine start_ (n := 10) (S := fun w' => w'.cell? (ad168.add ((x5_1).toNat * 3)) = some (.string ((rd_T45 l0 x5_1).f0)) ∧ w'.cell? ⟨(ad168.add ((x5_1).toNat * 3)).block, (ad168.add ((x5_1).toNat * 3)).off + 1, none⟩ = some (.string ((rd_T45 l0 x5_1).f1)) ∧ w'.cell? ⟨(ad168.add ((x5_1).toNat * 3)).block, (ad168.add ((x5_1).toNat * 3)).off + 2, none⟩ = some (.bool ((rd_T45 l0 x5_1).f2)) ∧ w'.cell? (ad169.add ((x5_1).toNat * 3)) = some (.string ((rd_T45 l1 x5_1).f0)) ∧ w'.cell? ⟨(ad169.add ((x5_1).toNat * 3)).block, (ad169.add ((x5_1).toNat * 3)).off + 1, none⟩ = some (.string ((rd_T45 l1 x5_1).f1)) ∧ w'.cell? ⟨(ad169.add ((x5_1).toNat * 3)).block, (ad169.add ((x5_1).toNat * 3)).off + 2, none⟩ = some (.bool ((rd_T45 l1 x5_1).f2))) (ds := []) (fb 10 0) (by kernel_rfl) rfl rfl ⟨(pw_cell_below HB.out hw168_0), (pw_cell_below HB.out hw168_1), (pw_cell_below HB.out hw168_2), (pw_cell_below HB.out hw169_0), (pw_cell_below HB.out hw169_1), (pw_cell_below HB.out hw169_2)⟩ (fun hHeld => ?_); refine with_tabW laws_eqEntryS.tab6 laws_eqEntryS.bits6 (fun HT_ HW_ => ?_)
        generalize wr.drew = w9 at HB hx168_0 hx168_1 hx168_2 hx169_0 hx169_1 hx169_2 hHeld ⊢
        refine pu 0 17 (fb 10 1) HT_ ?_
        refine pu 1 18 (fb 10 3) HT_ ?_
        refine pu 2 19 (fb 10 7) HT_ ?_
        refine pu 4 21 (fb 10 23) HT_ ?_
        refine pu 5 22 (fb 10 55) HT_ ?_
        refine pu 6 23 (fb 10 119) HT_ ?_
        refine tk 3 20 (fb 10 127) HT_ HW_ hHeld ?_
        refine tk 7 24 (fb 10 255) HT_ HW_ hHeld ?_
        refine one_ (i := 8) (N := some 25) (fb 10 511) rfl rfl (one_of HT_.out (by kernel_rfl)) (by decide) (fun K hK => ?_)
        refine gs _ (#[.agg #[.string ((rd_T45 l0 x5_1).f0), .string ((rd_T45 l0 x5_1).f1), .bool ((rd_T45 l0 x5_1).f2)], .agg #[.string ((rd_T45 l1 x5_1).f0), .string ((rd_T45 l1 x5_1).f1), .bool ((rd_T45 l1 x5_1).f2)]]) Tryd.func24 ?_
        with_reducible refine (laws_eqEntry.calls ((rd_T45 l0 x5_1).f0) ((rd_T45 l0 x5_1).f1) ((rd_T45 l0 x5_1).f2) ((rd_T45 l1 x5_1).f0) ((rd_T45 l1 x5_1).f1) ((rd_T45 l1 x5_1).f2) true _ A7.out).mono ?_
        rintro e w10 ⟨rfl, hb⟩
        refine ⟨_, rfl, ?_⟩
        refine Ya1 (below_step (be HB.out) hb) ?_
        clear HB
        intro HB
        (try clear hb)
        (try clear hb2)
        (try clear hk)
        (try clear hi)
        refine hK.out _ _ ⟨(pw_cell_below HB.out hw168_0), (pw_cell_below HB.out hw168_1), (pw_cell_below HB.out hw168_2), (pw_cell_below HB.out hw169_0), (pw_cell_below HB.out hw169_1), (pw_cell_below HB.out hw169_2)⟩ (fun hHeld => ?_)
        clear hK K
        refine norm_ (a' := ?_) ?_ ?_
        rotate_left
        ·show Act.put _ (some 25) _ = _
         simp only [Act.put, List.setIfInBounds_toArray, List.set_cons_zero, List.set_cons_succ, i64_w, i32_w]
         rfl
        refine pu 9 26 (fb 10 1023) HT_ ?_
        refine done_ (done_of HT_.out (by kernel_rfl)) ?_
        try go_wp2
        go_roundg k1
        case measure => have := HK1.out; omega
        case rel => exact ⟨(wrap64 (x5_1 + 1)), Ye1, H', ⟨by have := HK1.out; omega⟩, ⟨be HB.out⟩⟩
       ·replace c8 := Bool.eq_false_iff.mpr c8
        subst c8
        have H1 : (some false) = some r := by rw [if_neg (show ¬ (false = true) by decide)] at H; exact H
        clear H
        have H := H1
        clear H1
        obtain rfl := Option.some.inj H
        try go_wp2
        refine Ya1 (below_drew1 HB.out) ?_
        clear HB
        intro HB
        have p168 : 0 ≤ (x5_1 : Int) := oda
        have q168 : x5_1 < (l0.length : Int) := oda
        obtain ⟨ad168, e168, hx168_0, hx168_1, hx168_2⟩ := at_T45 HR0.out x5_1 p168 q168
        have hw168_2 := hx168_2
        have hw168_1 := hx168_1
        have hw168_0 := hx168_0
        cases e168
        replace hx168_0 := pw_cell_below HB.out hx168_0
        replace hx168_1 := pw_cell_below HB.out hx168_1
        replace hx168_2 := pw_cell_below HB.out hx168_2
        replace p168 := eq_true p168
        replace q168 := eq_true q168
        have p169 : 0 ≤ (x5_1 : Int) := oda
        have q169 : x5_1 < (l1.length : Int) := oda
        obtain ⟨ad169, e169, hx169_0, hx169_1, hx169_2⟩ := at_T45 HR1.out x5_1 p169 q169
        have hw169_2 := hx169_2
        have hw169_1 := hx169_1
        have hw169_0 := hx169_0
        cases e169
        replace hx169_0 := pw_cell_below HB.out hx169_0
        replace hx169_1 := pw_cell_below HB.out hx169_1
        replace hx169_2 := pw_cell_below HB.out hx169_2
        replace p169 := eq_true p169
        replace q169 := eq_true q169
        refine start_ (n := 10) (S := fun w' => w'.cell? (ad168.add ((x5_1).toNat * 3)) = some (.string ((rd_T45 l0 x5_1).f0)) ∧ w'.cell? ⟨(ad168.add ((x5_1).toNat * 3)).block, (ad168.add ((x5_1).toNat * 3)).off + 1, none⟩ = some (.string ((rd_T45 l0 x5_1).f1)) ∧ w'.cell? ⟨(ad168.add ((x5_1).toNat * 3)).block, (ad168.add ((x5_1).toNat * 3)).off + 2, none⟩ = some (.bool ((rd_T45 l0 x5_1).f2)) ∧ w'.cell? (ad169.add ((x5_1).toNat * 3)) = some (.string ((rd_T45 l1 x5_1).f0)) ∧ w'.cell? ⟨(ad169.add ((x5_1).toNat * 3)).block, (ad169.add ((x5_1).toNat * 3)).off + 1, none⟩ = some (.string ((rd_T45 l1 x5_1).f1)) ∧ w'.cell? ⟨(ad169.add ((x5_1).toNat * 3)).block, (ad169.add ((x5_1).toNat * 3)).off + 2, none⟩ = some (.bool ((rd_T45 l1 x5_1).f2))) (ds := []) (fb 10 0) (by kernel_rfl) rfl rfl ⟨(pw_cell_below HB.out hw168_0), (pw_cell_below HB.out hw168_1), (pw_cell_below HB.out hw168_2), (pw_cell_below HB.out hw169_0), (pw_cell_below HB.out hw169_1), (pw_cell_below HB.out hw169_2)⟩ (fun hHeld => ?_); refine with_tabW laws_eqEntryS.tab6 laws_eqEntryS.bits6 (fun HT_ HW_ => ?_)
        generalize wr.drew = w11 at HB hx168_0 hx168_1 hx168_2 hx169_0 hx169_1 hx169_2 hHeld ⊢
        refine pu 0 17 (fb 10 1) HT_ ?_
        refine pu 1 18 (fb 10 3) HT_ ?_
        refine pu 2 19 (fb 10 7) HT_ ?_
        refine pu 4 21 (fb 10 23) HT_ ?_
        refine pu 5 22 (fb 10 55) HT_ ?_
        refine pu 6 23 (fb 10 119) HT_ ?_
        refine tk 3 20 (fb 10 127) HT_ HW_ hHeld ?_
        refine tk 7 24 (fb 10 255) HT_ HW_ hHeld ?_
        refine one_ (i := 8) (N := some 25) (fb 10 511) rfl rfl (one_of HT_.out (by kernel_rfl)) (by decide) (fun K hK => ?_)
        refine gs _ (#[.agg #[.string ((rd_T45 l0 x5_1).f0), .string ((rd_T45 l0 x5_1).f1), .bool ((rd_T45 l0 x5_1).f2)], .agg #[.string ((rd_T45 l1 x5_1).f0), .string ((rd_T45 l1 x5_1).f1), .bool ((rd_T45 l1 x5_1).f2)]]) Tryd.func24 ?_
        with_reducible refine (laws_eqEntry.calls ((rd_T45 l0 x5_1).f0) ((rd_T45 l0 x5_1).f1) ((rd_T45 l0 x5_1).f2) ((rd_T45 l1 x5_1).f0) ((rd_T45 l1 x5_1).f1) ((rd_T45 l1 x5_1).f2) false _ A7.out).mono ?_
        rintro e w12 ⟨rfl, hb⟩
        refine ⟨_, rfl, ?_⟩
        refine Ya1 (below_step (be HB.out) hb) ?_
        clear HB
        intro HB
        (try clear hb)
        (try clear hb2)
        (try clear hk)
        (try clear hi)
        refine hK.out _ _ ⟨(pw_cell_below HB.out hw168_0), (pw_cell_below HB.out hw168_1), (pw_cell_below HB.out hw168_2), (pw_cell_below HB.out hw169_0), (pw_cell_below HB.out hw169_1), (pw_cell_below HB.out hw169_2)⟩ (fun hHeld => ?_)
        clear hK K
        refine norm_ (a' := ?_) ?_ ?_
        rotate_left
        ·show Act.put _ (some 25) _ = _
         simp only [Act.put, List.setIfInBounds_toArray, List.set_cons_zero, List.set_cons_succ, i64_w, i32_w]
         rfl
        refine pu 9 26 (fb 10 1023) HT_ ?_
        refine done_ (done_of HT_.out (by kernel_rfl)) ?_
        try go_wp2
        go_ret
        exact ⟨Ye2, be HB.out⟩
      ·rw [if_neg c6] at H
       exact absurd H (by simp)
     ·rw [if_neg c5] at H
      exact absurd H (by simp)
    ·rw [if_neg c4] at H
     have c4b0 : decide (x5_1 < (l0.length : Int)) = false := decide_eq_false c4
     clear c4
     obtain rfl := Option.some.inj H
     go_wp2
     go_ret
     exact ⟨Ye2, be HB.out⟩
 ·rw [if_neg c3] at H
  have c3b0 : ((l0.length : Int) == (l1.length : Int)) = false := beq_eq_false_iff_ne.mpr c3
  have c3b1 : ((l0.length : Int) != (l1.length : Int)) = true := bne_iff_ne.mpr c3
  have c3b2 : (l0.length == l1.length) = false := by first | simpa using c3 | (simp at c3 ⊢; omega)
  obtain rfl := Option.some.inj H
  go_enter Tryd.func53, Tryd.ntmps53
  go_wp2
  go_ret
  exact ⟨Ye2, be HB.out⟩

end Go.Proofs.YtkdghhkpmkfjhaaDoor.P


namespace Go.Proofs.YtkdghhkpmkfjhaaDoor.P
open Go.RowKit Go.Proofs.YtkdghhkpmkfjhaaDoorW.PrintWords Go.Proofs.YtkdghhkpmkfjhaaDoorW.PrintLast Go.Proofs.YtkdghhkpmkfjhaaDoorW.PrintMore
attribute [local go_sem] max2_int min2_int max_two min_two max_three min_three max_four min_four
set_option linter.unusedVariables false
set_option linter.unusedSimpArgs false

/-! ### laws_szTree: function 12 -/
def laws_szTree.f (k : Nat) (l0_0 : List (S62)) (a1 : Int) : Option (Int) := (laws_szEntryS.f k l0_0 a1).bind fun t105 => (if t105 < 0 then (some (-1)) else (some t105))
theorem laws_szTree.mono : ∀ a0 a1 k, LeO (laws_szTree.f k a0 a1) (laws_szTree.f (k + 1) a0 a1) := by
 intro a0 a1 k
 unfold laws_szTree.f
 repeat' first
   | (with_reducible exact laws_szEntryS.mono _ _ _)
   | (with_reducible exact LeO.refl _)
   | (with_reducible exact LeO.none _)
   | (with_reducible refine LeO.ite ?_ ?_)
   | (with_reducible refine LeO.bind ?_ (fun _ => ?_))
   | exact laws_szEntryS.mono _ _ _
   | exact LeO.none _
   | refine LeO.ite ?_ ?_
   | refine LeO.bind ?_ (fun _ => ?_)
set_option maxHeartbeats 8000000 in
set_option maxRecDepth 100000 in
theorem laws_szTree.calls (k : Nat) (A0_0 : Option Addr) (c0_0 : Nat) (l0_0 : List (S62)) (a1 : Int) (r : Int) (w : World) (hr0_0 : Kd.C k62 w A0_0 l0_0.length l0_0) (hc0_0 : l0_0.length ≤ c0_0) (h : laws_szTree.f k l0_0 a1 = some r) :
  Calls Tryd.prog 12 #[.agg #[.slice A0_0 l0_0.length c0_0], .int .i64 a1] w fun e w' => e = .returned (.int .i64 r) ∧ Below w.heap.size w w' := by
 have hu24 := Tryd.underlying24
 have HR0_0 := Aside0.mk hr0_0
 have HC0_0 := Aside0.mk hc0_0
 clear hr0_0 hc0_0
 have HB := Aside0.mk (Below.refl w.heap.size w)
 have H : ((laws_szEntryS.f k l0_0 a1).bind fun t105 => (if t105 < 0 then (some (-1)) else (some t105))) = some r := h
 clear h
 replace H := Option.bind_eq_some_iff.mp H
 obtain ⟨t105, A30, H⟩ := H
 replace H : (if t105 < 0 then (some (-1)) else (some t105)) = some r := H
 have A3 := Aside0.mk A30
 clear A30
 by_cases c4 : t105 < 0
 ·rw [if_pos c4] at H
  have c4b0 : decide (t105 < 0) = true := decide_eq_true c4
  clear c4
  obtain rfl := Option.some.inj H
  go_enter Tryd.func12, Tryd.ntmps12
  go_wp2_with (first | ((with_reducible refine gd 2 rfl ?_); refine bx 2 24 (#[.slice A0_0 l0_0.length c0_0]) ?_; intro gb104 hg w5 hbox hb; refine Ya4 (below_step (be HB.out) hb) (hbox) (bs hg (be HB.out)) (bs hg (be HB.out)) ?_; clear HB; intro HB BK104 GW104 GE104; clear hb hbox hg; have ⟨hcz6_0, hfz6_0⟩ := Yc1 BK104.out) | ((with_reducible refine gc 47 rfl ?_); refine gl (some 8) _ (#[.slice A0_0 l0_0.length c0_0, .int .i64 a1]) Tryd.func47 ?_; (with_reducible refine (laws_szEntryS.calls k _ _ l0_0 a1 t105 _ ?side1 ?side2 A3.out).mono ?_); (case side1 => exact cb (Kd.C_below HR0_0.out HB.out)); (case side2 => exact HC0_0.out); rintro e w7 ⟨rfl, hb⟩; refine ⟨_, rfl, ?_⟩; refine Ya2 (bb BK104 hb) (below_step (be1 HB.out GE104.out) hb) ?_; clear BK104 HB; intro BK104 HB; (try clear hb); (try clear hb2); (try clear hk); (try clear hi)))
  go_ret
  exact ⟨Ye2, (by first | exact be1 HB.out GE104.out | exact be HB.out)⟩
 ·rw [if_neg c4] at H
  have c4b0 : decide (t105 < 0) = false := decide_eq_false c4
  clear c4
  obtain rfl := Option.some.inj H
  go_enter Tryd.func12, Tryd.ntmps12
  go_wp2_with (first | ((with_reducible refine gd 2 rfl ?_); refine bx 2 24 (#[.slice A0_0 l0_0.length c0_0]) ?_; intro gb104 hg w8 hbox hb; refine Ya4 (below_step (be HB.out) hb) (hbox) (bs hg (be HB.out)) (bs hg (be HB.out)) ?_; clear HB; intro HB BK104 GW104 GE104; clear hb hbox hg; have ⟨hcz9_0, hfz9_0⟩ := Yc1 BK104.out) | ((with_reducible refine gc 47 rfl ?_); refine gl (some 8) _ (#[.slice A0_0 l0_0.length c0_0, .int .i64 a1]) Tryd.func47 ?_; (with_reducible refine (laws_szEntryS.calls k _ _ l0_0 a1 t105 _ ?side1 ?side2 A3.out).mono ?_); (case side1 => exact cb (Kd.C_below HR0_0.out HB.out)); (case side2 => exact HC0_0.out); rintro e w10 ⟨rfl, hb⟩; refine ⟨_, rfl, ?_⟩; refine Ya2 (bb BK104 hb) (below_step (be1 HB.out GE104.out) hb) ?_; clear BK104 HB; intro BK104 HB; (try clear hb); (try clear hb2); (try clear hk); (try clear hi)))
  go_ret
  exact ⟨Ye2, (by first | exact be1 HB.out GE104.out | exact be HB.out)⟩

/-! ### laws_toTree: function 14 -/
def laws_toTree.f (k : Nat) (l0_0 : List (S62)) : Option ((List (S45))) := (laws_toEntryS.f k l0_0).bind fun t143 => (some t143)
theorem laws_toTree.mono : ∀ a0 k, LeO (laws_toTree.f k a0) (laws_toTree.f (k + 1) a0) := by
 intro a0 k
 unfold laws_toTree.f
 repeat' first
   | (with_reducible exact laws_toEntryS.mono _ _)
   | (with_reducible exact LeO.refl _)
   | (with_reducible exact LeO.none _)
   | (with_reducible refine LeO.ite ?_ ?_)
   | (with_reducible refine LeO.bind ?_ (fun _ => ?_))
   | exact laws_toEntryS.mono _ _
   | exact LeO.none _
   | refine LeO.ite ?_ ?_
   | refine LeO.bind ?_ (fun _ => ?_)
set_option maxHeartbeats 8000000 in
set_option maxRecDepth 100000 in
theorem laws_toTree.calls (k : Nat) (A0_0 : Option Addr) (c0_0 : Nat) (l0_0 : List (S62)) (r : List (S45)) (w : World) (hr0_0 : Kd.C k62 w A0_0 l0_0.length l0_0) (hc0_0 : l0_0.length ≤ c0_0) (h : laws_toTree.f k l0_0 = some r) :
  Calls Tryd.prog 14 #[.agg #[.slice A0_0 l0_0.length c0_0]] w fun e w' => ∃ v0_ : Value, e = .returned (.agg #[v0_]) ∧ Kd.R k45 45 w' w.heap.size (fun _ => True) v0_ r ∧ Below w.heap.size w w' := by
 have hu24 := Tryd.underlying24
 have hu29 := Tryd.underlying29
 have HR0_0 := Aside0.mk hr0_0
 have HC0_0 := Aside0.mk hc0_0
 clear hr0_0 hc0_0
 have HB := Aside0.mk (Below.refl w.heap.size w)
 have H : ((laws_toEntryS.f k l0_0).bind fun t143 => (some t143)) = some r := h
 clear h
 replace H := Option.bind_eq_some_iff.mp H
 obtain ⟨t143, A20, H⟩ := H
 replace H : (some t143) = some r := H
 have A2 := Aside0.mk A20
 clear A20
 obtain rfl := Option.some.inj H
 go_enter Tryd.func14, Tryd.ntmps14
 go_wp2_with (first | ((with_reducible refine gd 1 rfl ?_); refine bx 1 24 (#[.slice A0_0 l0_0.length c0_0]) ?_; intro gb140 hg w3 hbox hb; refine Ya4 (below_step (be HB.out) hb) (hbox) (bs hg (be HB.out)) (bs hg (be HB.out)) ?_; clear HB; intro HB BK140 GW140 GE140; clear hb hbox hg) | ((with_reducible refine gd 2 rfl ?_); refine bx 2 29 (#[.slice none 0 0]) ?_; intro gb141 hg w4 hbox hb; refine Ya7 (bb BK140 hb) (below_step (be1 HB.out GE140.out) hb) (hbox) (bs hg (be1 HB.out GE140.out)) (bs hg (be1 HB.out GE140.out)) (bl hg BK140) (br hg BK140) ?_; clear BK140 HB; intro BK140 HB BK141 GW141 GE141 NB140_141 NB141_140; clear hb hbox hg) | ((with_reducible refine gd 3 rfl ?_); refine bx 3 29 (#[.slice none 0 0]) ?_; intro gb142 hg w5 hbox hb; have n0_ := Aside0.mk (bb BK140 hb); have n1_ := Aside0.mk (bb BK141 hb); have n2_ := Aside0.mk (below_step (be2 HB.out GE140.out GE141.out) hb); have n3_ := Aside0.mk (hbox); have n4_ := Aside0.mk (bs hg (be2 HB.out GE140.out GE141.out)); have n5_ := Aside0.mk (bs hg (be2 HB.out GE140.out GE141.out)); have n6_ := Aside0.mk (bl hg BK140); have n7_ := Aside0.mk (br hg BK140); have n8_ := Aside0.mk (bl hg BK141); have n9_ := Aside0.mk (br hg BK141); clear BK140; clear BK141; clear HB; have BK140 := n0_; have BK141 := n1_; have HB := n2_; have BK142 := n3_; have GW142 := n4_; have GE142 := n5_; have NB140_142 := n6_; have NB142_140 := n7_; have NB141_142 := n8_; have NB142_141 := n9_; clear n0_ n1_ n2_ n3_ n4_ n5_ n6_ n7_ n8_ n9_; clear hb hbox hg; have hnb6 := NB140_141.out; have hnc6 := NB141_140.out; have hnb7 := NB140_142.out; have hnc7 := NB142_140.out; have ⟨hcz8_0, hfz8_0⟩ := Yc1 BK140.out) | ((with_reducible refine gc 50 rfl ?_); refine gl (some 6) _ (#[.slice A0_0 l0_0.length c0_0]) Tryd.func50 ?_; (with_reducible refine (laws_toEntryS.calls k _ _ l0_0 t143 _ ?side1 ?side2 A2.out).mono ?_); (case side1 => exact cb (Kd.C_below HR0_0.out HB.out)); (case side2 => exact HC0_0.out); rintro e w9 ⟨v144, rfl, ho0, hb⟩; refine ⟨_, rfl, ?_⟩; refine Ya5 (Kd.R_lower ho0 (below_size (be3 HB.out GE140.out GE141.out GE142.out))) (bb BK140 hb) (bb BK141 hb) (bb BK142 hb) (below_step (be3 HB.out GE140.out GE141.out GE142.out) hb) ?_; clear BK140 BK141 BK142 HB; intro HO145 BK140 BK141 BK142 HB; (try clear hb); (try clear hb2); (try clear hk); (try clear hi); (try clear ho0); obtain ⟨Ao10, co10, eo10⟩ := Kd.R_slice HO145.out; subst eo10; have hnb11 := NB142_141.out; have hnc11 := NB141_142.out; have ⟨hcz12_0, hfz12_0⟩ := Yc1 BK142.out; have ⟨hcz13_0, hfz13_0⟩ := Yc1 BK141.out))
 refine bodyPost_ret (results_cell_row rfl _ _ gb141 29 #[.slice Ao10 t143.length co10] (0, 0) _ rfl (by (with_reducible repeat (first | refine blk_drewN ?_ _ | refine blk_drew ?_ | refine blk_alloc ?_ _)); refine blk_put (cs := #[.slice none 0 0]) ?_ 0 _ rfl; (with_reducible repeat (first | refine blk_drewN ?_ _ | refine blk_drew ?_ | refine blk_alloc ?_ _)); refine blk_far ?_ NB141_142.out _; (with_reducible repeat (first | refine blk_drewN ?_ _ | refine blk_drew ?_ | refine blk_alloc ?_ _)); exact BK141.out) Tryd.underlying29 rfl (by kernel_rfl)) rfl ?_
 exact ⟨_, Ye2, by (with_reducible repeat (first | apply Kd.R_alloc | apply Kd.R_drewN | apply Kd.R_drew)); exact Kd.R_mono (Kd.R_far (p := ⟨gb141, 0, none⟩) (Kd.R_far (p := ⟨gb142, 0, none⟩) (Kd.R_types (Kd.R_types HO145.out BK142.out (by decide)) BK141.out (by decide)) (fun _ hk => hk.1.2) (.slice Ao10 t143.length co10)) (fun _ hk => hk.2) (.slice Ao10 t143.length co10)) (fun _ hk => trivial), (by first | exact be3 HB.out GE140.out GE141.out GE142.out | exact be2 HB.out GE140.out GE141.out | exact be1 HB.out GE140.out)⟩

/-! ### laws_eqTree: function 16 -/
def laws_eqTree.f (k : Nat) (l0_0 : List (S45)) (l1_0 : List (S45)) : Option (Bool) := (laws_eqEntryS.f k l0_0 l1_0).bind fun t173 => (if t173 = true then (some true) else (some false))
theorem laws_eqTree.mono : ∀ a0 a1 k, LeO (laws_eqTree.f k a0 a1) (laws_eqTree.f (k + 1) a0 a1) := by
 intro a0 a1 k
 unfold laws_eqTree.f
 repeat' first
   | (with_reducible exact laws_eqEntryS.mono _ _ _)
   | (with_reducible exact LeO.refl _)
   | (with_reducible exact LeO.none _)
   | (with_reducible refine LeO.ite ?_ ?_)
   | (with_reducible refine LeO.bind ?_ (fun _ => ?_))
   | exact laws_eqEntryS.mono _ _ _
   | exact LeO.none _
   | refine LeO.ite ?_ ?_
   | refine LeO.bind ?_ (fun _ => ?_)
set_option maxHeartbeats 8000000 in
set_option maxRecDepth 100000 in
theorem laws_eqTree.calls (k : Nat) (A0_0 : Option Addr) (c0_0 : Nat) (l0_0 : List (S45)) (A1_0 : Option Addr) (c1_0 : Nat) (l1_0 : List (S45)) (r : Bool) (w : World) (hr0_0 : Kd.C k45 w A0_0 l0_0.length l0_0) (hc0_0 : l0_0.length ≤ c0_0) (hr1_0 : Kd.C k45 w A1_0 l1_0.length l1_0) (hc1_0 : l1_0.length ≤ c1_0) (h : laws_eqTree.f k l0_0 l1_0 = some r) :
  Calls Tryd.prog 16 #[.agg #[.slice A0_0 l0_0.length c0_0], .agg #[.slice A1_0 l1_0.length c1_0]] w fun e w' => e = .returned (.bool r) ∧ Below w.heap.size w w' := by
 have hu29 := Tryd.underlying29
 have HR0_0 := Aside0.mk hr0_0
 have HC0_0 := Aside0.mk hc0_0
 clear hr0_0 hc0_0
 have HR1_0 := Aside0.mk hr1_0
 have HC1_0 := Aside0.mk hc1_0
 clear hr1_0 hc1_0
 have HB := Aside0.mk (Below.refl w.heap.size w)
 have H : ((laws_eqEntryS.f k l0_0 l1_0).bind fun t173 => (if t173 = true then (some true) else (some false))) = some r := h
 clear h
 replace H := Option.bind_eq_some_iff.mp H
 obtain ⟨t173, A30, H⟩ := H
 replace H : (if t173 = true then (some true) else (some false)) = some r := H
 have A3 := Aside0.mk A30
 clear A30
 by_cases c4 : t173 = true
 ·subst c4
  have H1 : (some true) = some r := by rw [if_pos rfl] at H; exact H
  clear H
  have H := H1
  clear H1
  obtain rfl := Option.some.inj H
  go_enter Tryd.func16, Tryd.ntmps16
  go_wp2_with (first | ((with_reducible refine gd 2 rfl ?_); refine bx 2 29 (#[.slice A0_0 l0_0.length c0_0]) ?_; intro gb171 hg w5 hbox hb; refine Ya4 (below_step (be HB.out) hb) (hbox) (bs hg (be HB.out)) (bs hg (be HB.out)) ?_; clear HB; intro HB BK171 GW171 GE171; clear hb hbox hg) | ((with_reducible refine gd 3 rfl ?_); refine bx 3 29 (#[.slice A1_0 l1_0.length c1_0]) ?_; intro gb172 hg w6 hbox hb; refine Ya7 (bb BK171 hb) (below_step (be1 HB.out GE171.out) hb) (hbox) (bs hg (be1 HB.out GE171.out)) (bs hg (be1 HB.out GE171.out)) (bl hg BK171) (br hg BK171) ?_; clear BK171 HB; intro BK171 HB BK172 GW172 GE172 NB171_172 NB172_171; clear hb hbox hg; have hnb7 := NB171_172.out; have hnc7 := NB172_171.out; have ⟨hcz8_0, hfz8_0⟩ := Yc1 BK171.out; have ⟨hcz9_0, hfz9_0⟩ := Yc1 BK172.out) | ((with_reducible refine gc 53 rfl ?_); refine gl (some 9) _ (#[.slice A0_0 l0_0.length c0_0, .slice A1_0 l1_0.length c1_0]) Tryd.func53 ?_; (with_reducible refine (laws_eqEntryS.calls k _ _ l0_0 _ _ l1_0 true _ ?side1 ?side2 ?side3 ?side4 A3.out).mono ?_); (case side1 => exact cb (Kd.C_below HR0_0.out HB.out)); (case side2 => exact HC0_0.out); (case side3 => exact cb (Kd.C_below HR1_0.out HB.out)); (case side4 => exact HC1_0.out); rintro e w10 ⟨rfl, hb⟩; refine ⟨_, rfl, ?_⟩; refine Ya3 (bb BK171 hb) (bb BK172 hb) (below_step (be2 HB.out GE171.out GE172.out) hb) ?_; clear BK171 BK172 HB; intro BK171 BK172 HB; (try clear hb); (try clear hb2); (try clear hk); (try clear hi)))
  go_ret
  exact ⟨Ye2, (by first | exact be2 HB.out GE171.out GE172.out | exact be1 HB.out GE171.out | exact be HB.out)⟩
 ·replace c4 := Bool.eq_false_iff.mpr c4
  subst c4
  have H1 : (some false) = some r := by rw [if_neg (show ¬ (false = true) by decide)] at H; exact H
  clear H
  have H := H1
  clear H1
  obtain rfl := Option.some.inj H
  go_enter Tryd.func16, Tryd.ntmps16
  go_wp2_with (first | ((with_reducible refine gd 2 rfl ?_); refine bx 2 29 (#[.slice A0_0 l0_0.length c0_0]) ?_; intro gb171 hg w11 hbox hb; refine Ya4 (below_step (be HB.out) hb) (hbox) (bs hg (be HB.out)) (bs hg (be HB.out)) ?_; clear HB; intro HB BK171 GW171 GE171; clear hb hbox hg) | ((with_reducible refine gd 3 rfl ?_); refine bx 3 29 (#[.slice A1_0 l1_0.length c1_0]) ?_; intro gb172 hg w12 hbox hb; refine Ya7 (bb BK171 hb) (below_step (be1 HB.out GE171.out) hb) (hbox) (bs hg (be1 HB.out GE171.out)) (bs hg (be1 HB.out GE171.out)) (bl hg BK171) (br hg BK171) ?_; clear BK171 HB; intro BK171 HB BK172 GW172 GE172 NB171_172 NB172_171; clear hb hbox hg; have hnb13 := NB171_172.out; have hnc13 := NB172_171.out; have ⟨hcz14_0, hfz14_0⟩ := Yc1 BK171.out; have ⟨hcz15_0, hfz15_0⟩ := Yc1 BK172.out) | ((with_reducible refine gc 53 rfl ?_); refine gl (some 9) _ (#[.slice A0_0 l0_0.length c0_0, .slice A1_0 l1_0.length c1_0]) Tryd.func53 ?_; (with_reducible refine (laws_eqEntryS.calls k _ _ l0_0 _ _ l1_0 false _ ?side1 ?side2 ?side3 ?side4 A3.out).mono ?_); (case side1 => exact cb (Kd.C_below HR0_0.out HB.out)); (case side2 => exact HC0_0.out); (case side3 => exact cb (Kd.C_below HR1_0.out HB.out)); (case side4 => exact HC1_0.out); rintro e w16 ⟨rfl, hb⟩; refine ⟨_, rfl, ?_⟩; refine Ya3 (bb BK171 hb) (bb BK172 hb) (below_step (be2 HB.out GE171.out GE172.out) hb) ?_; clear BK171 BK172 HB; intro BK171 BK172 HB; (try clear hb); (try clear hb2); (try clear hk); (try clear hi)))
  go_ret
  exact ⟨Ye2, (by first | exact be2 HB.out GE171.out GE172.out | exact be1 HB.out GE171.out | exact be HB.out)⟩

end Go.Proofs.YtkdghhkpmkfjhaaDoor.P


namespace Go.Proofs.YtkdghhkpmkfjhaaDoor.P
open Go.RowKit Go.Proofs.YtkdghhkpmkfjhaaDoorW.PrintWords Go.Proofs.YtkdghhkpmkfjhaaDoorW.PrintLast Go.Proofs.YtkdghhkpmkfjhaaDoorW.PrintMore
attribute [local go_sem] max2_int min2_int max_two min_two max_three min_three max_four min_four
set_option linter.unusedVariables false
set_option linter.unusedSimpArgs false

/-! ### impl_find: function 60 -/
def impl_find.g (l : List S45) (path : ByteArray) (i : Nat) : Int := Go.Lib.compareBytes path.data.toList (rd_T45 l (i : Int)).f0.data.toList
def impl_find.l0 (g : Nat → Int) : Nat → Nat → Nat → Option Nat
 | 0, _, _ => none
 | k + 1, i, j => if i < j then (if g ((i + j) / 2) > 0 then impl_find.l0 g k ((i + j) / 2 + 1) j else impl_find.l0 g k i ((i + j) / 2)) else some i
def impl_find.f (k : Nat) (l0 : List S45) (a1 : ByteArray) : Option (Int × Bool) := if l0.length ≤ 4611686018427387904 then ((impl_find.l0 (impl_find.g l0 a1) k 0 l0.length).bind fun i => some ((i : Int), if i < l0.length then (impl_find.g l0 a1 i == 0) else false)) else none
theorem impl_find.mono_l (g : Nat → Int) : ∀ k i j, LeO (impl_find.l0 g k i j) (impl_find.l0 g (k + 1) i j)
 | 0, _, _ => fun r h => by simp [impl_find.l0] at h
 | k + 1, i, j => by
  unfold impl_find.l0
  exact LeO.ite (LeO.ite (impl_find.mono_l g k _ _) (impl_find.mono_l g k _ _)) (LeO.refl _)
theorem impl_find.mono : ∀ l0 a1 k, LeO (impl_find.f k l0 a1) (impl_find.f (k + 1) l0 a1) := fun l0 a1 k => by
 unfold impl_find.f
 exact LeO.ite (LeO.bind (impl_find.mono_l _ _ _ _) (fun _ => LeO.refl _)) (LeO.refl _)
set_option maxHeartbeats 1000000 in
set_option maxRecDepth 100000 in
theorem impl_find.cmp_calls (A : Option Addr) (c : Nat) (l : List S45) (path : ByteArray) (Bp Bt : Nat) (W : World) (hp : W.cell? ⟨Bp, 0, none⟩ = some (.string path)) (ht : W.cell? ⟨Bt, 0, none⟩ = some (.slice A l.length c)) (hc : Kd.C k45 W A l.length l) (i : Nat) (hi : i < l.length) :
  Calls Tryd.prog 81 #[.int .i64 (i : Int), .pointer (some ⟨Bp, 0, none⟩), .pointer (some ⟨Bt, 0, none⟩)] W fun e w' => e = .returned (.int .i64 (impl_find.g l path i)) ∧ ∃ nd, w' = W.drewN nd := by
 obtain ⟨ad, e1, hx0⟩ := at_T45 hc (i : Int) (by omega) (by omega)
 subst e1
 have hu29 := Tryd.underlying29
 have hu45 := Tryd.underlying45
 obtain ⟨hx1, hx2, hx3⟩ := hx0
 rw [Int.toNat_natCast] at hx1 hx2 hx3
 have c1 : decide ((i : Int) < (l.length : Int)) = true := decide_eq_true (by omega)
 have c2 : decide (0 ≤ (i : Int)) = true := decide_eq_true (by omega)
 have c3 : decide (i < l.length) = true := decide_eq_true hi
 go_enter Tryd.func81, Tryd.ntmps81
 go_wp2
 go_quiet (first | (go_at_call 82; exact Calls.quiet_of_same (Tryd.strings_Compare path (rd_T45 l (i : Int)).f0 _)))
 go_wp2
 go_ret
 exact ⟨rfl, nq, rfl⟩
set_option maxHeartbeats 1000000 in
set_option maxRecDepth 100000 in
theorem impl_find.calls (k : Nat) (A0_0 : Option Addr) (c0_0 : Nat) (l0_0 : List S45) (a1 : ByteArray) (r1 : Int) (r2 : Bool) (w : World) (hr0_0 : Kd.C k45 w A0_0 l0_0.length l0_0) (hc0_0 : l0_0.length ≤ c0_0) (h : impl_find.f k l0_0 a1 = some (r1, r2)) :
  Calls Tryd.prog 60 #[.agg #[.slice A0_0 l0_0.length c0_0], .string a1] w fun e w' => e = .returned (.tuple #[.int .i64 r1, .bool r2]) ∧ Below w.heap.size w w' := by
 have hu29 := Tryd.underlying29
 have hu45 := Tryd.underlying45
 unfold impl_find.f at h
 have hl62 : l0_0.length ≤ 4611686018427387904 := by
  refine Classical.byContradiction fun hn => ?_
  rw [if_neg hn] at h
  cases h
 rw [if_pos hl62] at h
 have HL := Aside0.mk hl62
 clear hl62
 obtain ⟨m, hm, h2⟩ := Option.bind_eq_some_iff.1 h
 obtain ⟨rfl, rfl⟩ := Prod.mk.inj (Option.some.inj h2)
 clear h h2
 have HM := Aside0.mk hm
 clear hm
 go_enter Tryd.func60, Tryd.ntmps60
 go_wp2
 have ht : ((w.alloc (.cells #[.slice A0_0 l0_0.length c0_0] 29)).alloc (.cells #[.string a1] 9)).cell? ⟨w.heap.size, 0, none⟩ = some (.slice A0_0 l0_0.length c0_0) := by simp
 have hp : ((w.alloc (.cells #[.slice A0_0 l0_0.length c0_0] 29)).alloc (.cells #[.string a1] 9)).cell? ⟨w.heap.size + 1, 0, none⟩ = some (.string a1) := by simp
 have hc : Kd.C k45 ((w.alloc (.cells #[.slice A0_0 l0_0.length c0_0] 29)).alloc (.cells #[.string a1] 9)) A0_0 l0_0.length l0_0 := Kd.C_alloc (Kd.C_alloc hr0_0 _) _
 have hb : Below w.heap.size w ((w.alloc (.cells #[.slice A0_0 l0_0.length c0_0] 29)).alloc (.cells #[.string a1] 9)) := below_alloc (below_alloc (Below.refl _ _) _) _
 generalize ((w.alloc (.cells #[.slice A0_0 l0_0.length c0_0] 29)).alloc (.cells #[.string a1] 9)) = W at ht hp hc hb ⊢
 have HC := fun (nd i : Nat) (hi : i < l0_0.length) => impl_find.cmp_calls A0_0 c0_0 l0_0 a1 (w.heap.size + 1) w.heap.size (W.drewN nd) hp ht (Kd.C_drewN hc nd) i hi
 clear hc hp ht hr0_0
 go_loopg [4, 6] k (fun kq v4 v6 w' => ∃ (i j nd : Nat), v4 = .int .i64 (i : Int) ∧ v6 = .int .i64 (j : Int) ∧ Aside0 (impl_find.l0 (impl_find.g l0_0 a1) kq i j = some m) ∧ Aside0 (j ≤ l0_0.length) ∧ w' = W.drewN nd)
 case atStart => exact ⟨0, l0_0.length, 0, rfl, rfl, HM, ⟨Nat.le_refl _⟩, rfl⟩
 case round =>
  clear HM
  obtain ⟨i, j, nd, rfl, rfl, HM, HJ, rfl⟩ := hrel
  cases gk with
  | zero => exact absurd HM.out (by simp [impl_find.l0])
  | succ k1 =>
   have H := HM.out
   clear HM
   unfold impl_find.l0 at H
   by_cases hij : i < j
   ·rw [if_pos hij] at H
    have c1 : decide ((i : Int) < (j : Int)) = true := decide_eq_true (by omega)
    have c2 : decide (i < j) = true := decide_eq_true hij
    have he : wrap64 (IntKind.u64.wrap (wrap64 ((i : Int) + (j : Int))) / 2) = (((i + j) / 2 : Nat) : Int) := by
     have hl := HL.out
     have hj := HJ.out
     have e1 : wrap64 ((i : Int) + (j : Int)) = (i : Int) + (j : Int) := by unfold wrap64; omega
     have e2 : IntKind.u64.wrap ((i : Int) + (j : Int)) = (i : Int) + (j : Int) := by simp [IntKind.wrap, IntKind.bits, IntKind.signed]; omega
     rw [e1, e2]
     unfold wrap64
     omega
    have hh : (i + j) / 2 < l0_0.length := by have := HJ.out; omega
    by_cases hg : impl_find.g l0_0 a1 ((i + j) / 2) > 0
    ·rw [if_pos hg] at H
     have d1 : decide (0 < impl_find.g l0_0 a1 ((i + j) / 2)) = true := decide_eq_true hg
     have H' := Aside0.mk H
     clear H
     go_wp2_with (go_at_call 81; rw [he]; refine (HC nd _ hh).mono ?_; rintro e w' ⟨rfl, nd2, rfl⟩)
     go_roundg k1
     case measure => omega
     case rel => exact ⟨(i + j) / 2 + 1, j, nd + nd2, by rw [show wrap64 (((i : Int) + (j : Int)) / 2 + 1) = (((i + j) / 2 + 1 : Nat) : Int) from by have := HL.out; have := HJ.out; unfold wrap64; omega], rfl, H', HJ, rfl⟩
    ·rw [if_neg hg] at H
     have d1 : decide (0 < impl_find.g l0_0 a1 ((i + j) / 2)) = false := decide_eq_false hg
     have H' := Aside0.mk H
     clear H
     go_wp2_with (go_at_call 81; rw [he]; refine (HC nd _ hh).mono ?_; rintro e w' ⟨rfl, nd2, rfl⟩)
     go_roundg k1
     case measure => omega
     case rel => exact ⟨i, (i + j) / 2, nd + nd2, rfl, by rw [show ((i : Int) + (j : Int)) / 2 = (((i + j) / 2 : Nat) : Int) from by omega], H', ⟨by have := HJ.out; omega⟩, rfl⟩
   ·rw [if_neg hij] at H
    obtain rfl := Option.some.inj H
    have c1 : decide ((i : Int) < (j : Int)) = false := decide_eq_false (by omega)
    have c2 : decide (i < j) = false := decide_eq_false hij
    by_cases hi : i < l0_0.length
    ·have d1 : decide ((i : Int) < (l0_0.length : Int)) = true := decide_eq_true (by omega)
     have d2 : decide (i < l0_0.length) = true := decide_eq_true hi
     go_wp2_with (go_at_call 81; refine (HC nd i hi).mono ?_; rintro e w' ⟨rfl, nd2, rfl⟩)
     go_ret2
     exact ⟨by simp [hi], pw_below_drewN hb _⟩
    ·have d1 : decide ((i : Int) < (l0_0.length : Int)) = false := decide_eq_false (by omega)
     have d2 : decide (i < l0_0.length) = false := decide_eq_false hi
     go_wp2
     go_ret2
     exact ⟨by simp [hi], pw_below_drewN hb _⟩


end Go.Proofs.YtkdghhkpmkfjhaaDoor.P


namespace Go.Proofs.YtkdghhkpmkfjhaaDoor.P
open Go.RowKit Go.Proofs.YtkdghhkpmkfjhaaDoorW.PrintWords Go.Proofs.YtkdghhkpmkfjhaaDoorW.PrintLast Go.Proofs.YtkdghhkpmkfjhaaDoorW.PrintMore
attribute [local go_sem] max2_int min2_int max_two min_two max_three min_three max_four min_four
set_option linter.unusedVariables false
set_option linter.unusedSimpArgs false

/-! ### impl_in: function 108 -/
def impl_in.f (a0 : Int) (a1 : Int) (a2 : Int) : Option (Bool) := if a0 ≥ a1 then (some (decide (a0 ≤ a2))) else (some false)
set_option maxHeartbeats 8000000 in
set_option maxRecDepth 100000 in
theorem impl_in.calls (a0 : Int) (a1 : Int) (a2 : Int) (r : Bool) (w : World) (h : impl_in.f a0 a1 a2 = some r) :
  Calls Tryd.prog 108 #[.int .i64 a0, .int .i64 a1, .int .i64 a2] w fun e w' => e = .returned (.bool r) ∧ Drawn0 w w' := by
 have H : (if a0 ≥ a1 then (some (decide (a0 ≤ a2))) else (some false)) = some r := h
 clear h
 by_cases c4 : a0 ≥ a1
 ·rw [if_pos c4] at H
  have c4b0 : decide (a1 ≤ a0) = true := decide_eq_true c4
  clear c4
  obtain rfl := Option.some.inj H
  go_enter Tryd.func108, Tryd.ntmps108
  go_wp2
  go_ret
  exact ⟨Ye1, dz⟩
 ·rw [if_neg c4] at H
  have c4b0 : decide (a1 ≤ a0) = false := decide_eq_false c4
  clear c4
  obtain rfl := Option.some.inj H
  go_enter Tryd.func108, Tryd.ntmps108
  go_wp2
  go_ret
  exact ⟨Ye1, dz⟩

end Go.Proofs.YtkdghhkpmkfjhaaDoor.P


namespace Go.Proofs.YtkdghhkpmkfjhaaDoor.P
open Go.RowKit Go.Proofs.YtkdghhkpmkfjhaaDoorW.PrintWords Go.Proofs.YtkdghhkpmkfjhaaDoorW.PrintLast Go.Proofs.YtkdghhkpmkfjhaaDoorW.PrintMore
attribute [local go_sem] max2_int min2_int max_two min_two max_three min_three max_four min_four
set_option linter.unusedVariables false
set_option linter.unusedSimpArgs false

/-! ### impl_goodPart: function 96 -/
mutual
def impl_goodPart.j0 : Nat → ByteArray → Bool → Bool → Option (Bool)
 | 0, _, _, _ => none
 | k + 1, x0, x1, x18 => if x18 = true then (some false) else (impl_goodPart.l0 k x0 x1 0)
def impl_goodPart.l0 : Nat → ByteArray → Bool → Int → Option (Bool)
 | 0, _, _, _ => none
 | k + 1, x0, x1, x5 => if x5 < (x0.size : Int) then (if 0 ≤ x5 then (if (bt x0 x5) < 33 then (some false) else (if (bt x0 x5) > 126 then (some false) else (if (bt x0 x5) = 34 then (some false) else (if (bt x0 x5) = 47 then (some false) else (if x1 = true then (impl_goodPart.l0 k x0 x1 (wrap64 (x5 + 1))) else (if (bt x0 x5) = 42 then (some false) else (if (bt x0 x5) = 63 then (some false) else (impl_goodPart.l0 k x0 x1 (wrap64 (x5 + 1)))))))))) else (none)) else (some true)
end
def impl_goodPart.f (k : Nat) (a0 : ByteArray) (a1 : Bool) : Option (Bool) := (impl_in.f (a0.size : Int) 1 20).bind fun t148 => (if t148 = true then (if a0.toList = ([46] : List UInt8) then (impl_goodPart.j0 k a0 a1 true) else (impl_goodPart.j0 k a0 a1 (a0.toList == ([46, 46] : List UInt8)))) else (impl_goodPart.j0 k a0 a1 true))
theorem impl_goodPart.mono_l : ∀ k, (∀ y0 y1 y2, LeO (impl_goodPart.j0 k y0 y1 y2) (impl_goodPart.j0 (k + 1) y0 y1 y2)) ∧ (∀ y0 y1 y2, LeO (impl_goodPart.l0 k y0 y1 y2) (impl_goodPart.l0 (k + 1) y0 y1 y2))
 | 0 => ⟨fun _ _ _ r h => by simp [impl_goodPart.j0] at h, fun _ _ _ r h => by simp [impl_goodPart.l0] at h⟩
 | k + 1 => by
  obtain ⟨ih0, ih1⟩ := impl_goodPart.mono_l k
  refine ⟨?_, ?_⟩
  ·intro y0 y1 y2
   unfold impl_goodPart.j0
   repeat' first
   | (with_reducible exact ih0 _ _ _)
   | (with_reducible exact ih1 _ _ _)
   | (with_reducible exact LeO.refl _)
   | (with_reducible exact LeO.none _)
   | (with_reducible refine LeO.ite ?_ ?_)
   | (with_reducible refine LeO.bind ?_ (fun _ => ?_))
   | exact ih0 _ _ _
   | exact ih1 _ _ _
   | exact LeO.none _
   | refine LeO.ite ?_ ?_
   | refine LeO.bind ?_ (fun _ => ?_)
  ·intro y0 y1 y2
   unfold impl_goodPart.l0
   repeat' first
   | (with_reducible exact ih0 _ _ _)
   | (with_reducible exact ih1 _ _ _)
   | (with_reducible exact LeO.refl _)
   | (with_reducible exact LeO.none _)
   | (with_reducible refine LeO.ite ?_ ?_)
   | (with_reducible refine LeO.bind ?_ (fun _ => ?_))
   | exact ih0 _ _ _
   | exact ih1 _ _ _
   | exact LeO.none _
   | refine LeO.ite ?_ ?_
   | refine LeO.bind ?_ (fun _ => ?_)
theorem impl_goodPart.mono : ∀ a0 a1 k, LeO (impl_goodPart.f k a0 a1) (impl_goodPart.f (k + 1) a0 a1) := by
 intro a0 a1 k
 obtain ⟨ih0, ih1⟩ := impl_goodPart.mono_l k
 unfold impl_goodPart.f
 repeat' first
   | (with_reducible exact ih0 _ _ _)
   | (with_reducible exact ih1 _ _ _)
   | (with_reducible exact LeO.refl _)
   | (with_reducible exact LeO.none _)
   | (with_reducible refine LeO.ite ?_ ?_)
   | (with_reducible refine LeO.bind ?_ (fun _ => ?_))
   | exact ih0 _ _ _
   | exact ih1 _ _ _
   | exact LeO.none _
   | refine LeO.ite ?_ ?_
   | refine LeO.bind ?_ (fun _ => ?_)
set_option maxHeartbeats 8000000 in
set_option maxRecDepth 100000 in
theorem impl_goodPart.calls (k : Nat) (a0 : ByteArray) (a1 : Bool) (r : Bool) (w : World) (h : impl_goodPart.f k a0 a1 = some r) :
  Calls Tryd.prog 96 #[.string a0, .bool a1] w fun e w' => e = .returned (.bool r) ∧ Drawn0 w w' := by
 have H : ((impl_in.f (a0.size : Int) 1 20).bind fun t148 => (if t148 = true then (if a0.toList = ([46] : List UInt8) then (impl_goodPart.j0 k a0 a1 true) else (impl_goodPart.j0 k a0 a1 (a0.toList == ([46, 46] : List UInt8)))) else (impl_goodPart.j0 k a0 a1 true))) = some r := h
 clear h
 have HC3 := Aside0.mk H
 clear H
 go_enter Tryd.func96, Tryd.ntmps96
 go_upto_region 1 with (fail)
 go_cut [18] (fun v18 wc => ∃ (kq : Nat) (x18_2 : Bool), v18 = .bool x18_2 ∧ Aside0 (impl_goodPart.j0 kq a0 a1 x18_2 = some r) ∧ Aside0 (kq ≤ k) ∧ Drawn0 w wc)
 case first =>
  have H := HC3.out
  clear HC3
  replace H := Option.bind_eq_some_iff.mp H
  obtain ⟨t148, A40, H⟩ := H
  replace H : (if t148 = true then (if a0.toList = ([46] : List UInt8) then (impl_goodPart.j0 k a0 a1 true) else (impl_goodPart.j0 k a0 a1 (a0.toList == ([46, 46] : List UInt8)))) else (impl_goodPart.j0 k a0 a1 true)) = some r := H
  have A4 := Aside0.mk A40
  clear A40
  by_cases c5 : t148 = true
  ·subst c5
   have H1 : (if a0.toList = ([46] : List UInt8) then (impl_goodPart.j0 k a0 a1 true) else (impl_goodPart.j0 k a0 a1 (a0.toList == ([46, 46] : List UInt8)))) = some r := by rw [if_pos rfl] at H; exact H
   clear H
   have H := H1
   clear H1
   by_cases c6 : a0.toList = ([46] : List UInt8)
   ·rw [if_pos c6] at H
    have c6b0 : (a0.toList == ([46] : List UInt8)) = true := beq_iff_eq.mpr c6
    have c6b1 : (a0.toList != ([46] : List UInt8)) = false := bne_eq_false_iff_eq.mpr c6
    clear c6
    (first | rw [c6b0] | (simp only [i64_w, i32_w]; rw [c6b0]) | skip)
    have H' := Aside0.mk H
    clear H
    go_wp2_with (first | ((with_reducible refine gc 108 rfl ?_); refine gl (some 9) _ (#[.int .i64 (a0.size : Int), .int .i64 1, .int .i64 20]) Tryd.func108 ?_; (with_reducible refine (impl_in.calls (a0.size : Int) 1 20 true _ A4.out).mono ?_); rintro e w' ⟨rfl, ⟨nd, rfl⟩⟩; refine ⟨_, rfl, ?_⟩))
    go_meet
    case rel => exact ⟨_, (true), Ye1, H', ⟨by first | omega | exact Nat.le_refl _⟩, dz⟩
   ·rw [if_neg c6] at H
    have c6b0 : (a0.toList == ([46] : List UInt8)) = false := beq_eq_false_iff_ne.mpr c6
    have c6b1 : (a0.toList != ([46] : List UInt8)) = true := bne_iff_ne.mpr c6
    (first | rw [c6b0] | (simp only [i64_w, i32_w]; rw [c6b0]) | skip)
    have H' := Aside0.mk H
    clear H
    go_wp2_with (first | ((with_reducible refine gc 108 rfl ?_); refine gl (some 9) _ (#[.int .i64 (a0.size : Int), .int .i64 1, .int .i64 20]) Tryd.func108 ?_; (with_reducible refine (impl_in.calls (a0.size : Int) 1 20 true _ A4.out).mono ?_); rintro e w' ⟨rfl, ⟨nd, rfl⟩⟩; refine ⟨_, rfl, ?_⟩))
    go_meet
    case rel => exact ⟨_, ((a0.toList == ([46, 46] : List UInt8))), Ye1, H', ⟨by first | omega | exact Nat.le_refl _⟩, dz⟩
  ·replace c5 := Bool.eq_false_iff.mpr c5
   subst c5
   have H1 : (impl_goodPart.j0 k a0 a1 true) = some r := by rw [if_neg (show ¬ (false = true) by decide)] at H; exact H
   clear H
   have H := H1
   clear H1
   have H' := Aside0.mk H
   clear H
   go_wp2_with (first | ((with_reducible refine gc 108 rfl ?_); refine gl (some 9) _ (#[.int .i64 (a0.size : Int), .int .i64 1, .int .i64 20]) Tryd.func108 ?_; (with_reducible refine (impl_in.calls (a0.size : Int) 1 20 false _ A4.out).mono ?_); rintro e w' ⟨rfl, ⟨nd, rfl⟩⟩; refine ⟨_, rfl, ?_⟩))
   go_meet
   case rel => exact ⟨_, (true), Ye1, H', ⟨by first | omega | exact Nat.le_refl _⟩, dz⟩
 case rest =>
  clear HC3
  try clear c1
  try clear p2
  try clear c5
  try clear c6
  try clear c6b0
  try clear c6b1
  obtain ⟨kq, x18_2, rfl, HA, HJ2, ⟨mc2, rfl⟩⟩ := hcut
  cases kq with
  | zero => exact absurd HA.out (by simp [impl_goodPart.j0])
  | succ kj2 =>
   have H := HA.out
   clear HA
   simp only [impl_goodPart.j0] at H
   by_cases c7 : x18_2 = true
   ·subst c7
    have H1 : (some false) = some r := by rw [if_pos rfl] at H; exact H
    clear H
    have H := H1
    clear H1
    obtain rfl := Option.some.inj H
    go_wp2
    go_ret
    exact ⟨Ye1, dz⟩
   ·replace c7 := Bool.eq_false_iff.mpr c7
    subst c7
    have H1 : (impl_goodPart.l0 kj2 a0 a1 0) = some r := by rw [if_neg (show ¬ (false = true) by decide)] at H; exact H
    clear H
    have H := H1
    clear H1
    have H' := Aside0.mk H
    clear H
    go_wp2
    go_loopg [5] kj2 (fun kq v5 w' => ∃ (x5_2 : Int), v5 = .int .i64 x5_2 ∧ Aside0 (impl_goodPart.l0 kq a0 a1 x5_2 = some r) ∧ Aside0 (kq ≤ kj2) ∧ Drawn0 w w')
    case atStart => exact ⟨(0), Ye1, H', ⟨Nat.le_refl _⟩, dz⟩
    case round =>
     clear H'
     try clear c1
     try clear c2
     try clear p2
     try clear c5
     try clear c6
     try clear c6b0
     try clear c6b1
     try clear c7
     try clear p2
     obtain ⟨x5_2, rfl, HA, HK2, ⟨m2, rfl⟩⟩ := hrel
     cases gk with
     | zero => exact absurd HA.out (by simp [impl_goodPart.l0])
     | succ k2 =>
      have H := HA.out
      clear HA
      simp only [impl_goodPart.l0] at H
      by_cases c8 : x5_2 < (a0.size : Int)
      ·rw [if_pos c8] at H
       have c8b0 : decide (x5_2 < (a0.size : Int)) = true := decide_eq_true c8
       clear c8
       by_cases c9 : 0 ≤ x5_2
       ·rw [if_pos c9] at H
        have c9b0 : decide (0 ≤ x5_2) = true := decide_eq_true c9
        clear c9
        by_cases c11 : (bt a0 x5_2) < 33
        ·rw [if_pos c11] at H
         have c11b0 : decide ((bt a0 x5_2) < 33) = true := decide_eq_true c11
         clear c11
         obtain rfl := Option.some.inj H
         have p10 : 0 ≤ (x5_2 : Int) := oda
         have q10 : x5_2 < (a0.size : Int) := oda
         have hx10 := bt_at a0 x5_2
         replace p10 := eq_true p10
         replace q10 := eq_true q10
         go_wp2
         go_ret
         exact ⟨Ye1, dz⟩
        ·rw [if_neg c11] at H
         have c11b0 : decide ((bt a0 x5_2) < 33) = false := decide_eq_false c11
         clear c11
         by_cases c12 : (bt a0 x5_2) > 126
         ·rw [if_pos c12] at H
          have c12b0 : decide (126 < (bt a0 x5_2)) = true := decide_eq_true c12
          clear c12
          obtain rfl := Option.some.inj H
          have p10 : 0 ≤ (x5_2 : Int) := oda
          have q10 : x5_2 < (a0.size : Int) := oda
          have hx10 := bt_at a0 x5_2
          replace p10 := eq_true p10
          replace q10 := eq_true q10
          go_wp2
          go_ret
          exact ⟨Ye1, dz⟩
         ·rw [if_neg c12] at H
          have c12b0 : decide (126 < (bt a0 x5_2)) = false := decide_eq_false c12
          clear c12
          by_cases c13 : (bt a0 x5_2) = 34
          ·rw [if_pos c13] at H
           have c13b0 : ((bt a0 x5_2) == 34) = true := beq_iff_eq.mpr c13
           have c13b1 : ((bt a0 x5_2) != 34) = false := bne_eq_false_iff_eq.mpr c13
           clear c13
           obtain rfl := Option.some.inj H
           have p10 : 0 ≤ (x5_2 : Int) := oda
           have q10 : x5_2 < (a0.size : Int) := oda
           have hx10 := bt_at a0 x5_2
           replace p10 := eq_true p10
           replace q10 := eq_true q10
           go_wp2
           go_ret
           exact ⟨Ye1, dz⟩
          ·rw [if_neg c13] at H
           have c13b0 : ((bt a0 x5_2) == 34) = false := beq_eq_false_iff_ne.mpr c13
           have c13b1 : ((bt a0 x5_2) != 34) = true := bne_iff_ne.mpr c13
           by_cases c14 : (bt a0 x5_2) = 47
           ·rw [if_pos c14] at H
            have c14b0 : ((bt a0 x5_2) == 47) = true := beq_iff_eq.mpr c14
            have c14b1 : ((bt a0 x5_2) != 47) = false := bne_eq_false_iff_eq.mpr c14
            clear c14
            obtain rfl := Option.some.inj H
            have p10 : 0 ≤ (x5_2 : Int) := oda
            have q10 : x5_2 < (a0.size : Int) := oda
            have hx10 := bt_at a0 x5_2
            replace p10 := eq_true p10
            replace q10 := eq_true q10
            go_wp2
            go_ret
            exact ⟨Ye1, dz⟩
           ·rw [if_neg c14] at H
            have c14b0 : ((bt a0 x5_2) == 47) = false := beq_eq_false_iff_ne.mpr c14
            have c14b1 : ((bt a0 x5_2) != 47) = true := bne_iff_ne.mpr c14
            by_cases c15 : a1 = true
            ·subst c15
             have H1 : (impl_goodPart.l0 k2 a0 true (wrap64 (x5_2 + 1))) = some r := by rw [if_pos rfl] at H; exact H
             clear H
             have H := H1
             clear H1
             have H' := Aside0.mk H
             clear H
             have p10 : 0 ≤ (x5_2 : Int) := oda
             have q10 : x5_2 < (a0.size : Int) := oda
             have hx10 := bt_at a0 x5_2
             replace p10 := eq_true p10
             replace q10 := eq_true q10
             go_wp2
             go_roundg k2
             case measure => have := HJ2.out; have := HK2.out; omega
             case rel => exact ⟨(wrap64 (x5_2 + 1)), Ye1, H', ⟨by have := HJ2.out; have := HK2.out; omega⟩, dz⟩
            ·replace c15 := Bool.eq_false_iff.mpr c15
             subst c15
             have H1 : (if (bt a0 x5_2) = 42 then (some false) else (if (bt a0 x5_2) = 63 then (some false) else (impl_goodPart.l0 k2 a0 false (wrap64 (x5_2 + 1))))) = some r := by rw [if_neg (show ¬ (false = true) by decide)] at H; exact H
             clear H
             have H := H1
             clear H1
             by_cases c16 : (bt a0 x5_2) = 42
             ·rw [if_pos c16] at H
              have c16b0 : ((bt a0 x5_2) == 42) = true := beq_iff_eq.mpr c16
              have c16b1 : ((bt a0 x5_2) != 42) = false := bne_eq_false_iff_eq.mpr c16
              clear c16
              obtain rfl := Option.some.inj H
              have p10 : 0 ≤ (x5_2 : Int) := oda
              have q10 : x5_2 < (a0.size : Int) := oda
              have hx10 := bt_at a0 x5_2
              replace p10 := eq_true p10
              replace q10 := eq_true q10
              go_wp2
              go_ret
              exact ⟨Ye1, dz⟩
             ·rw [if_neg c16] at H
              have c16b0 : ((bt a0 x5_2) == 42) = false := beq_eq_false_iff_ne.mpr c16
              have c16b1 : ((bt a0 x5_2) != 42) = true := bne_iff_ne.mpr c16
              by_cases c17 : (bt a0 x5_2) = 63
              ·rw [if_pos c17] at H
               have c17b0 : ((bt a0 x5_2) == 63) = true := beq_iff_eq.mpr c17
               have c17b1 : ((bt a0 x5_2) != 63) = false := bne_eq_false_iff_eq.mpr c17
               clear c17
               obtain rfl := Option.some.inj H
               have p10 : 0 ≤ (x5_2 : Int) := oda
               have q10 : x5_2 < (a0.size : Int) := oda
               have hx10 := bt_at a0 x5_2
               replace p10 := eq_true p10
               replace q10 := eq_true q10
               go_wp2
               go_ret
               exact ⟨Ye1, dz⟩
              ·rw [if_neg c17] at H
               have c17b0 : ((bt a0 x5_2) == 63) = false := beq_eq_false_iff_ne.mpr c17
               have c17b1 : ((bt a0 x5_2) != 63) = true := bne_iff_ne.mpr c17
               have H' := Aside0.mk H
               clear H
               have p10 : 0 ≤ (x5_2 : Int) := oda
               have q10 : x5_2 < (a0.size : Int) := oda
               have hx10 := bt_at a0 x5_2
               replace p10 := eq_true p10
               replace q10 := eq_true q10
               go_wp2
               go_roundg k2
               case measure => have := HJ2.out; have := HK2.out; omega
               case rel => exact ⟨(wrap64 (x5_2 + 1)), Ye1, H', ⟨by have := HJ2.out; have := HK2.out; omega⟩, dz⟩
       ·rw [if_neg c9] at H
        exact absurd H (by simp)
      ·rw [if_neg c8] at H
       have c8b0 : decide (x5_2 < (a0.size : Int)) = false := decide_eq_false c8
       clear c8
       obtain rfl := Option.some.inj H
       go_wp2
       go_ret
       exact ⟨Ye1, dz⟩

end Go.Proofs.YtkdghhkpmkfjhaaDoor.P


namespace Go.Proofs.YtkdghhkpmkfjhaaDoor.P
open Go.RowKit Go.Proofs.YtkdghhkpmkfjhaaDoorW.PrintWords Go.Proofs.YtkdghhkpmkfjhaaDoorW.PrintLast Go.Proofs.YtkdghhkpmkfjhaaDoorW.PrintMore
attribute [local go_sem] max2_int min2_int max_two min_two max_three min_three max_four min_four
set_option linter.unusedVariables false
set_option linter.unusedSimpArgs false

/-! ### strings_Split: function 89 -/
def strings_Split.f (a0 a1 : ByteArray) : Option (List ByteArray) := if a0.size < 4294967281 then (if 1 ≤ a1.size then some (Go.Lib.splitB a1 0 (Go.Lib.countB a0 a1) a0) else none) else none
theorem strings_Split.calls (a0 a1 : ByteArray) (r : List ByteArray) (w : World) (hg : GOK w) (h : strings_Split.f a0 a1 = some r) :
  Calls Tryd.prog 89 #[.string a0, .string a1] w fun e w' => ∃ v0_ : Value, e = .returned (v0_) ∧ Kd.R Kd.string 9 w' w.heap.size (fun _ => True) v0_ r ∧ Below w.heap.size w w' := by
 unfold strings_Split.f at h
 split at h
 ·rename_i hs
  split at h
  ·rename_i h1
   obtain rfl := Option.some.inj h
   obtain ⟨m, hm⟩ := hg
   have hle := Go.Lib.countB_le a1 h1 a0.size a0 (Nat.le_refl _)
   have hlen := Go.Lib.splitB_all a1 h1 0 (Go.Lib.countB a0 a1) a0 rfl
   refine (Tryd.strings_Split a0 a1 m w hs hm h1).mono fun e w' ⟨he, hw⟩ => ?_
   subst hw
   refine ⟨_, he, ?_, below_alloc (Below.refl _ _) _⟩
   rw [← hlen]
   exact Ow.R_new_block Value.string (fun _ => rfl) _ w _ (by rw [hlen]; unfold maxLen; omega)
  ·cases h
 ·cases h


end Go.Proofs.YtkdghhkpmkfjhaaDoor.P


namespace Go.Proofs.YtkdghhkpmkfjhaaDoor.P
open Go.RowKit Go.Proofs.YtkdghhkpmkfjhaaDoorW.PrintWords Go.Proofs.YtkdghhkpmkfjhaaDoorW.PrintLast Go.Proofs.YtkdghhkpmkfjhaaDoorW.PrintMore
attribute [local go_sem] max2_int min2_int max_two min_two max_three min_three max_four min_four
set_option linter.unusedVariables false
set_option linter.unusedSimpArgs false

/-! ### impl_parts: function 78 -/
def impl_parts.l0 : Nat → Bool → List ByteArray → Int → Int → Option (Bool)
 | 0, _, _, _, _ => none
 | k + 1, x1, x13, x14, x15 => if x15 < x14 then (if 0 ≤ x15 then (if x15 < (x13.length : Int) then ((impl_goodPart.f k (rdOf ByteArray.empty x13 x15) x1).bind fun t153 => (if t153 = true then (impl_parts.l0 k x1 x13 x14 (wrap64 (x15 + 1))) else (some false))) else (none)) else (none)) else (some true)
def impl_parts.f (k : Nat) (a0 : ByteArray) (a1 : Bool) : Option (Bool) := (strings_Split.f a0 (⟨#[47]⟩ : ByteArray)).bind fun t149 => (if (t149.length : Int) > 6 then (some false) else (impl_parts.l0 k a1 t149 (t149.length : Int) 0))
theorem impl_parts.mono_l : ∀ k, (∀ y0 y1 y2 y3, LeO (impl_parts.l0 k y0 y1 y2 y3) (impl_parts.l0 (k + 1) y0 y1 y2 y3))
 | 0 => fun _ _ _ _ r h => by simp [impl_parts.l0] at h
 | k + 1 => by
  have ih0 := impl_parts.mono_l k
  ·intro y0 y1 y2 y3
   unfold impl_parts.l0
   repeat' first
   | (with_reducible exact ih0 _ _ _ _)
   | (with_reducible exact impl_goodPart.mono _ _ _)
   | (with_reducible exact LeO.refl _)
   | (with_reducible exact LeO.none _)
   | (with_reducible refine LeO.ite ?_ ?_)
   | (with_reducible refine LeO.bind ?_ (fun _ => ?_))
   | exact ih0 _ _ _ _
   | exact impl_goodPart.mono _ _ _
   | exact LeO.none _
   | refine LeO.ite ?_ ?_
   | refine LeO.bind ?_ (fun _ => ?_)
theorem impl_parts.mono : ∀ a0 a1 k, LeO (impl_parts.f k a0 a1) (impl_parts.f (k + 1) a0 a1) := by
 intro a0 a1 k
 have ih0 := impl_parts.mono_l k
 unfold impl_parts.f
 repeat' first
   | (with_reducible exact ih0 _ _ _ _)
   | (with_reducible exact impl_goodPart.mono _ _ _)
   | (with_reducible exact LeO.refl _)
   | (with_reducible exact LeO.none _)
   | (with_reducible refine LeO.ite ?_ ?_)
   | (with_reducible refine LeO.bind ?_ (fun _ => ?_))
   | exact ih0 _ _ _ _
   | exact impl_goodPart.mono _ _ _
   | exact LeO.none _
   | refine LeO.ite ?_ ?_
   | refine LeO.bind ?_ (fun _ => ?_)
set_option maxHeartbeats 8000000 in
set_option maxRecDepth 100000 in
theorem impl_parts.calls (k : Nat) (a0 : ByteArray) (a1 : Bool) (r : Bool) (w : World) (hg : GOK w) (h : impl_parts.f k a0 a1 = some r) :
  Calls Tryd.prog 78 #[.string a0, .bool a1] w fun e w' => e = .returned (.bool r) ∧ Below w.heap.size w w' := by
 have HG := Aside0.mk hg
 clear hg
 have HB := Aside0.mk (Below.refl w.heap.size w)
 have H : ((strings_Split.f a0 (⟨#[47]⟩ : ByteArray)).bind fun t149 => (if (t149.length : Int) > 6 then (some false) else (impl_parts.l0 k a1 t149 (t149.length : Int) 0))) = some r := h
 clear h
 replace H := Option.bind_eq_some_iff.mp H
 obtain ⟨t149, A30, H⟩ := H
 replace H : (if (t149.length : Int) > 6 then (some false) else (impl_parts.l0 k a1 t149 (t149.length : Int) 0)) = some r := H
 have A3 := Aside0.mk A30
 clear A30
 by_cases c4 : (t149.length : Int) > 6
 ·rw [if_pos c4] at H
  have c4b0 : decide (6 < (t149.length : Int)) = true := decide_eq_true c4
  have c4b1 : decide (6 < t149.length) = true := decide_eq_true (by omega)
  clear c4
  obtain rfl := Option.some.inj H
  go_enter Tryd.func78, Tryd.ntmps78
  go_wp2_with (first | ((with_reducible refine gc 89 rfl ?_); refine gl (some 9) _ (#[.string a0, .string (⟨#[47]⟩ : ByteArray)]) Tryd.func89 ?_; (with_reducible refine (strings_Split.calls a0 (⟨#[47]⟩ : ByteArray) t149 _ ?sideG A3.out).mono ?_); (case sideG => exact gk HG.out HB.out); rintro e w5 ⟨v150, rfl, ho0, hb⟩; refine ⟨_, rfl, ?_⟩; refine Ya2 (Kd.R_lower ho0 (below_size (be HB.out))) (below_step (be HB.out) hb) ?_; clear HB; intro HO151 HB; (try clear hb); (try clear hb2); (try clear hk); (try clear hi); (try clear ho0); obtain ⟨Ao6, co6, eo6⟩ := Kd.R_slice HO151.out; subst eo6))
  go_ret
  exact ⟨Ye2, be HB.out⟩
 ·rw [if_neg c4] at H
  have c4b0 : decide (6 < (t149.length : Int)) = false := decide_eq_false c4
  have c4b1 : decide (6 < t149.length) = false := decide_eq_false (by omega)
  clear c4
  have H' := Aside0.mk H
  clear H
  go_enter Tryd.func78, Tryd.ntmps78
  go_wp2_with (first | ((with_reducible refine gc 89 rfl ?_); refine gl (some 9) _ (#[.string a0, .string (⟨#[47]⟩ : ByteArray)]) Tryd.func89 ?_; (with_reducible refine (strings_Split.calls a0 (⟨#[47]⟩ : ByteArray) t149 _ ?sideG A3.out).mono ?_); (case sideG => exact gk HG.out HB.out); rintro e w7 ⟨v150, rfl, ho0, hb⟩; refine ⟨_, rfl, ?_⟩; refine Ya2 (Kd.R_lower ho0 (below_size (be HB.out))) (below_step (be HB.out) hb) ?_; clear HB; intro HO151 HB; (try clear hb); (try clear hb2); (try clear hk); (try clear hi); (try clear ho0); obtain ⟨Ao8, co8, eo8⟩ := Kd.R_slice HO151.out; subst eo8))
  go_loopg [15] k (fun kq v15 w' => ∃ (x15_1 : Int), v15 = .int .i64 x15_1 ∧ Aside0 (impl_parts.l0 kq a1 t149 (t149.length : Int) x15_1 = some r) ∧ Aside0 (kq ≤ k) ∧ Aside0 (Kd.R Kd.string 9 w' w.heap.size (fun _ => True) (.slice Ao8 t149.length co8) t149) ∧ Aside0 (Below w.heap.size w w'))
  case atStart => exact ⟨(0), Ye1, H', ⟨Nat.le_refl _⟩, ⟨kr HO151.out⟩, ⟨be HB.out⟩⟩
  case round =>
   clear H'
   try clear p2
   try clear c4
   try clear c4b0
   try clear c4b1
   try clear c7
   try clear c8
   obtain ⟨x15_1, rfl, HA, HK1, HO_13, HB⟩ := hrel
   cases gk with
   | zero => exact absurd HA.out (by simp [impl_parts.l0])
   | succ k1 =>
    have H := HA.out
    clear HA
    simp only [impl_parts.l0] at H
    by_cases c9 : x15_1 < (t149.length : Int)
    ·rw [if_pos c9] at H
     have c9b0 : decide (x15_1 < (t149.length : Int)) = true := decide_eq_true c9
     clear c9
     by_cases c10 : 0 ≤ x15_1
     ·rw [if_pos c10] at H
      have c10b0 : decide (0 ≤ x15_1) = true := decide_eq_true c10
      clear c10
      by_cases c11 : x15_1 < (t149.length : Int)
      ·rw [if_pos c11] at H
       have c11b0 : decide (x15_1 < (t149.length : Int)) = true := decide_eq_true c11
       clear c11
       replace H := Option.bind_eq_some_iff.mp H
       obtain ⟨t153, A120, H⟩ := H
       replace H : (if t153 = true then (impl_parts.l0 k1 a1 t149 (t149.length : Int) (wrap64 (x15_1 + 1))) else (some false)) = some r := H
       have A12 := Aside0.mk A120
       clear A120
       by_cases c13 : t153 = true
       ·subst c13
        have H1 : (impl_parts.l0 k1 a1 t149 (t149.length : Int) (wrap64 (x15_1 + 1))) = some r := by rw [if_pos rfl] at H; exact H
        clear H
        have H := H1
        clear H1
        have H' := Aside0.mk H
        clear H
        have p152 : 0 ≤ (x15_1 : Int) := oda
        have q152 : x15_1 < (t149.length : Int) := oda
        obtain ⟨ad152, e152, hx152_0⟩ := Kd.at_string (Kd.R_reads' HO_13.out).2.2 x15_1 p152 q152
        cases e152
        replace p152 := eq_true p152
        replace q152 := eq_true q152
        go_wp2_with (first | ((with_reducible refine gc 96 rfl ?_); refine gl (some 21) _ (#[.string (rdOf ByteArray.empty t149 x15_1), .bool a1]) Tryd.func96 ?_; (with_reducible refine (impl_goodPart.calls k1 (rdOf ByteArray.empty t149 x15_1) a1 true _ A12.out).mono ?_); rintro e w' ⟨rfl, ⟨nd, rfl⟩⟩; refine ⟨_, rfl, ?_⟩))
        go_roundg k1
        case measure => have := HK1.out; omega
        case rel => exact ⟨(wrap64 (x15_1 + 1)), Ye1, H', ⟨by have := HK1.out; omega⟩, ⟨kr HO_13.out⟩, ⟨be HB.out⟩⟩
       ·replace c13 := Bool.eq_false_iff.mpr c13
        subst c13
        have H1 : (some false) = some r := by rw [if_neg (show ¬ (false = true) by decide)] at H; exact H
        clear H
        have H := H1
        clear H1
        obtain rfl := Option.some.inj H
        have p152 : 0 ≤ (x15_1 : Int) := oda
        have q152 : x15_1 < (t149.length : Int) := oda
        obtain ⟨ad152, e152, hx152_0⟩ := Kd.at_string (Kd.R_reads' HO_13.out).2.2 x15_1 p152 q152
        cases e152
        replace p152 := eq_true p152
        replace q152 := eq_true q152
        go_wp2_with (first | ((with_reducible refine gc 96 rfl ?_); refine gl (some 21) _ (#[.string (rdOf ByteArray.empty t149 x15_1), .bool a1]) Tryd.func96 ?_; (with_reducible refine (impl_goodPart.calls k1 (rdOf ByteArray.empty t149 x15_1) a1 false _ A12.out).mono ?_); rintro e w' ⟨rfl, ⟨nd, rfl⟩⟩; refine ⟨_, rfl, ?_⟩))
        go_ret
        exact ⟨Ye2, be HB.out⟩
      ·rw [if_neg c11] at H
       exact absurd H (by simp)
     ·rw [if_neg c10] at H
      exact absurd H (by simp)
    ·rw [if_neg c9] at H
     have c9b0 : decide (x15_1 < (t149.length : Int)) = false := decide_eq_false c9
     clear c9
     obtain rfl := Option.some.inj H
     go_wp2
     go_ret
     exact ⟨Ye2, be HB.out⟩

end Go.Proofs.YtkdghhkpmkfjhaaDoor.P


namespace Go.Proofs.YtkdghhkpmkfjhaaDoor.P
open Go.RowKit Go.Proofs.YtkdghhkpmkfjhaaDoorW.PrintWords Go.Proofs.YtkdghhkpmkfjhaaDoorW.PrintLast Go.Proofs.YtkdghhkpmkfjhaaDoorW.PrintMore
attribute [local go_sem] max2_int min2_int max_two min_two max_three min_three max_four min_four
set_option linter.unusedVariables false
set_option linter.unusedSimpArgs false

/-! ### impl_ValidPath: function 57 -/
def impl_ValidPath.f (k : Nat) (a0 : ByteArray) : Option (Bool) := (impl_parts.f k a0 false).bind fun t154 => (some t154)
theorem impl_ValidPath.mono : ∀ a0 k, LeO (impl_ValidPath.f k a0) (impl_ValidPath.f (k + 1) a0) := by
 intro a0 k
 unfold impl_ValidPath.f
 repeat' first
   | (with_reducible exact impl_parts.mono _ _ _)
   | (with_reducible exact LeO.refl _)
   | (with_reducible exact LeO.none _)
   | (with_reducible refine LeO.ite ?_ ?_)
   | (with_reducible refine LeO.bind ?_ (fun _ => ?_))
   | exact impl_parts.mono _ _ _
   | exact LeO.none _
   | refine LeO.ite ?_ ?_
   | refine LeO.bind ?_ (fun _ => ?_)
set_option maxHeartbeats 8000000 in
set_option maxRecDepth 100000 in
theorem impl_ValidPath.calls (k : Nat) (a0 : ByteArray) (r : Bool) (w : World) (hg : GOK w) (h : impl_ValidPath.f k a0 = some r) :
  Calls Tryd.prog 57 #[.string a0] w fun e w' => e = .returned (.bool r) ∧ Below w.heap.size w w' := by
 have HG := Aside0.mk hg
 clear hg
 have HB := Aside0.mk (Below.refl w.heap.size w)
 have H : ((impl_parts.f k a0 false).bind fun t154 => (some t154)) = some r := h
 clear h
 replace H := Option.bind_eq_some_iff.mp H
 obtain ⟨t154, A20, H⟩ := H
 replace H : (some t154) = some r := H
 have A2 := Aside0.mk A20
 clear A20
 obtain rfl := Option.some.inj H
 go_enter Tryd.func57, Tryd.ntmps57
 go_wp2_with (first | ((with_reducible refine gc 78 rfl ?_); refine gl (some 4) _ (#[.string a0, .bool false]) Tryd.func78 ?_; (with_reducible refine (impl_parts.calls k a0 false t154 _ ?sideG A2.out).mono ?_); (case sideG => exact gk HG.out HB.out); rintro e w3 ⟨rfl, hb⟩; refine ⟨_, rfl, ?_⟩; refine Ya1 (below_step (be HB.out) hb) ?_; clear HB; intro HB; (try clear hb); (try clear hb2); (try clear hk); (try clear hi)))
 go_ret
 exact ⟨Ye2, be HB.out⟩

end Go.Proofs.YtkdghhkpmkfjhaaDoor.P


namespace Go.Proofs.YtkdghhkpmkfjhaaDoor.P
open Go.RowKit Go.Proofs.YtkdghhkpmkfjhaaDoorW.PrintWords Go.Proofs.YtkdghhkpmkfjhaaDoorW.PrintLast Go.Proofs.YtkdghhkpmkfjhaaDoorW.PrintMore
attribute [local go_sem] max2_int min2_int max_two min_two max_three min_three max_four min_four
set_option linter.unusedVariables false
set_option linter.unusedSimpArgs false

/-! ### impl_goodEntry: function 51 -/
def impl_goodEntry.f (k : Nat) (a0_0 : ByteArray) (a0_1 : ByteArray) (a0_2 : Bool) : Option (Bool) := (impl_ValidPath.f k a0_0).bind fun t156 => (if t156 = true then (some (decide ((a0_1.size : Int) ≤ 1500))) else (some false))
theorem impl_goodEntry.mono : ∀ a0 a1 a2 k, LeO (impl_goodEntry.f k a0 a1 a2) (impl_goodEntry.f (k + 1) a0 a1 a2) := by
 intro a0 a1 a2 k
 unfold impl_goodEntry.f
 repeat' first
   | (with_reducible exact impl_ValidPath.mono _ _)
   | (with_reducible exact LeO.refl _)
   | (with_reducible exact LeO.none _)
   | (with_reducible refine LeO.ite ?_ ?_)
   | (with_reducible refine LeO.bind ?_ (fun _ => ?_))
   | exact impl_ValidPath.mono _ _
   | exact LeO.none _
   | refine LeO.ite ?_ ?_
   | refine LeO.bind ?_ (fun _ => ?_)
set_option maxHeartbeats 8000000 in
set_option maxRecDepth 100000 in
theorem impl_goodEntry.calls (k : Nat) (a0_0 : ByteArray) (a0_1 : ByteArray) (a0_2 : Bool) (r : Bool) (w : World) (hg : GOK w) (h : impl_goodEntry.f k a0_0 a0_1 a0_2 = some r) :
  Calls Tryd.prog 51 #[.agg #[.string a0_0, .string a0_1, .bool a0_2]] w fun e w' => e = .returned (.bool r) ∧ Below w.heap.size w w' := by
 have HG := Aside0.mk hg
 clear hg
 have hu45 := Tryd.underlying45
 have HB := Aside0.mk (Below.refl w.heap.size w)
 have H : ((impl_ValidPath.f k a0_0).bind fun t156 => (if t156 = true then (some (decide ((a0_1.size : Int) ≤ 1500))) else (some false))) = some r := h
 clear h
 replace H := Option.bind_eq_some_iff.mp H
 obtain ⟨t156, A20, H⟩ := H
 replace H : (if t156 = true then (some (decide ((a0_1.size : Int) ≤ 1500))) else (some false)) = some r := H
 have A2 := Aside0.mk A20
 clear A20
 by_cases c3 : t156 = true
 ·subst c3
  have H1 : (some (decide ((a0_1.size : Int) ≤ 1500))) = some r := by rw [if_pos rfl] at H; exact H
  clear H
  have H := H1
  clear H1
  obtain rfl := Option.some.inj H
  go_enter Tryd.func51, Tryd.ntmps51
  go_wp2_with (first | ((with_reducible refine gd 1 rfl ?_); (try (refine gate_guard (by rfl) ?_; dsimp only)); refine bx 1 45 (#[.string a0_0, .string a0_1, .bool a0_2]) ?_; intro gb155 hg w4 hbox hb; refine Ya4 (below_step (be HB.out) hb) (hbox) (bs hg (be HB.out)) (bs hg (be HB.out)) ?_; clear HB; intro HB BK155 GW155 GE155; clear hb hbox hg; have ⟨hcz5_0, hcz5_1, hcz5_2, hfz5_0, hfz5_1, hfz5_2⟩ := Yc3 BK155.out) | ((with_reducible refine gc 57 rfl ?_); refine gl (some 5) _ (#[.string a0_0]) Tryd.func57 ?_; (with_reducible refine (impl_ValidPath.calls k a0_0 true _ ?sideG A2.out).mono ?_); (case sideG => exact gk1 HG.out HB.out GE155.out); rintro e w6 ⟨rfl, hb⟩; refine ⟨_, rfl, ?_⟩; refine Ya2 (bb BK155 hb) (below_step (be1 HB.out GE155.out) hb) ?_; clear BK155 HB; intro BK155 HB; (try clear hb); (try clear hb2); (try clear hk); (try clear hi); have ⟨hcz7_0, hcz7_1, hcz7_2, hfz7_0, hfz7_1, hfz7_2⟩ := Yc3 BK155.out))
  go_ret
  exact ⟨Ye2, (by first | exact be1 HB.out GE155.out | exact be HB.out)⟩
 ·replace c3 := Bool.eq_false_iff.mpr c3
  subst c3
  have H1 : (some false) = some r := by rw [if_neg (show ¬ (false = true) by decide)] at H; exact H
  clear H
  have H := H1
  clear H1
  obtain rfl := Option.some.inj H
  go_enter Tryd.func51, Tryd.ntmps51
  go_wp2_with (first | ((with_reducible refine gd 1 rfl ?_); (try (refine gate_guard (by rfl) ?_; dsimp only)); refine bx 1 45 (#[.string a0_0, .string a0_1, .bool a0_2]) ?_; intro gb155 hg w8 hbox hb; refine Ya4 (below_step (be HB.out) hb) (hbox) (bs hg (be HB.out)) (bs hg (be HB.out)) ?_; clear HB; intro HB BK155 GW155 GE155; clear hb hbox hg; have ⟨hcz9_0, hcz9_1, hcz9_2, hfz9_0, hfz9_1, hfz9_2⟩ := Yc3 BK155.out) | ((with_reducible refine gc 57 rfl ?_); refine gl (some 5) _ (#[.string a0_0]) Tryd.func57 ?_; (with_reducible refine (impl_ValidPath.calls k a0_0 false _ ?sideG A2.out).mono ?_); (case sideG => exact gk1 HG.out HB.out GE155.out); rintro e w10 ⟨rfl, hb⟩; refine ⟨_, rfl, ?_⟩; refine Ya2 (bb BK155 hb) (below_step (be1 HB.out GE155.out) hb) ?_; clear BK155 HB; intro BK155 HB; (try clear hb); (try clear hb2); (try clear hk); (try clear hi)))
  go_ret
  exact ⟨Ye2, (by first | exact be1 HB.out GE155.out | exact be HB.out)⟩

end Go.Proofs.YtkdghhkpmkfjhaaDoor.P


namespace Go.Proofs.YtkdghhkpmkfjhaaDoor.P
open Go.RowKit Go.Proofs.YtkdghhkpmkfjhaaDoorW.PrintWords Go.Proofs.YtkdghhkpmkfjhaaDoorW.PrintLast Go.Proofs.YtkdghhkpmkfjhaaDoorW.PrintMore
attribute [local go_sem] max2_int min2_int max_two min_two max_three min_three max_four min_four
set_option linter.unusedVariables false
set_option linter.unusedSimpArgs false

/-! ### stringslite_HasPrefix: function 93 -/
def stringslite_HasPrefix.f (a0 : ByteArray) (a1 : ByteArray) : Option (Bool) := if (a0.size : Int) ≥ (a1.size : Int) then (if 0 ≤ (a1.size : Int) then (if (a1.size : Int) ≤ (a0.size : Int) then (some ((a0.extract 0 ((a1.size : Int) : Int).toNat).toList == a1.toList)) else (none)) else (none)) else (some false)
set_option maxHeartbeats 8000000 in
set_option maxRecDepth 100000 in
theorem stringslite_HasPrefix.calls (a0 : ByteArray) (a1 : ByteArray) (r : Bool) (w : World) (h : stringslite_HasPrefix.f a0 a1 = some r) :
  Calls Tryd.prog 93 #[.string a0, .string a1] w fun e w' => e = .returned (.bool r) ∧ Drawn0 w w' := by
 have H : (if (a0.size : Int) ≥ (a1.size : Int) then (if 0 ≤ (a1.size : Int) then (if (a1.size : Int) ≤ (a0.size : Int) then (some ((a0.extract 0 ((a1.size : Int) : Int).toNat).toList == a1.toList)) else (none)) else (none)) else (some false)) = some r := h
 clear h
 by_cases c3 : (a0.size : Int) ≥ (a1.size : Int)
 ·rw [if_pos c3] at H
  have c3b0 : decide ((a1.size : Int) ≤ (a0.size : Int)) = true := decide_eq_true c3
  have c3b1 : decide (a1.size ≤ a0.size) = true := decide_eq_true (Int.ofNat_le.mp c3)
  clear c3
  by_cases c4 : 0 ≤ (a1.size : Int)
  ·rw [if_pos c4] at H
   have c4b0 := eq_true c4
   have c4b1 : decide (0 ≤ (a1.size : Int)) = true := decide_eq_true c4
   clear c4
   by_cases c5 : (a1.size : Int) ≤ (a0.size : Int)
   ·rw [if_pos c5] at H
    have c5b0 := eq_true c5
    have c5b1 : decide ((a1.size : Int) ≤ (a0.size : Int)) = true := decide_eq_true c5
    clear c5
    obtain rfl := Option.some.inj H
    go_enter Tryd.func93, Tryd.ntmps93
    go_wp2
    go_ret
    exact ⟨Ye1, dz⟩
   ·rw [if_neg c5] at H
    exact absurd H (by simp)
  ·rw [if_neg c4] at H
   exact absurd H (by simp)
 ·rw [if_neg c3] at H
  have c3b0 : decide ((a1.size : Int) ≤ (a0.size : Int)) = false := decide_eq_false c3
  have c3b1 : decide (a1.size ≤ a0.size) = false := decide_eq_false (fun h => c3 (Int.ofNat_le.mpr h))
  clear c3
  obtain rfl := Option.some.inj H
  go_enter Tryd.func93, Tryd.ntmps93
  go_wp2
  go_ret
  exact ⟨Ye1, dz⟩

end Go.Proofs.YtkdghhkpmkfjhaaDoor.P


namespace Go.Proofs.YtkdghhkpmkfjhaaDoor.P
open Go.RowKit Go.Proofs.YtkdghhkpmkfjhaaDoorW.PrintWords Go.Proofs.YtkdghhkpmkfjhaaDoorW.PrintLast Go.Proofs.YtkdghhkpmkfjhaaDoorW.PrintMore
attribute [local go_sem] max2_int min2_int max_two min_two max_three min_three max_four min_four
set_option linter.unusedVariables false
set_option linter.unusedSimpArgs false

/-! ### strings_HasPrefix: function 75 -/
def strings_HasPrefix.f (a0 : ByteArray) (a1 : ByteArray) : Option (Bool) := (stringslite_HasPrefix.f a0 a1).bind fun t157 => (some t157)
set_option maxHeartbeats 8000000 in
set_option maxRecDepth 100000 in
theorem strings_HasPrefix.calls (a0 : ByteArray) (a1 : ByteArray) (r : Bool) (w : World) (h : strings_HasPrefix.f a0 a1 = some r) :
  Calls Tryd.prog 75 #[.string a0, .string a1] w fun e w' => e = .returned (.bool r) ∧ Drawn0 w w' := by
 have H : ((stringslite_HasPrefix.f a0 a1).bind fun t157 => (some t157)) = some r := h
 clear h
 replace H := Option.bind_eq_some_iff.mp H
 obtain ⟨t157, A30, H⟩ := H
 replace H : (some t157) = some r := H
 have A3 := Aside0.mk A30
 clear A30
 obtain rfl := Option.some.inj H
 go_enter Tryd.func75, Tryd.ntmps75
 go_wp2_with (first | ((with_reducible refine gc 93 rfl ?_); refine gl (some 7) _ (#[.string a0, .string a1]) Tryd.func93 ?_; (with_reducible refine (stringslite_HasPrefix.calls a0 a1 t157 _ A3.out).mono ?_); rintro e w' ⟨rfl, ⟨nd, rfl⟩⟩; refine ⟨_, rfl, ?_⟩))
 go_ret
 exact ⟨Ye1, dz⟩

end Go.Proofs.YtkdghhkpmkfjhaaDoor.P


namespace Go.Proofs.YtkdghhkpmkfjhaaDoor.P
open Go.RowKit Go.Proofs.YtkdghhkpmkfjhaaDoorW.PrintWords Go.Proofs.YtkdghhkpmkfjhaaDoorW.PrintLast Go.Proofs.YtkdghhkpmkfjhaaDoorW.PrintMore
attribute [local go_sem] max2_int min2_int max_two min_two max_three min_three max_four min_four
set_option linter.unusedVariables false
set_option linter.unusedSimpArgs false

/-! ### impl_over: function 52 -/
def impl_over.f (a0 : ByteArray) (a1 : ByteArray) : Option (Bool) := if a0.size + 1 ≤ 9223372036854775807 then ((strings_HasPrefix.f a1 (a0 ++ (⟨#[47]⟩ : ByteArray))).bind fun t158 => (some t158)) else (none)
set_option maxHeartbeats 8000000 in
set_option maxRecDepth 100000 in
theorem impl_over.calls (a0 : ByteArray) (a1 : ByteArray) (r : Bool) (w : World) (h : impl_over.f a0 a1 = some r) :
  Calls Tryd.prog 52 #[.string a0, .string a1] w fun e w' => e = .returned (.bool r) ∧ Drawn0 w w' := by
 have H : (if a0.size + 1 ≤ 9223372036854775807 then ((strings_HasPrefix.f a1 (a0 ++ (⟨#[47]⟩ : ByteArray))).bind fun t158 => (some t158)) else (none)) = some r := h
 clear h
 by_cases c3 : a0.size + 1 ≤ 9223372036854775807
 ·rw [if_pos c3] at H
  have c3b0 := eq_true c3
  have c3b1 : decide (a0.size + 1 ≤ 9223372036854775807) = true := decide_eq_true c3
  try have c3b2 : (9223372036854775807 < a0.size + 1) = False := eq_false (Nat.not_lt.2 c3)
  replace H := Option.bind_eq_some_iff.mp H
  obtain ⟨t158, A40, H⟩ := H
  replace H : (some t158) = some r := H
  have A4 := Aside0.mk A40
  clear A40
  obtain rfl := Option.some.inj H
  go_enter Tryd.func52, Tryd.ntmps52
  go_wp2_with (first | ((with_reducible refine gc 75 rfl ?_); refine gl (some 8) _ (#[.string a1, .string (a0 ++ (⟨#[47]⟩ : ByteArray))]) Tryd.func75 ?_; (with_reducible refine (strings_HasPrefix.calls a1 (a0 ++ (⟨#[47]⟩ : ByteArray)) t158 _ A4.out).mono ?_); rintro e w' ⟨rfl, ⟨nd, rfl⟩⟩; refine ⟨_, rfl, ?_⟩))
  go_ret
  exact ⟨Ye1, dz⟩
 ·rw [if_neg c3] at H
  exact absurd H (by simp)

end Go.Proofs.YtkdghhkpmkfjhaaDoor.P


namespace Go.Proofs.YtkdghhkpmkfjhaaDoor.P
open Go.RowKit Go.Proofs.YtkdghhkpmkfjhaaDoorW.PrintWords Go.Proofs.YtkdghhkpmkfjhaaDoorW.PrintLast Go.Proofs.YtkdghhkpmkfjhaaDoorW.PrintMore
attribute [local go_sem] max2_int min2_int max_two min_two max_three min_three max_four min_four
set_option linter.unusedVariables false
set_option linter.unusedSimpArgs false

/-! ### impl_ValidTree: function 15 -/
mutual
def impl_ValidTree.l0 : Nat → List (S45) → Int → Int → List (S45) → Option (Bool)
 | 0, _, _, _, _ => none
 | k + 1, x11, x12, x13, x160000 => if x13 < x12 then (if 0 ≤ x13 then (if x13 < (x11.length : Int) then ((impl_goodEntry.f k ((rd_T45 x11 x13).f0) ((rd_T45 x11 x13).f1) ((rd_T45 x11 x13).f2)).bind fun t162 => (if t162 = true then (if x13 > 0 then (if 0 ≤ (wrap64 (x13 - 1)) then (if (wrap64 (x13 - 1)) < (x160000.length : Int) then (impl_ValidTree.j1 k x13 x11 x12 x13 (!(Op.bytesLess (((rd_T45 x160000 (wrap64 (x13 - 1))).f0).toList) (((rd_T45 x11 x13).f0).toList))) x160000 ((rd_T45 x11 x13).f0) ((rd_T45 x11 x13).f1) ((rd_T45 x11 x13).f2)) else (none)) else (none)) else (impl_ValidTree.j1 k x13 x11 x12 x13 false x160000 ((rd_T45 x11 x13).f0) ((rd_T45 x11 x13).f1) ((rd_T45 x11 x13).f2))) else (impl_ValidTree.j1 k x13 x11 x12 x13 true x160000 ((rd_T45 x11 x13).f0) ((rd_T45 x11 x13).f1) ((rd_T45 x11 x13).f2)))) else (none)) else (none)) else (some true)
def impl_ValidTree.j1 : Nat → Int → List (S45) → Int → Int → Bool → List (S45) → ByteArray → ByteArray → Bool → Option (Bool)
 | 0, _, _, _, _, _, _, _, _, _ => none
 | k + 1, x3, x11, x12, x13, x36, x160000, x162000, x162001, x162002 => if x36 = true then (some false) else (impl_ValidTree.l1 k x3 0 x11 x12 x13 x160000 x162000 x162001 x162002)
def impl_ValidTree.l1 : Nat → Int → Int → List (S45) → Int → Int → List (S45) → ByteArray → ByteArray → Bool → Option (Bool)
 | 0, _, _, _, _, _, _, _, _, _ => none
 | k + 1, x3, x5, x11, x12, x13, x160000, x162000, x162001, x162002 => if x5 < x3 then (if 0 ≤ x5 then (if x5 < (x160000.length : Int) then ((impl_over.f ((rd_T45 x160000 x5).f0) x162000).bind fun t165 => (if t165 = true then (some false) else (impl_ValidTree.l1 k x3 (wrap64 (x5 + 1)) x11 x12 x13 x160000 x162000 x162001 x162002))) else (none)) else (none)) else (impl_ValidTree.l0 k x11 x12 (wrap64 (x13 + 1)) x160000)
end
def impl_ValidTree.f (k : Nat) (l0_0 : List (S45)) : Option (Bool) := if (l0_0.length : Int) > 100 then (some false) else (impl_ValidTree.l0 k l0_0 (l0_0.length : Int) 0 l0_0)
theorem impl_ValidTree.mono_l : ∀ k, (∀ y0 y1 y2 y3, LeO (impl_ValidTree.l0 k y0 y1 y2 y3) (impl_ValidTree.l0 (k + 1) y0 y1 y2 y3)) ∧ (∀ y0 y1 y2 y3 y4 y5 y6 y7 y8, LeO (impl_ValidTree.j1 k y0 y1 y2 y3 y4 y5 y6 y7 y8) (impl_ValidTree.j1 (k + 1) y0 y1 y2 y3 y4 y5 y6 y7 y8)) ∧ (∀ y0 y1 y2 y3 y4 y5 y6 y7 y8, LeO (impl_ValidTree.l1 k y0 y1 y2 y3 y4 y5 y6 y7 y8) (impl_ValidTree.l1 (k + 1) y0 y1 y2 y3 y4 y5 y6 y7 y8))
 | 0 => ⟨fun _ _ _ _ r h => by simp [impl_ValidTree.l0] at h, fun _ _ _ _ _ _ _ _ _ r h => by simp [impl_ValidTree.j1] at h, fun _ _ _ _ _ _ _ _ _ r h => by simp [impl_ValidTree.l1] at h⟩
 | k + 1 => by
  obtain ⟨ih0, ih1, ih2⟩ := impl_ValidTree.mono_l k
  refine ⟨?_, ?_, ?_⟩
  ·intro y0 y1 y2 y3
   unfold impl_ValidTree.l0
   repeat' first
   | (with_reducible exact ih0 _ _ _ _)
   | (with_reducible exact ih1 _ _ _ _ _ _ _ _ _)
   | (with_reducible exact ih2 _ _ _ _ _ _ _ _ _)
   | (with_reducible exact impl_goodEntry.mono _ _ _ _)
   | (with_reducible exact LeO.refl _)
   | (with_reducible exact LeO.none _)
   | (with_reducible refine LeO.ite ?_ ?_)
   | (with_reducible refine LeO.bind ?_ (fun _ => ?_))
   | exact ih0 _ _ _ _
   | exact ih1 _ _ _ _ _ _ _ _ _
   | exact ih2 _ _ _ _ _ _ _ _ _
   | exact impl_goodEntry.mono _ _ _ _
   | exact LeO.none _
   | refine LeO.ite ?_ ?_
   | refine LeO.bind ?_ (fun _ => ?_)
  ·intro y0 y1 y2 y3 y4 y5 y6 y7 y8
   unfold impl_ValidTree.j1
   repeat' first
   | (with_reducible exact ih0 _ _ _ _)
   | (with_reducible exact ih1 _ _ _ _ _ _ _ _ _)
   | (with_reducible exact ih2 _ _ _ _ _ _ _ _ _)
   | (with_reducible exact impl_goodEntry.mono _ _ _ _)
   | (with_reducible exact LeO.refl _)
   | (with_reducible exact LeO.none _)
   | (with_reducible refine LeO.ite ?_ ?_)
   | (with_reducible refine LeO.bind ?_ (fun _ => ?_))
   | exact ih0 _ _ _ _
   | exact ih1 _ _ _ _ _ _ _ _ _
   | exact ih2 _ _ _ _ _ _ _ _ _
   | exact impl_goodEntry.mono _ _ _ _
   | exact LeO.none _
   | refine LeO.ite ?_ ?_
   | refine LeO.bind ?_ (fun _ => ?_)
  ·intro y0 y1 y2 y3 y4 y5 y6 y7 y8
   unfold impl_ValidTree.l1
   repeat' first
   | (with_reducible exact ih0 _ _ _ _)
   | (with_reducible exact ih1 _ _ _ _ _ _ _ _ _)
   | (with_reducible exact ih2 _ _ _ _ _ _ _ _ _)
   | (with_reducible exact impl_goodEntry.mono _ _ _ _)
   | (with_reducible exact LeO.refl _)
   | (with_reducible exact LeO.none _)
   | (with_reducible refine LeO.ite ?_ ?_)
   | (with_reducible refine LeO.bind ?_ (fun _ => ?_))
   | exact ih0 _ _ _ _
   | exact ih1 _ _ _ _ _ _ _ _ _
   | exact ih2 _ _ _ _ _ _ _ _ _
   | exact impl_goodEntry.mono _ _ _ _
   | exact LeO.none _
   | refine LeO.ite ?_ ?_
   | refine LeO.bind ?_ (fun _ => ?_)
theorem impl_ValidTree.mono : ∀ a0 k, LeO (impl_ValidTree.f k a0) (impl_ValidTree.f (k + 1) a0) := by
 intro a0 k
 obtain ⟨ih0, ih1, ih2⟩ := impl_ValidTree.mono_l k
 unfold impl_ValidTree.f
 repeat' first
   | (with_reducible exact ih0 _ _ _ _)
   | (with_reducible exact ih1 _ _ _ _ _ _ _ _ _)
   | (with_reducible exact ih2 _ _ _ _ _ _ _ _ _)
   | (with_reducible exact impl_goodEntry.mono _ _ _ _)
   | (with_reducible exact LeO.refl _)
   | (with_reducible exact LeO.none _)
   | (with_reducible refine LeO.ite ?_ ?_)
   | (with_reducible refine LeO.bind ?_ (fun _ => ?_))
   | exact ih0 _ _ _ _
   | exact ih1 _ _ _ _ _ _ _ _ _
   | exact ih2 _ _ _ _ _ _ _ _ _
   | exact impl_goodEntry.mono _ _ _ _
   | exact LeO.none _
   | refine LeO.ite ?_ ?_
   | refine LeO.bind ?_ (fun _ => ?_)
def impl_ValidTree.T6 : Bool × List (List Nat × List Nat) := (true, [([], []), ([0], [0]), ([1], [1]), ([2, 1], [2]), ([3], [3]), ([4, 3], [3, 4]), ([5, 3, 3], [3, 5]), ([6], [6]), ([7, 6], [6, 7]), ([6], [6]), ([9, 6], [6, 9]), ([8, 10, 6], [6, 8, 10]), ([11, 6], [6, 11]), ([12, 6], [6, 12]), ([6], [6]), ([14, 6], [6, 14]), ([13, 15, 6], [6, 13, 15]), ([6, 16, 3], [3, 6, 16]), ([3, 17], [3, 17])])
def impl_ValidTree.B6 : List Nat := [0, 1, 3, 7, 15, 31, 63, 127, 255, 127, 639, 2047, 4095, 8191, 127, 16511, 65535, 131071, 262143]
theorem impl_ValidTree.tab6 : rtab .any (opsOf Tryd.f15 6) = impl_ValidTree.T6 := by kernel_rfl
theorem impl_ValidTree.bits6 : waitsOk impl_ValidTree.T6.2 impl_ValidTree.B6 = true := by kernel_rfl
def impl_ValidTree.T11 : Bool × List (List Nat × List Nat) := (true, [([], []), ([0], [0]), ([], []), ([1, 2], [1, 2]), ([3], [3]), ([4], [4]), ([], []), ([6], [6]), ([5, 7], [5, 7])])
def impl_ValidTree.B11 : List Nat := [0, 1, 0, 7, 15, 31, 0, 64, 255]
theorem impl_ValidTree.tab11 : rtab .any (opsOf Tryd.f15 11) = impl_ValidTree.T11 := by kernel_rfl
theorem impl_ValidTree.bits11 : waitsOk impl_ValidTree.T11.2 impl_ValidTree.B11 = true := by kernel_rfl
set_option maxHeartbeats 8000000 in
set_option maxRecDepth 100000 in
theorem impl_ValidTree.calls (k : Nat) (A0_0 : Option Addr) (c0_0 : Nat) (l0_0 : List (S45)) (r : Bool) (w : World) (hg : GOK w) (hr0_0 : Kd.C k45 w A0_0 l0_0.length l0_0) (hc0_0 : l0_0.length ≤ c0_0) (h : impl_ValidTree.f k l0_0 = some r) :
  Calls Tryd.prog 15 #[.agg #[.slice A0_0 l0_0.length c0_0]] w fun e w' => e = .returned (.bool r) ∧ Below w.heap.size w w' := by
 have HG := Aside0.mk hg
 clear hg
 have hu29 := Tryd.underlying29
 have hu45 := Tryd.underlying45
 have HR0_0 := Aside0.mk hr0_0
 have HC0_0 := Aside0.mk hc0_0
 clear hr0_0 hc0_0
 have HB := Aside0.mk (Below.refl w.heap.size w)
 have H : (if (l0_0.length : Int) > 100 then (some false) else (impl_ValidTree.l0 k l0_0 (l0_0.length : Int) 0 l0_0)) = some r := h
 clear h
 by_cases c2 : (l0_0.length : Int) > 100
 ·rw [if_pos c2] at H
  have c2b0 : decide (100 < (l0_0.length : Int)) = true := decide_eq_true c2
  have c2b1 : decide (100 < l0_0.length) = true := decide_eq_true (by omega)
  clear c2
  obtain rfl := Option.some.inj H
  go_enter Tryd.func15, Tryd.ntmps15
  go_wp2_with (first | ((with_reducible refine gd 1 rfl ?_); refine bx 1 29 (#[.slice A0_0 l0_0.length c0_0]) ?_; intro gb159 hg w3 hbox hb; refine Ya4 (below_step (be HB.out) hb) (hbox) (bs hg (be HB.out)) (bs hg (be HB.out)) ?_; clear HB; intro HB BK159 GW159 GE159; clear hb hbox hg; have ⟨hcz4_0, hfz4_0⟩ := Yc1 BK159.out))
  go_ret
  exact ⟨Ye2, (by first | exact be1 HB.out GE159.out | exact be HB.out)⟩
 ·rw [if_neg c2] at H
  have c2b0 : decide (100 < (l0_0.length : Int)) = false := decide_eq_false c2
  have c2b1 : decide (100 < l0_0.length) = false := decide_eq_false (by omega)
  clear c2
  have H' := Aside0.mk H
  clear H
  go_enter Tryd.func15, Tryd.ntmps15
  go_wp2_with (first | ((with_reducible refine gd 1 rfl ?_); refine bx 1 29 (#[.slice A0_0 l0_0.length c0_0]) ?_; intro gb159 hg w5 hbox hb; refine Ya4 (below_step (be HB.out) hb) (hbox) (bs hg (be HB.out)) (bs hg (be HB.out)) ?_; clear HB; intro HB BK159 GW159 GE159; clear hb hbox hg; have ⟨hcz6_0, hfz6_0⟩ := Yc1 BK159.out))
  go_loopg [13] k (fun kq v13 w' => ∃ (x13_1 : Int), v13 = .int .i64 x13_1 ∧ Aside0 (impl_ValidTree.l0 kq l0_0 (l0_0.length : Int) x13_1 l0_0 = some r) ∧ Aside0 (kq ≤ k) ∧ Aside0 (w'.heap[gb159]? = some (.cells #[(.slice A0_0 l0_0.length c0_0)] 29 (0, 0))) ∧ Aside0 (Below w.heap.size w w'))
  case atStart => exact ⟨(0), Ye1, H', ⟨Nat.le_refl _⟩, ⟨bk BK159.out⟩, ⟨be1 HB.out GE159.out⟩⟩
  case round =>
   clear H'
   try clear c1
   try clear c2
   try clear c2b0
   try clear c2b1
   try clear p2
   try clear hcz4_0
   try clear hcz6_0
   try clear hfz4_0
   try clear hfz6_0
   obtain ⟨x13_1, rfl, HA, HK1, BK159, HB⟩ := hrel
   cases gk with
   | zero => exact absurd HA.out (by simp [impl_ValidTree.l0])
   | succ k1 =>
    have H := HA.out
    clear HA
    simp only [impl_ValidTree.l0] at H
    by_cases c7 : x13_1 < (l0_0.length : Int)
    ·rw [if_pos c7] at H
     have c7b0 : decide (x13_1 < (l0_0.length : Int)) = true := decide_eq_true c7
     clear c7
     by_cases c8 : 0 ≤ x13_1
     ·rw [if_pos c8] at H
      have c8b0 : decide (0 ≤ x13_1) = true := decide_eq_true c8
      clear c8
      by_cases c9 : x13_1 < (l0_0.length : Int)
      ·rw [if_pos c9] at H
       have c9b0 : decide (x13_1 < (l0_0.length : Int)) = true := decide_eq_true c9
       clear c9
       have HC10 := Aside0.mk H
       clear H
       have p160 : 0 ≤ (x13_1 : Int) := oda
       have q160 : x13_1 < (l0_0.length : Int) := oda
       obtain ⟨ad160, e160, hx160_0, hx160_1, hx160_2⟩ := at_T45 (Kd.C_below HR0_0.out HB.out) x13_1 p160 q160
       cases e160
       replace p160 := eq_true p160
       replace q160 := eq_true q160
       go_upto_region 6 with (first | ((with_reducible refine gd 4 rfl ?_); refine bx 4 45 (#[.string (⟨#[]⟩ : ByteArray), .string (⟨#[]⟩ : ByteArray), .bool false]) ?_; intro gb161 hg w11 hbox hb; refine Ya7 (bb BK159 hb) (below_step (be1 HB.out GE159.out) hb) (hbox) (bs hg (be1 HB.out GE159.out)) (bs hg (be1 HB.out GE159.out)) (bl hg BK159) (br hg BK159) ?_; clear BK159 HB; intro BK159 HB BK161 GW161 GE161 NB159_161 NB161_159; clear hb hbox hg; have hnb12 := NB161_159.out; have hnc12 := NB159_161.out; have ⟨hcz13_0, hcz13_1, hcz13_2, hfz13_0, hfz13_1, hfz13_2⟩ := Yc3 BK161.out))
       (try simp only [Act.put, List.setIfInBounds_toArray, List.set_cons_zero, List.set_cons_succ])
       go_cut [36] (fun v36 wc => ∃ (kq : Nat) (x36_9 : Bool), v36 = .bool x36_9 ∧ Aside0 (impl_ValidTree.j1 kq x13_1 l0_0 (l0_0.length : Int) x13_1 x36_9 l0_0 ((rd_T45 l0_0 x13_1).f0) ((rd_T45 l0_0 x13_1).f1) ((rd_T45 l0_0 x13_1).f2) = some r) ∧ Aside0 (kq ≤ k1) ∧ Aside0 (wc.heap[gb159]? = some (.cells #[(.slice (some ad160) l0_0.length c0_0)] 29 (0, 0))) ∧ Aside0 (wc.heap[gb161]? = some (.cells #[.string ((rd_T45 l0_0 x13_1).f0), .string ((rd_T45 l0_0 x13_1).f1), .bool ((rd_T45 l0_0 x13_1).f2)] 45 (0, 0))) ∧ Aside0 (Below w.heap.size w wc))
       case first =>
        have H := HC10.out
        clear HC10
        replace H := Option.bind_eq_some_iff.mp H
        obtain ⟨t162, A140, H⟩ := H
        replace H : (if t162 = true then (if x13_1 > 0 then (if 0 ≤ (wrap64 (x13_1 - 1)) then (if (wrap64 (x13_1 - 1)) < (l0_0.length : Int) then (impl_ValidTree.j1 k1 x13_1 l0_0 (l0_0.length : Int) x13_1 (!(Op.bytesLess (((rd_T45 l0_0 (wrap64 (x13_1 - 1))).f0).toList) (((rd_T45 l0_0 x13_1).f0).toList))) l0_0 ((rd_T45 l0_0 x13_1).f0) ((rd_T45 l0_0 x13_1).f1) ((rd_T45 l0_0 x13_1).f2)) else (none)) else (none)) else (impl_ValidTree.j1 k1 x13_1 l0_0 (l0_0.length : Int) x13_1 false l0_0 ((rd_T45 l0_0 x13_1).f0) ((rd_T45 l0_0 x13_1).f1) ((rd_T45 l0_0 x13_1).f2))) else (impl_ValidTree.j1 k1 x13_1 l0_0 (l0_0.length : Int) x13_1 true l0_0 ((rd_T45 l0_0 x13_1).f0) ((rd_T45 l0_0 x13_1).f1) ((rd_T45 l0_0 x13_1).f2))) = some r := H
        have A14 := Aside0.mk A140
        clear A140
        by_cases c15 : t162 = true
        ·subst c15
         have H1 : (if x13_1 > 0 then (if 0 ≤ (wrap64 (x13_1 - 1)) then (if (wrap64 (x13_1 - 1)) < (l0_0.length : Int) then (impl_ValidTree.j1 k1 x13_1 l0_0 (l0_0.length : Int) x13_1 (!(Op.bytesLess (((rd_T45 l0_0 (wrap64 (x13_1 - 1))).f0).toList) (((rd_T45 l0_0 x13_1).f0).toList))) l0_0 ((rd_T45 l0_0 x13_1).f0) ((rd_T45 l0_0 x13_1).f1) ((rd_T45 l0_0 x13_1).f2)) else (none)) else (none)) else (impl_ValidTree.j1 k1 x13_1 l0_0 (l0_0.length : Int) x13_1 false l0_0 ((rd_T45 l0_0 x13_1).f0) ((rd_T45 l0_0 x13_1).f1) ((rd_T45 l0_0 x13_1).f2))) = some r := by rw [if_pos rfl] at H; exact H
         clear H
         have H := H1
         clear H1
         by_cases c16 : x13_1 > 0
         ·rw [if_pos c16] at H
          have c16b0 : decide (0 < x13_1) = true := decide_eq_true c16
          clear c16
          (first | rw [c16b0] | (simp only [i64_w, i32_w]; rw [c16b0]) | skip)
          obtain ⟨ji17, hji17⟩ : ∃ j_ : Int, (wrap64 (x13_1 - 1)) = j_ := ⟨_, rfl⟩
          replace H : (if 0 ≤ (ji17) then (if (ji17) < (l0_0.length : Int) then (impl_ValidTree.j1 k1 x13_1 l0_0 (l0_0.length : Int) x13_1 (!(Op.bytesLess (((rd_T45 l0_0 (ji17)).f0).toList) (((rd_T45 l0_0 x13_1).f0).toList))) l0_0 ((rd_T45 l0_0 x13_1).f0) ((rd_T45 l0_0 x13_1).f1) ((rd_T45 l0_0 x13_1).f2)) else (none)) else (none)) = some r := by first | (rw [hji17] at H; exact H) | (simp only [hji17] at H ⊢; exact H)
          (try rw [hji17] at A14)
          have hji17w : (IntKind.i64.wrap (x13_1 - 1)) = ji17 := (i64_w _).trans hji17
          by_cases c18 : 0 ≤ (ji17)
          ·rw [if_pos c18] at H
           have c18b0 : decide (0 ≤ (ji17)) = true := decide_eq_true c18
           clear c18
           by_cases c19 : (ji17) < (l0_0.length : Int)
           ·rw [if_pos c19] at H
            have c19b0 : decide ((ji17) < (l0_0.length : Int)) = true := decide_eq_true c19
            clear c19
            have H' := Aside0.mk H
            clear H
            try go_wp2
            have n0_ : Aside0 ((((w11.setCell ⟨gb161, 0, none⟩ (.string ((rd_T45 l0_0 x13_1).f0))).setCell ⟨gb161, 1, none⟩ (.string ((rd_T45 l0_0 x13_1).f1))).setCell ⟨gb161, 2, none⟩ (.bool ((rd_T45 l0_0 x13_1).f2))).heap[gb159]? = some (.cells #[.slice (some ad160) l0_0.length c0_0] 29 (0, 0))) := ⟨bkf BK159.out NB159_161.out⟩
            have n1_ : Aside0 ((((w11.setCell ⟨gb161, 0, none⟩ (.string ((rd_T45 l0_0 x13_1).f0))).setCell ⟨gb161, 1, none⟩ (.string ((rd_T45 l0_0 x13_1).f1))).setCell ⟨gb161, 2, none⟩ (.bool ((rd_T45 l0_0 x13_1).f2))).heap[gb161]? = some (.cells #[.string ((rd_T45 l0_0 x13_1).f0), .string ((rd_T45 l0_0 x13_1).f1), .bool ((rd_T45 l0_0 x13_1).f2)] 45 (0, 0))) := ⟨by (with_reducible repeat (first | refine blk_drewN ?_ _ | refine blk_drew ?_ | refine blk_alloc ?_ _)); refine blk_put (cs := #[.string ((rd_T45 l0_0 x13_1).f0), .string ((rd_T45 l0_0 x13_1).f1), .bool false]) ?_ 2 _ rfl; (with_reducible repeat (first | refine blk_drewN ?_ _ | refine blk_drew ?_ | refine blk_alloc ?_ _)); refine blk_put (cs := #[.string ((rd_T45 l0_0 x13_1).f0), .string (⟨#[]⟩ : ByteArray), .bool false]) ?_ 1 _ rfl; (with_reducible repeat (first | refine blk_drewN ?_ _ | refine blk_drew ?_ | refine blk_alloc ?_ _)); refine blk_put (cs := #[.string (⟨#[]⟩ : ByteArray), .string (⟨#[]⟩ : ByteArray), .bool false]) ?_ 0 _ rfl; (with_reducible repeat (first | refine blk_drewN ?_ _ | refine blk_drew ?_ | refine blk_alloc ?_ _)); exact BK161.out⟩
            have n2_ : Aside0 (Below w.heap.size w (((w11.setCell ⟨gb161, 0, none⟩ (.string ((rd_T45 l0_0 x13_1).f0))).setCell ⟨gb161, 1, none⟩ (.string ((rd_T45 l0_0 x13_1).f1))).setCell ⟨gb161, 2, none⟩ (.bool ((rd_T45 l0_0 x13_1).f2)))) := ⟨be2 HB.out GE159.out GE161.out⟩
            (try clear BK159)
            (try clear BK161)
            (try clear HB)
            generalize (((w11.setCell ⟨gb161, 0, none⟩ (.string ((rd_T45 l0_0 x13_1).f0))).setCell ⟨gb161, 1, none⟩ (.string ((rd_T45 l0_0 x13_1).f1))).setCell ⟨gb161, 2, none⟩ (.bool ((rd_T45 l0_0 x13_1).f2))) = w20 at n0_ n1_ n2_ ⊢
            have BK159 := n0_
            have BK161 := n1_
            have HB := n2_
            clear n0_ n1_ n2_
            refine Ya3 (blk_drew BK159.out) (blk_drew BK161.out) (below_drew1 HB.out) ?_
            clear BK159 BK161 HB
            intro BK159 BK161 HB
            have p163 : 0 ≤ ((ji17) : Int) := oda
            have q163 : (ji17) < (l0_0.length : Int) := oda
            obtain ⟨ad163, e163, hx163_0, hx163_1, hx163_2⟩ := at_T45 HR0_0.out (ji17) p163 q163
            have hw163_2 := hx163_2
            have hw163_1 := hx163_1
            have hw163_0 := hx163_0
            obtain rfl : ad160 = ad163 := (by injection e163)
            replace hx163_0 := pw_cell_below HB.out hx163_0
            replace hx163_1 := pw_cell_below HB.out hx163_1
            replace hx163_2 := pw_cell_below HB.out hx163_2
            replace p163 := eq_true p163
            replace q163 := eq_true q163
            refine start_ (n := 19) (S := fun w' => w'.cell? ⟨gb161, 0, none⟩ = some (.string ((rd_T45 l0_0 x13_1).f0)) ∧ w'.cell? ⟨gb161, 1, none⟩ = some (.string ((rd_T45 l0_0 x13_1).f1)) ∧ w'.cell? ⟨gb161, 2, none⟩ = some (.bool ((rd_T45 l0_0 x13_1).f2)) ∧ w'.cell? ⟨gb159, 0, none⟩ = some (.slice (some ad160) l0_0.length c0_0) ∧ w'.cell? (ad160.add (((ji17)).toNat * 3)) = some (.string ((rd_T45 l0_0 (ji17)).f0)) ∧ w'.cell? ⟨(ad160.add (((ji17)).toNat * 3)).block, (ad160.add (((ji17)).toNat * 3)).off + 1, none⟩ = some (.string ((rd_T45 l0_0 (ji17)).f1)) ∧ w'.cell? ⟨(ad160.add (((ji17)).toNat * 3)).block, (ad160.add (((ji17)).toNat * 3)).off + 2, none⟩ = some (.bool ((rd_T45 l0_0 (ji17)).f2))) (ds := []) (fb 19 0) (by kernel_rfl) rfl rfl ⟨(blk_cell BK161.out 0).trans rfl, (blk_cell BK161.out 1).trans rfl, (blk_cell BK161.out 2).trans rfl, (blk_cell BK159.out 0).trans rfl, (pw_cell_below HB.out hw163_0), (pw_cell_below HB.out hw163_1), (pw_cell_below HB.out hw163_2)⟩ (fun hHeld => ?_); refine with_tabW impl_ValidTree.tab6 impl_ValidTree.bits6 (fun HT_ HW_ => ?_)
            generalize w20.drew = w21 at BK159 BK161 HB hx163_0 hx163_1 hx163_2 hHeld ⊢
            refine tk 0 18 (fb 19 1) HT_ HW_ hHeld ?_
            refine one_ (i := 1) (N := some 19) (fb 19 3) rfl rfl (one_of HT_.out (by kernel_rfl)) (by decide) (fun K hK => ?_)
            refine gs _ (#[.agg #[.string ((rd_T45 l0_0 x13_1).f0), .string ((rd_T45 l0_0 x13_1).f1), .bool ((rd_T45 l0_0 x13_1).f2)]]) Tryd.func51 ?_
            with_reducible refine (impl_goodEntry.calls k1 ((rd_T45 l0_0 x13_1).f0) ((rd_T45 l0_0 x13_1).f1) ((rd_T45 l0_0 x13_1).f2) true _ ?sideG A14.out).mono ?_; (case sideG => exact gk2 HG.out HB.out GE159.out GE161.out)
            rintro e w22 ⟨rfl, hb⟩
            refine ⟨_, rfl, ?_⟩
            refine Ya3 (bb BK159 hb) (bb BK161 hb) (below_step (be2 HB.out GE159.out GE161.out) hb) ?_
            clear BK159 BK161 HB
            intro BK159 BK161 HB
            (try clear hb)
            (try clear hb2)
            (try clear hk)
            (try clear hi)
            refine hK.out _ _ ⟨(blk_cell BK161.out 0).trans rfl, (blk_cell BK161.out 1).trans rfl, (blk_cell BK161.out 2).trans rfl, (blk_cell BK159.out 0).trans rfl, (pw_cell_below HB.out hw163_0), (pw_cell_below HB.out hw163_1), (pw_cell_below HB.out hw163_2)⟩ (fun hHeld => ?_)
            clear hK K
            refine norm_ (a' := ?_) ?_ ?_
            rotate_left
            ·show Act.put _ (some 19) _ = _
             simp only [Act.put, List.setIfInBounds_toArray, List.set_cons_zero, List.set_cons_succ, i64_w, i32_w]
             rfl
            refine pu 2 20 (fb 19 7) HT_ ?_
            refine pu 3 21 (fb 19 15) HT_ ?_
            refine pu 4 22 (fb 19 31) HT_ ?_
            refine pu 5 23 (fb 19 63) HT_ ?_
            refine pu 6 24 (fb 19 127) HT_ ?_
            refine pu 7 25 (fb 19 255) HT_ ?_
            refine pu 9 27 (fb 19 767) HT_ ?_
            refine pu 10 28 (fb 19 1791) HT_ ?_
            refine pu 14 32 (fb 19 18175) HT_ ?_
            refine tk 8 26 (fb 19 18431) HT_ HW_ hHeld ?_
            refine pu 11 29 (fb 19 20479) HT_ ?_
            refine pu 12 30 (fb 19 24575) HT_ ?_
            refine tk 13 31 (fb 19 32767) HT_ HW_ hHeld ?_
            refine tk 15 33 (fb 19 65535) HT_ HW_ hHeld ?_
            refine pu 16 34 (fb 19 131071) HT_ ?_
            refine pu 17 35 (fb 19 262143) HT_ ?_
            refine pu 18 36 (fb 19 524287) HT_ ?_
            refine done_ (done_of HT_.out (by kernel_rfl)) ?_
            try go_wp2
            go_meet
            case rel => exact ⟨_, (!(Op.bytesLess (((rd_T45 l0_0 (ji17)).f0).toList) (((rd_T45 l0_0 x13_1).f0).toList))), (by first | rfl | (simp; done) | (simp only [← hji17] <;> (first | rfl | simp)) | (simp [*]; done)), (by first | exact H' | (subst hji17; exact H') | (simp only [← hji17] at H' ⊢; exact H')), ⟨by have := HK1.out; first | omega | exact Nat.le_refl _⟩, ⟨bk BK159.out⟩, ⟨bk BK161.out⟩, ⟨be2 HB.out GE159.out GE161.out⟩⟩
           ·rw [if_neg c19] at H
            exact absurd H (by simp)
          ·rw [if_neg c18] at H
           exact absurd H (by simp)
         ·rw [if_neg c16] at H
          have c16b0 : decide (0 < x13_1) = false := decide_eq_false c16
          clear c16
          (first | rw [c16b0] | (simp only [i64_w, i32_w]; rw [c16b0]) | skip)
          have H' := Aside0.mk H
          clear H
          try go_wp2
          have n0_ : Aside0 ((((w11.setCell ⟨gb161, 0, none⟩ (.string ((rd_T45 l0_0 x13_1).f0))).setCell ⟨gb161, 1, none⟩ (.string ((rd_T45 l0_0 x13_1).f1))).setCell ⟨gb161, 2, none⟩ (.bool ((rd_T45 l0_0 x13_1).f2))).heap[gb159]? = some (.cells #[.slice (some ad160) l0_0.length c0_0] 29 (0, 0))) := ⟨bkf BK159.out NB159_161.out⟩
          have n1_ : Aside0 ((((w11.setCell ⟨gb161, 0, none⟩ (.string ((rd_T45 l0_0 x13_1).f0))).setCell ⟨gb161, 1, none⟩ (.string ((rd_T45 l0_0 x13_1).f1))).setCell ⟨gb161, 2, none⟩ (.bool ((rd_T45 l0_0 x13_1).f2))).heap[gb161]? = some (.cells #[.string ((rd_T45 l0_0 x13_1).f0), .string ((rd_T45 l0_0 x13_1).f1), .bool ((rd_T45 l0_0 x13_1).f2)] 45 (0, 0))) := ⟨by (with_reducible repeat (first | refine blk_drewN ?_ _ | refine blk_drew ?_ | refine blk_alloc ?_ _)); refine blk_put (cs := #[.string ((rd_T45 l0_0 x13_1).f0), .string ((rd_T45 l0_0 x13_1).f1), .bool false]) ?_ 2 _ rfl; (with_reducible repeat (first | refine blk_drewN ?_ _ | refine blk_drew ?_ | refine blk_alloc ?_ _)); refine blk_put (cs := #[.string ((rd_T45 l0_0 x13_1).f0), .string (⟨#[]⟩ : ByteArray), .bool false]) ?_ 1 _ rfl; (with_reducible repeat (first | refine blk_drewN ?_ _ | refine blk_drew ?_ | refine blk_alloc ?_ _)); refine blk_put (cs := #[.string (⟨#[]⟩ : ByteArray), .string (⟨#[]⟩ : ByteArray), .bool false]) ?_ 0 _ rfl; (with_reducible repeat (first | refine blk_drewN ?_ _ | refine blk_drew ?_ | refine blk_alloc ?_ _)); exact BK161.out⟩
          have n2_ : Aside0 (Below w.heap.size w (((w11.setCell ⟨gb161, 0, none⟩ (.string ((rd_T45 l0_0 x13_1).f0))).setCell ⟨gb161, 1, none⟩ (.string ((rd_T45 l0_0 x13_1).f1))).setCell ⟨gb161, 2, none⟩ (.bool ((rd_T45 l0_0 x13_1).f2)))) := ⟨be2 HB.out GE159.out GE161.out⟩
          (try clear BK159)
          (try clear BK161)
          (try clear HB)
          generalize (((w11.setCell ⟨gb161, 0, none⟩ (.string ((rd_T45 l0_0 x13_1).f0))).setCell ⟨gb161, 1, none⟩ (.string ((rd_T45 l0_0 x13_1).f1))).setCell ⟨gb161, 2, none⟩ (.bool ((rd_T45 l0_0 x13_1).f2))) = w23 at n0_ n1_ n2_ ⊢
          have BK159 := n0_
          have BK161 := n1_
          have HB := n2_
          clear n0_ n1_ n2_
          refine Ya3 (blk_drew BK159.out) (blk_drew BK161.out) (below_drew1 HB.out) ?_
          clear BK159 BK161 HB
          intro BK159 BK161 HB
          refine start_ (n := 19) (S := fun w' => w'.cell? ⟨gb161, 0, none⟩ = some (.string ((rd_T45 l0_0 x13_1).f0)) ∧ w'.cell? ⟨gb161, 1, none⟩ = some (.string ((rd_T45 l0_0 x13_1).f1)) ∧ w'.cell? ⟨gb161, 2, none⟩ = some (.bool ((rd_T45 l0_0 x13_1).f2))) (ds := []) (fb 19 0) (by kernel_rfl) rfl rfl ⟨(blk_cell BK161.out 0).trans rfl, (blk_cell BK161.out 1).trans rfl, (blk_cell BK161.out 2).trans rfl⟩ (fun hHeld => ?_); refine with_tabW impl_ValidTree.tab6 impl_ValidTree.bits6 (fun HT_ HW_ => ?_)
          generalize w23.drew = w24 at BK159 BK161 HB hHeld ⊢
          refine tk 0 18 (fb 19 1) HT_ HW_ hHeld ?_
          refine one_ (i := 1) (N := some 19) (fb 19 3) rfl rfl (one_of HT_.out (by kernel_rfl)) (by decide) (fun K hK => ?_)
          refine gs _ (#[.agg #[.string ((rd_T45 l0_0 x13_1).f0), .string ((rd_T45 l0_0 x13_1).f1), .bool ((rd_T45 l0_0 x13_1).f2)]]) Tryd.func51 ?_
          with_reducible refine (impl_goodEntry.calls k1 ((rd_T45 l0_0 x13_1).f0) ((rd_T45 l0_0 x13_1).f1) ((rd_T45 l0_0 x13_1).f2) true _ ?sideG A14.out).mono ?_; (case sideG => exact gk2 HG.out HB.out GE159.out GE161.out)
          rintro e w25 ⟨rfl, hb⟩
          refine ⟨_, rfl, ?_⟩
          refine Ya3 (bb BK159 hb) (bb BK161 hb) (below_step (be2 HB.out GE159.out GE161.out) hb) ?_
          clear BK159 BK161 HB
          intro BK159 BK161 HB
          (try clear hb)
          (try clear hb2)
          (try clear hk)
          (try clear hi)
          refine hK.out _ _ ⟨(blk_cell BK161.out 0).trans rfl, (blk_cell BK161.out 1).trans rfl, (blk_cell BK161.out 2).trans rfl⟩ (fun hHeld => ?_)
          clear hK K
          refine norm_ (a' := ?_) ?_ ?_
          rotate_left
          ·show Act.put _ (some 19) _ = _
           simp only [Act.put, List.setIfInBounds_toArray, List.set_cons_zero, List.set_cons_succ, i64_w, i32_w]
           rfl
          refine pu 2 20 (fb 19 7) HT_ ?_
          refine pu 3 21 (fb 19 15) HT_ ?_
          refine pu 4 22 (fb 19 31) HT_ ?_
          refine pu 5 23 (fb 19 63) HT_ ?_
          refine pu 6 24 (fb 19 127) HT_ ?_
          refine pn 7 25 (fb 19 255) HT_ ?_
          refine pn 8 26 (fb 19 511) HT_ ?_
          refine pn 9 27 (fb 19 1023) HT_ ?_
          refine pn 10 28 (fb 19 2047) HT_ ?_
          refine pn 11 29 (fb 19 4095) HT_ ?_
          refine pn 12 30 (fb 19 8191) HT_ ?_
          refine pn 13 31 (fb 19 16383) HT_ ?_
          refine pn 14 32 (fb 19 32767) HT_ ?_
          refine pn 15 33 (fb 19 65535) HT_ ?_
          refine pn 16 34 (fb 19 131071) HT_ ?_
          refine pu 17 35 (fb 19 262143) HT_ ?_
          refine pu 18 36 (fb 19 524287) HT_ ?_
          refine done_ (done_of HT_.out (by kernel_rfl)) ?_
          try go_wp2
          go_meet
          case rel => exact ⟨_, (false), Ye1, H', ⟨by have := HK1.out; first | omega | exact Nat.le_refl _⟩, ⟨bk BK159.out⟩, ⟨bk BK161.out⟩, ⟨be2 HB.out GE159.out GE161.out⟩⟩
        ·replace c15 := Bool.eq_false_iff.mpr c15
         subst c15
         have H1 : (impl_ValidTree.j1 k1 x13_1 l0_0 (l0_0.length : Int) x13_1 true l0_0 ((rd_T45 l0_0 x13_1).f0) ((rd_T45 l0_0 x13_1).f1) ((rd_T45 l0_0 x13_1).f2)) = some r := by rw [if_neg (show ¬ (false = true) by decide)] at H; exact H
         clear H
         have H := H1
         clear H1
         have H' := Aside0.mk H
         clear H
         try go_wp2
         have n0_ : Aside0 ((((w11.setCell ⟨gb161, 0, none⟩ (.string ((rd_T45 l0_0 x13_1).f0))).setCell ⟨gb161, 1, none⟩ (.string ((rd_T45 l0_0 x13_1).f1))).setCell ⟨gb161, 2, none⟩ (.bool ((rd_T45 l0_0 x13_1).f2))).heap[gb159]? = some (.cells #[.slice (some ad160) l0_0.length c0_0] 29 (0, 0))) := ⟨bkf BK159.out NB159_161.out⟩
         have n1_ : Aside0 ((((w11.setCell ⟨gb161, 0, none⟩ (.string ((rd_T45 l0_0 x13_1).f0))).setCell ⟨gb161, 1, none⟩ (.string ((rd_T45 l0_0 x13_1).f1))).setCell ⟨gb161, 2, none⟩ (.bool ((rd_T45 l0_0 x13_1).f2))).heap[gb161]? = some (.cells #[.string ((rd_T45 l0_0 x13_1).f0), .string ((rd_T45 l0_0 x13_1).f1), .bool ((rd_T45 l0_0 x13_1).f2)] 45 (0, 0))) := ⟨by (with_reducible repeat (first | refine blk_drewN ?_ _ | refine blk_drew ?_ | refine blk_alloc ?_ _)); refine blk_put (cs := #[.string ((rd_T45 l0_0 x13_1).f0), .string ((rd_T45 l0_0 x13_1).f1), .bool false]) ?_ 2 _ rfl; (with_reducible repeat (first | refine blk_drewN ?_ _ | refine blk_drew ?_ | refine blk_alloc ?_ _)); refine blk_put (cs := #[.string ((rd_T45 l0_0 x13_1).f0), .string (⟨#[]⟩ : ByteArray), .bool false]) ?_ 1 _ rfl; (with_reducible repeat (first | refine blk_drewN ?_ _ | refine blk_drew ?_ | refine blk_alloc ?_ _)); refine blk_put (cs := #[.string (⟨#[]⟩ : ByteArray), .string (⟨#[]⟩ : ByteArray), .bool false]) ?_ 0 _ rfl; (with_reducible repeat (first | refine blk_drewN ?_ _ | refine blk_drew ?_ | refine blk_alloc ?_ _)); exact BK161.out⟩
         have n2_ : Aside0 (Below w.heap.size w (((w11.setCell ⟨gb161, 0, none⟩ (.string ((rd_T45 l0_0 x13_1).f0))).setCell ⟨gb161, 1, none⟩ (.string ((rd_T45 l0_0 x13_1).f1))).setCell ⟨gb161, 2, none⟩ (.bool ((rd_T45 l0_0 x13_1).f2)))) := ⟨be2 HB.out GE159.out GE161.out⟩
         (try clear BK159)
         (try clear BK161)
         (try clear HB)
         generalize (((w11.setCell ⟨gb161, 0, none⟩ (.string ((rd_T45 l0_0 x13_1).f0))).setCell ⟨gb161, 1, none⟩ (.string ((rd_T45 l0_0 x13_1).f1))).setCell ⟨gb161, 2, none⟩ (.bool ((rd_T45 l0_0 x13_1).f2))) = w26 at n0_ n1_ n2_ ⊢
         have BK159 := n0_
         have BK161 := n1_
         have HB := n2_
         clear n0_ n1_ n2_
         refine Ya3 (blk_drew BK159.out) (blk_drew BK161.out) (below_drew1 HB.out) ?_
         clear BK159 BK161 HB
         intro BK159 BK161 HB
         refine start_ (n := 19) (S := fun w' => w'.cell? ⟨gb161, 0, none⟩ = some (.string ((rd_T45 l0_0 x13_1).f0)) ∧ w'.cell? ⟨gb161, 1, none⟩ = some (.string ((rd_T45 l0_0 x13_1).f1)) ∧ w'.cell? ⟨gb161, 2, none⟩ = some (.bool ((rd_T45 l0_0 x13_1).f2))) (ds := []) (fb 19 0) (by kernel_rfl) rfl rfl ⟨(blk_cell BK161.out 0).trans rfl, (blk_cell BK161.out 1).trans rfl, (blk_cell BK161.out 2).trans rfl⟩ (fun hHeld => ?_); refine with_tabW impl_ValidTree.tab6 impl_ValidTree.bits6 (fun HT_ HW_ => ?_)
         generalize w26.drew = w27 at BK159 BK161 HB hHeld ⊢
         refine tk 0 18 (fb 19 1) HT_ HW_ hHeld ?_
         refine one_ (i := 1) (N := some 19) (fb 19 3) rfl rfl (one_of HT_.out (by kernel_rfl)) (by decide) (fun K hK => ?_)
         refine gs _ (#[.agg #[.string ((rd_T45 l0_0 x13_1).f0), .string ((rd_T45 l0_0 x13_1).f1), .bool ((rd_T45 l0_0 x13_1).f2)]]) Tryd.func51 ?_
         with_reducible refine (impl_goodEntry.calls k1 ((rd_T45 l0_0 x13_1).f0) ((rd_T45 l0_0 x13_1).f1) ((rd_T45 l0_0 x13_1).f2) false _ ?sideG A14.out).mono ?_; (case sideG => exact gk2 HG.out HB.out GE159.out GE161.out)
         rintro e w28 ⟨rfl, hb⟩
         refine ⟨_, rfl, ?_⟩
         refine Ya3 (bb BK159 hb) (bb BK161 hb) (below_step (be2 HB.out GE159.out GE161.out) hb) ?_
         clear BK159 BK161 HB
         intro BK159 BK161 HB
         (try clear hb)
         (try clear hb2)
         (try clear hk)
         (try clear hi)
         refine hK.out _ _ ⟨(blk_cell BK161.out 0).trans rfl, (blk_cell BK161.out 1).trans rfl, (blk_cell BK161.out 2).trans rfl⟩ (fun hHeld => ?_)
         clear hK K
         refine norm_ (a' := ?_) ?_ ?_
         rotate_left
         ·show Act.put _ (some 19) _ = _
          simp only [Act.put, List.setIfInBounds_toArray, List.set_cons_zero, List.set_cons_succ, i64_w, i32_w]
          rfl
         refine pu 2 20 (fb 19 7) HT_ ?_
         refine pu 3 21 (fb 19 15) HT_ ?_
         refine pn 4 22 (fb 19 31) HT_ ?_
         refine pn 5 23 (fb 19 63) HT_ ?_
         refine pn 6 24 (fb 19 127) HT_ ?_
         refine pn 7 25 (fb 19 255) HT_ ?_
         refine pn 8 26 (fb 19 511) HT_ ?_
         refine pn 9 27 (fb 19 1023) HT_ ?_
         refine pn 10 28 (fb 19 2047) HT_ ?_
         refine pn 11 29 (fb 19 4095) HT_ ?_
         refine pn 12 30 (fb 19 8191) HT_ ?_
         refine pn 13 31 (fb 19 16383) HT_ ?_
         refine pn 14 32 (fb 19 32767) HT_ ?_
         refine pn 15 33 (fb 19 65535) HT_ ?_
         refine pn 16 34 (fb 19 131071) HT_ ?_
         refine pn 17 35 (fb 19 262143) HT_ ?_
         refine pu 18 36 (fb 19 524287) HT_ ?_
         refine done_ (done_of HT_.out (by kernel_rfl)) ?_
         try go_wp2
         go_meet
         case rel => exact ⟨_, (true), Ye1, H', ⟨by have := HK1.out; first | omega | exact Nat.le_refl _⟩, ⟨bk BK159.out⟩, ⟨bk BK161.out⟩, ⟨be2 HB.out GE159.out GE161.out⟩⟩
       case rest =>
        clear HC10
        try clear c1
        try clear p1
        try clear q1
        try clear hx1
        try clear p2
        try clear c5
        try clear p6
        try clear c7
        try clear c7b0
        try clear c8
        try clear c8b0
        try clear c9
        try clear c9b0
        try clear c12
        try clear c15
        try clear c16
        try clear c16b0
        try clear p16
        try clear q16
        try clear hx16
        try clear c18
        try clear c18b0
        try clear c19
        try clear c19b0
        try clear hcz13_0
        try clear hcz13_1
        try clear hcz13_2
        try clear hcz4_0
        try clear hcz6_0
        try clear hfz13_0
        try clear hfz13_1
        try clear hfz13_2
        try clear hfz4_0
        try clear hfz6_0
        try clear hx160_0
        try clear hx160_1
        try clear hx160_2
        try clear hx163_0
        try clear hx163_1
        try clear hx163_2
        try clear p160
        try clear p163
        try clear q160
        try clear q163
        obtain ⟨kq, x36_9, rfl, HA, HJ9, BK159, BK161, HB⟩ := hcut
        cases kq with
        | zero => exact absurd HA.out (by simp [impl_ValidTree.j1])
        | succ kj9 =>
         have H := HA.out
         clear HA
         simp only [impl_ValidTree.j1] at H
         by_cases c29 : x36_9 = true
         ·subst c29
          have H1 : (some false) = some r := by rw [if_pos rfl] at H; exact H
          clear H
          have H := H1
          clear H1
          obtain rfl := Option.some.inj H
          go_wp2
          go_ret
          exact ⟨Ye2, (by first | exact be2 HB.out GE159.out GE161.out | exact be1 HB.out GE159.out | exact be HB.out)⟩
         ·replace c29 := Bool.eq_false_iff.mpr c29
          subst c29
          have H1 : (impl_ValidTree.l1 kj9 x13_1 0 l0_0 (l0_0.length : Int) x13_1 l0_0 ((rd_T45 l0_0 x13_1).f0) ((rd_T45 l0_0 x13_1).f1) ((rd_T45 l0_0 x13_1).f2)) = some r := by rw [if_neg (show ¬ (false = true) by decide)] at H; exact H
          clear H
          have H := H1
          clear H1
          have H' := Aside0.mk H
          clear H
          go_wp2
          go_loopg [5] kj9 (fun kq v5 w' => ∃ (x5_3 : Int), v5 = .int .i64 x5_3 ∧ Aside0 (impl_ValidTree.l1 kq x13_1 x5_3 l0_0 (l0_0.length : Int) x13_1 l0_0 ((rd_T45 l0_0 x13_1).f0) ((rd_T45 l0_0 x13_1).f1) ((rd_T45 l0_0 x13_1).f2) = some r) ∧ Aside0 (kq ≤ kj9) ∧ Aside0 (w'.heap[gb159]? = some (.cells #[(.slice (some ad160) l0_0.length c0_0)] 29 (0, 0))) ∧ Aside0 (w'.heap[gb161]? = some (.cells #[.string ((rd_T45 l0_0 x13_1).f0), .string ((rd_T45 l0_0 x13_1).f1), .bool ((rd_T45 l0_0 x13_1).f2)] 45 (0, 0))) ∧ Aside0 (Below w.heap.size w w'))
          case atStart => exact ⟨(0), Ye1, H', ⟨Nat.le_refl _⟩, ⟨bk BK159.out⟩, ⟨bk BK161.out⟩, ⟨be2 HB.out GE159.out GE161.out⟩⟩
          case round =>
           clear H'
           try clear c1
           try clear p1
           try clear q1
           try clear hx1
           try clear c2
           try clear p2
           try clear c5
           try clear p6
           try clear c7
           try clear c7b0
           try clear c8
           try clear c8b0
           try clear c9
           try clear c9b0
           try clear c12
           try clear c15
           try clear c16
           try clear c16b0
           try clear p16
           try clear q16
           try clear hx16
           try clear c18
           try clear c18b0
           try clear c19
           try clear c19b0
           try clear c29
           try clear hcz13_0
           try clear hcz13_1
           try clear hcz13_2
           try clear hcz4_0
           try clear hcz6_0
           try clear hfz13_0
           try clear hfz13_1
           try clear hfz13_2
           try clear hfz4_0
           try clear hfz6_0
           try clear hx160_0
           try clear hx160_1
           try clear hx160_2
           try clear hx163_0
           try clear hx163_1
           try clear hx163_2
           try clear p1
           try clear p16
           try clear p160
           try clear p163
           try clear p2
           try clear p6
           try clear q1
           try clear q16
           try clear q160
           try clear q163
           obtain ⟨x5_3, rfl, HA, HK3, BK159, BK161, HB⟩ := hrel
           cases gk with
           | zero => exact absurd HA.out (by simp [impl_ValidTree.l1])
           | succ k3 =>
            have H := HA.out
            clear HA
            simp only [impl_ValidTree.l1] at H
            by_cases c30 : x5_3 < x13_1
            ·rw [if_pos c30] at H
             have c30b0 : decide (x5_3 < x13_1) = true := decide_eq_true c30
             clear c30
             by_cases c31 : 0 ≤ x5_3
             ·rw [if_pos c31] at H
              have c31b0 : decide (0 ≤ x5_3) = true := decide_eq_true c31
              clear c31
              by_cases c32 : x5_3 < (l0_0.length : Int)
              ·rw [if_pos c32] at H
               have c32b0 : decide (x5_3 < (l0_0.length : Int)) = true := decide_eq_true c32
               clear c32
               replace H := Option.bind_eq_some_iff.mp H
               obtain ⟨t165, A330, H⟩ := H
               replace H : (if t165 = true then (some false) else (impl_ValidTree.l1 k3 x13_1 (wrap64 (x5_3 + 1)) l0_0 (l0_0.length : Int) x13_1 l0_0 ((rd_T45 l0_0 x13_1).f0) ((rd_T45 l0_0 x13_1).f1) ((rd_T45 l0_0 x13_1).f2))) = some r := H
               have A33 := Aside0.mk A330
               clear A330
               by_cases c34 : t165 = true
               ·subst c34
                have H1 : (some false) = some r := by rw [if_pos rfl] at H; exact H
                clear H
                have H := H1
                clear H1
                obtain rfl := Option.some.inj H
                try go_wp2
                refine Ya3 (blk_drew BK159.out) (blk_drew BK161.out) (below_drew1 HB.out) ?_
                clear BK159 BK161 HB
                intro BK159 BK161 HB
                have p164 : 0 ≤ (x5_3 : Int) := oda
                have q164 : x5_3 < (l0_0.length : Int) := oda
                obtain ⟨ad164, e164, hx164_0, hx164_1, hx164_2⟩ := at_T45 HR0_0.out x5_3 p164 q164
                have hw164_2 := hx164_2
                have hw164_1 := hx164_1
                have hw164_0 := hx164_0
                obtain rfl : ad160 = ad164 := (by injection e164)
                replace hx164_0 := pw_cell_below HB.out hx164_0
                replace hx164_1 := pw_cell_below HB.out hx164_1
                replace hx164_2 := pw_cell_below HB.out hx164_2
                replace p164 := eq_true p164
                replace q164 := eq_true q164
                refine start_ (n := 9) (S := fun w' => w'.cell? ⟨gb159, 0, none⟩ = some (.slice (some ad160) l0_0.length c0_0) ∧ w'.cell? ⟨gb161, 0, none⟩ = some (.string ((rd_T45 l0_0 x13_1).f0)) ∧ w'.cell? ⟨gb161, 1, none⟩ = some (.string ((rd_T45 l0_0 x13_1).f1)) ∧ w'.cell? ⟨gb161, 2, none⟩ = some (.bool ((rd_T45 l0_0 x13_1).f2)) ∧ w'.cell? (ad160.add ((x5_3).toNat * 3)) = some (.string ((rd_T45 l0_0 x5_3).f0)) ∧ w'.cell? ⟨(ad160.add ((x5_3).toNat * 3)).block, (ad160.add ((x5_3).toNat * 3)).off + 1, none⟩ = some (.string ((rd_T45 l0_0 x5_3).f1)) ∧ w'.cell? ⟨(ad160.add ((x5_3).toNat * 3)).block, (ad160.add ((x5_3).toNat * 3)).off + 2, none⟩ = some (.bool ((rd_T45 l0_0 x5_3).f2))) (ds := []) (fb 9 0) (by kernel_rfl) rfl rfl ⟨(blk_cell BK159.out 0).trans rfl, (blk_cell BK161.out 0).trans rfl, (blk_cell BK161.out 1).trans rfl, (blk_cell BK161.out 2).trans rfl, (pw_cell_below HB.out hw164_0), (pw_cell_below HB.out hw164_1), (pw_cell_below HB.out hw164_2)⟩ (fun hHeld => ?_); refine with_tabW impl_ValidTree.tab11 impl_ValidTree.bits11 (fun HT_ HW_ => ?_)
                generalize wr.drew = w35 at BK159 BK161 HB hx164_0 hx164_1 hx164_2 hHeld ⊢
                refine pu 0 42 (fb 9 1) HT_ ?_
                refine pu 2 44 (fb 9 5) HT_ ?_
                refine pu 6 48 (fb 9 69) HT_ ?_
                refine tk 1 43 (fb 9 71) HT_ HW_ hHeld ?_
                refine pu 3 45 (fb 9 79) HT_ ?_
                refine pu 4 46 (fb 9 95) HT_ ?_
                refine tk 5 47 (fb 9 127) HT_ HW_ hHeld ?_
                refine tk 7 49 (fb 9 255) HT_ HW_ hHeld ?_
                refine one_ (i := 8) (N := some 50) (fb 9 511) rfl rfl (one_of HT_.out (by kernel_rfl)) (by decide) (fun K hK => ?_)
                refine gs _ (#[.string ((rd_T45 l0_0 x5_3).f0), .string ((rd_T45 l0_0 x13_1).f0)]) Tryd.func52 ?_
                with_reducible refine (impl_over.calls ((rd_T45 l0_0 x5_3).f0) ((rd_T45 l0_0 x13_1).f0) true _ A33.out).mono ?_
                rintro e w' ⟨rfl, ⟨nd, rfl⟩⟩
                refine ⟨_, rfl, ?_⟩
                refine hK.out _ _ ⟨(blk_cell BK159.out 0).trans rfl, (blk_cell BK161.out 0).trans rfl, (blk_cell BK161.out 1).trans rfl, (blk_cell BK161.out 2).trans rfl, (pw_cell_below HB.out hw164_0), (pw_cell_below HB.out hw164_1), (pw_cell_below HB.out hw164_2)⟩ (fun hHeld => ?_)
                clear hK K
                refine norm_ (a' := ?_) ?_ ?_
                rotate_left
                ·show Act.put _ (some 50) _ = _
                 simp only [Act.put, List.setIfInBounds_toArray, List.set_cons_zero, List.set_cons_succ, i64_w, i32_w]
                 rfl
                refine done_ (done_of HT_.out (by kernel_rfl)) ?_
                try go_wp2
                go_ret
                exact ⟨Ye2, (by first | exact be2 HB.out GE159.out GE161.out | exact be1 HB.out GE159.out | exact be HB.out)⟩
               ·replace c34 := Bool.eq_false_iff.mpr c34
                subst c34
                have H1 : (impl_ValidTree.l1 k3 x13_1 (wrap64 (x5_3 + 1)) l0_0 (l0_0.length : Int) x13_1 l0_0 ((rd_T45 l0_0 x13_1).f0) ((rd_T45 l0_0 x13_1).f1) ((rd_T45 l0_0 x13_1).f2)) = some r := by rw [if_neg (show ¬ (false = true) by decide)] at H; exact H
                clear H
                have H := H1
                clear H1
                have H' := Aside0.mk H
                clear H
                try go_wp2
                refine Ya3 (blk_drew BK159.out) (blk_drew BK161.out) (below_drew1 HB.out) ?_
                clear BK159 BK161 HB
                intro BK159 BK161 HB
                have p164 : 0 ≤ (x5_3 : Int) := oda
                have q164 : x5_3 < (l0_0.length : Int) := oda
                obtain ⟨ad164, e164, hx164_0, hx164_1, hx164_2⟩ := at_T45 HR0_0.out x5_3 p164 q164
                have hw164_2 := hx164_2
                have hw164_1 := hx164_1
                have hw164_0 := hx164_0
                obtain rfl : ad160 = ad164 := (by injection e164)
                replace hx164_0 := pw_cell_below HB.out hx164_0
                replace hx164_1 := pw_cell_below HB.out hx164_1
                replace hx164_2 := pw_cell_below HB.out hx164_2
                replace p164 := eq_true p164
                replace q164 := eq_true q164
                refine start_ (n := 9) (S := fun w' => w'.cell? ⟨gb159, 0, none⟩ = some (.slice (some ad160) l0_0.length c0_0) ∧ w'.cell? ⟨gb161, 0, none⟩ = some (.string ((rd_T45 l0_0 x13_1).f0)) ∧ w'.cell? ⟨gb161, 1, none⟩ = some (.string ((rd_T45 l0_0 x13_1).f1)) ∧ w'.cell? ⟨gb161, 2, none⟩ = some (.bool ((rd_T45 l0_0 x13_1).f2)) ∧ w'.cell? (ad160.add ((x5_3).toNat * 3)) = some (.string ((rd_T45 l0_0 x5_3).f0)) ∧ w'.cell? ⟨(ad160.add ((x5_3).toNat * 3)).block, (ad160.add ((x5_3).toNat * 3)).off + 1, none⟩ = some (.string ((rd_T45 l0_0 x5_3).f1)) ∧ w'.cell? ⟨(ad160.add ((x5_3).toNat * 3)).block, (ad160.add ((x5_3).toNat * 3)).off + 2, none⟩ = some (.bool ((rd_T45 l0_0 x5_3).f2))) (ds := []) (fb 9 0) (by kernel_rfl) rfl rfl ⟨(blk_cell BK159.out 0).trans rfl, (blk_cell BK161.out 0).trans rfl, (blk_cell BK161.out 1).trans rfl, (blk_cell BK161.out 2).trans rfl, (pw_cell_below HB.out hw164_0), (pw_cell_below HB.out hw164_1), (pw_cell_below HB.out hw164_2)⟩ (fun hHeld => ?_); refine with_tabW impl_ValidTree.tab11 impl_ValidTree.bits11 (fun HT_ HW_ => ?_)
                generalize wr.drew = w36 at BK159 BK161 HB hx164_0 hx164_1 hx164_2 hHeld ⊢
                refine pu 0 42 (fb 9 1) HT_ ?_
                refine pu 2 44 (fb 9 5) HT_ ?_
                refine pu 6 48 (fb 9 69) HT_ ?_
                refine tk 1 43 (fb 9 71) HT_ HW_ hHeld ?_
                refine pu 3 45 (fb 9 79) HT_ ?_
                refine pu 4 46 (fb 9 95) HT_ ?_
                refine tk 5 47 (fb 9 127) HT_ HW_ hHeld ?_
                refine tk 7 49 (fb 9 255) HT_ HW_ hHeld ?_
                refine one_ (i := 8) (N := some 50) (fb 9 511) rfl rfl (one_of HT_.out (by kernel_rfl)) (by decide) (fun K hK => ?_)
                refine gs _ (#[.string ((rd_T45 l0_0 x5_3).f0), .string ((rd_T45 l0_0 x13_1).f0)]) Tryd.func52 ?_
                with_reducible refine (impl_over.calls ((rd_T45 l0_0 x5_3).f0) ((rd_T45 l0_0 x13_1).f0) false _ A33.out).mono ?_
                rintro e w' ⟨rfl, ⟨nd, rfl⟩⟩
                refine ⟨_, rfl, ?_⟩
                refine hK.out _ _ ⟨(blk_cell BK159.out 0).trans rfl, (blk_cell BK161.out 0).trans rfl, (blk_cell BK161.out 1).trans rfl, (blk_cell BK161.out 2).trans rfl, (pw_cell_below HB.out hw164_0), (pw_cell_below HB.out hw164_1), (pw_cell_below HB.out hw164_2)⟩ (fun hHeld => ?_)
                clear hK K
                refine norm_ (a' := ?_) ?_ ?_
                rotate_left
                ·show Act.put _ (some 50) _ = _
                 simp only [Act.put, List.setIfInBounds_toArray, List.set_cons_zero, List.set_cons_succ, i64_w, i32_w]
                 rfl
                refine done_ (done_of HT_.out (by kernel_rfl)) ?_
                try go_wp2
                go_roundg k3
                case measure => have := HK1.out; have := HJ9.out; have := HK3.out; omega
                case rel => exact ⟨(wrap64 (x5_3 + 1)), Ye1, H', ⟨by have := HK1.out; have := HJ9.out; have := HK3.out; omega⟩, ⟨bk BK159.out⟩, ⟨bk BK161.out⟩, ⟨be2 HB.out GE159.out GE161.out⟩⟩
              ·rw [if_neg c32] at H
               exact absurd H (by simp)
             ·rw [if_neg c31] at H
              exact absurd H (by simp)
            ·rw [if_neg c30] at H
             have c30b0 : decide (x5_3 < x13_1) = false := decide_eq_false c30
             clear c30
             have H' := Aside0.mk H
             clear H
             go_wp2
             go_roundg k3
             case measure => have := HK1.out; have := HJ9.out; have := HK3.out; omega
             case rel => exact ⟨(wrap64 (x13_1 + 1)), Ye1, H', ⟨by have := HK1.out; have := HJ9.out; have := HK3.out; omega⟩, ⟨bk BK159.out⟩, ⟨be2 HB.out GE159.out GE161.out⟩⟩
      ·rw [if_neg c9] at H
       exact absurd H (by simp)
     ·rw [if_neg c8] at H
      exact absurd H (by simp)
    ·rw [if_neg c7] at H
     have c7b0 : decide (x13_1 < (l0_0.length : Int)) = false := decide_eq_false c7
     clear c7
     obtain rfl := Option.some.inj H
     go_wp2
     go_ret
     exact ⟨Ye2, (by first | exact be1 HB.out GE159.out | exact be HB.out)⟩

end Go.Proofs.YtkdghhkpmkfjhaaDoor.P


namespace Go.Proofs.YtkdghhkpmkfjhaaDoor.P
open Go.RowKit Go.Proofs.YtkdghhkpmkfjhaaDoorW.PrintWords Go.Proofs.YtkdghhkpmkfjhaaDoorW.PrintLast Go.Proofs.YtkdghhkpmkfjhaaDoorW.PrintMore
attribute [local go_sem] max2_int min2_int max_two min_two max_three min_three max_four min_four
set_option linter.unusedVariables false
set_option linter.unusedSimpArgs false

/-! ### laws_markText: function 71 -/
def laws_markText.l0 : Nat → Int → ByteArray → Option (ByteArray)
 | 0, _, _ => none
 | k + 1, x0, x3 => if x0 > 0 then ((some (([(wrap64 (48 + (Int.tmod x0 10))) % 256] : List Int) : List Int)).bind fun y329 => (if (strOfNums y329).size + x3.size ≤ 9223372036854775807 then (laws_markText.l0 k (wrap64 (Int.tdiv x0 10)) ((strOfNums y329) ++ x3)) else (none))) else (if 1 + x3.size ≤ 9223372036854775807 then (some ((⟨#[109]⟩ : ByteArray) ++ x3)) else (none))
def laws_markText.f (k : Nat) (a0 : Int) : Option (ByteArray) := if a0 ≤ 0 then (some (⟨#[109, 48]⟩ : ByteArray)) else (laws_markText.l0 k a0 (⟨#[]⟩ : ByteArray))
theorem laws_markText.mono_l : ∀ k, (∀ y0 y1, LeO (laws_markText.l0 k y0 y1) (laws_markText.l0 (k + 1) y0 y1))
 | 0 => fun _ _ r h => by simp [laws_markText.l0] at h
 | k + 1 => by
  have ih0 := laws_markText.mono_l k
  ·intro y0 y1
   unfold laws_markText.l0
   repeat' first
   | (with_reducible exact ih0 _ _)
   | (with_reducible exact LeO.refl _)
   | (with_reducible exact LeO.none _)
   | (with_reducible refine LeO.ite ?_ ?_)
   | (with_reducible refine LeO.bind ?_ (fun _ => ?_))
   | exact ih0 _ _
   | exact LeO.none _
   | refine LeO.ite ?_ ?_
   | refine LeO.bind ?_ (fun _ => ?_)
theorem laws_markText.mono : ∀ a0 k, LeO (laws_markText.f k a0) (laws_markText.f (k + 1) a0) := by
 intro a0 k
 have ih0 := laws_markText.mono_l k
 unfold laws_markText.f
 repeat' first
   | (with_reducible exact ih0 _ _)
   | (with_reducible exact LeO.refl _)
   | (with_reducible exact LeO.none _)
   | (with_reducible refine LeO.ite ?_ ?_)
   | (with_reducible refine LeO.bind ?_ (fun _ => ?_))
   | exact ih0 _ _
   | exact LeO.none _
   | refine LeO.ite ?_ ?_
   | refine LeO.bind ?_ (fun _ => ?_)
set_option maxHeartbeats 8000000 in
set_option maxRecDepth 100000 in
theorem laws_markText.calls (k : Nat) (a0 : Int) (r : ByteArray) (w : World) (h : laws_markText.f k a0 = some r) :
  Calls Tryd.prog 71 #[.int .i64 a0] w fun e w' => e = .returned (.string r) ∧ Below w.heap.size w w' := by
 have HB := Aside0.mk (Below.refl w.heap.size w)
 have H : (if a0 ≤ 0 then (some (⟨#[109, 48]⟩ : ByteArray)) else (laws_markText.l0 k a0 (⟨#[]⟩ : ByteArray))) = some r := h
 clear h
 by_cases c2 : a0 ≤ 0
 ·rw [if_pos c2] at H
  have c2b0 : decide (a0 ≤ 0) = true := decide_eq_true c2
  clear c2
  obtain rfl := Option.some.inj H
  go_enter Tryd.func71, Tryd.ntmps71
  go_wp2
  go_ret
  exact ⟨Ye2, be HB.out⟩
 ·rw [if_neg c2] at H
  have c2b0 : decide (a0 ≤ 0) = false := decide_eq_false c2
  clear c2
  have H' := Aside0.mk H
  clear H
  go_enter Tryd.func71, Tryd.ntmps71
  go_wp2
  go_loopg [0, 3] k (fun kq v0 v3 w' => ∃ (x0_1 : Int) (x3_1 : ByteArray), v0 = .int .i64 x0_1 ∧ v3 = .string x3_1 ∧ Aside0 (laws_markText.l0 kq x0_1 x3_1 = some r) ∧ Aside0 (kq ≤ k) ∧ Aside0 (Below w.heap.size w w'))
  case atStart => exact ⟨(a0), ((⟨#[]⟩ : ByteArray)), Ye1, Ye1, H', ⟨Nat.le_refl _⟩, ⟨be HB.out⟩⟩
  case round =>
   clear H'
   try clear c2
   try clear c2b0
   try clear p2
   obtain ⟨x0_1, x3_1, rfl, rfl, HA, HK1, HB⟩ := hrel
   cases gk with
   | zero => exact absurd HA.out (by simp [laws_markText.l0])
   | succ k1 =>
    have H := HA.out
    clear HA
    simp only [laws_markText.l0] at H
    by_cases c3 : x0_1 > 0
    ·rw [if_pos c3] at H
     have c3b0 : decide (0 < x0_1) = true := decide_eq_true c3
     clear c3
     obtain ⟨y329, hy329⟩ : ∃ y_ : List Int, y_ = (([(wrap64 (48 + (Int.tmod x0_1 10))) % 256] : List Int)) := ⟨_, rfl⟩
     replace H : (if (strOfNums y329).size + x3_1.size ≤ 9223372036854775807 then (laws_markText.l0 k1 (wrap64 (Int.tdiv x0_1 10)) ((strOfNums y329) ++ x3_1)) else (none)) = some r := by first | (rw [hy329]; with_reducible exact H) | (have H2_ := (Option.bind_some _ _).symm.trans H; rw [hy329]; with_reducible exact H2_) | (have H2_ := (Option.bind_some _ _).symm.trans H; with_reducible exact H2_) | with_reducible exact H | (rw [hy329]; exact H) | exact H
     have Ny329 := Aside0.mk hy329
     clear hy329
     by_cases c4 : (strOfNums y329).size + x3_1.size ≤ 9223372036854775807
     ·rw [if_pos c4] at H
      have c4b0 := eq_true c4
      have c4b1 : decide ((strOfNums y329).size + x3_1.size ≤ 9223372036854775807) = true := decide_eq_true c4
      try have c4b2 : (9223372036854775807 < (strOfNums y329).size + x3_1.size) = False := eq_false (Nat.not_lt.2 c4)
      have H' := Aside0.mk H
      clear H
      go_wp2_with (first | ((with_reducible refine gd 12 rfl ?_); refine Kd.R_lit (Kd.int .u8) _ 5 ?hg (N := 12) ?hd (xs := ([(wrap64 (48 + (Int.tmod x0_1 10))) % 256] : List Int)) (inner := [.int .u8 ((wrap64 (48 + (Int.tmod x0_1 10))) % 256)]) (ok := fun _ => True) (okp := fun _ => True) ?hr ?hp (fun _ hk => hk) trivial (Below.refl _ _) (Nat.le_refl _) (by simp) ?_; (case hd => rfl); (case hg => rfl); (case hr => first | (go_simp; done) | (go_simp; rfl)); (case hp => exact (Reps.one (show Kd.M (Kd.int .u8) _ _ _ ((wrap64 (48 + (Int.tmod x0_1 10))) % 256) [.int .u8 ((wrap64 (48 + (Int.tmod x0_1 10))) % 256)] from rfl) (Reps.none _ _))); intro v330 w5 ho6 hb hg_ hnew_; clear hg_ hnew_; (first | rw [← Ny329.out] at ho6 | (simp only [Int.reduceToNat] at ho6; rw [← Ny329.out] at ho6)); refine Ya2 (Kd.R_lower ho6 (below_size (be HB.out))) (below_step (be HB.out) hb) ?_; clear HB; intro HO331 HB; clear hb ho6; have hcv7 := own_string (P := Tryd.prog) Tryd.underlying106 Tryd.underlying5 Tryd.underlying9 (Kd.own_of_R HO331.out)))
      go_roundg k1
      case measure => have := HK1.out; omega
      case rel => exact ⟨(wrap64 (Int.tdiv x0_1 10)), ((strOfNums y329) ++ x3_1), Ye1, Ye1, H', ⟨by have := HK1.out; omega⟩, ⟨be HB.out⟩⟩
     ·rw [if_neg c4] at H
      exact absurd H (by simp)
    ·rw [if_neg c3] at H
     have c3b0 : decide (0 < x0_1) = false := decide_eq_false c3
     clear c3
     by_cases c8 : 1 + x3_1.size ≤ 9223372036854775807
     ·rw [if_pos c8] at H
      have c8b0 := eq_true c8
      have c8b1 : decide (1 + x3_1.size ≤ 9223372036854775807) = true := decide_eq_true c8
      try have c8b2 : (9223372036854775807 < 1 + x3_1.size) = False := eq_false (Nat.not_lt.2 c8)
      obtain rfl := Option.some.inj H
      go_wp2
      go_ret
      exact ⟨Ye2, be HB.out⟩
     ·rw [if_neg c8] at H
      exact absurd H (by simp)

end Go.Proofs.YtkdghhkpmkfjhaaDoor.P


namespace Go.Proofs.YtkdghhkpmkfjhaaDoor.P
open Go.RowKit Go.Proofs.YtkdghhkpmkfjhaaDoorW.PrintWords Go.Proofs.YtkdghhkpmkfjhaaDoorW.PrintLast Go.Proofs.YtkdghhkpmkfjhaaDoorW.PrintMore
attribute [local go_sem] max2_int min2_int max_two min_two max_three min_three max_four min_four
set_option linter.unusedVariables false
set_option linter.unusedSimpArgs false

/-! ### laws_heldEntryS: function 62 -/
def laws_heldEntryS.l0 : Nat → List (S45) → Int → Int → Option (Int)
 | 0, _, _, _ => none
 | k + 1, x0, x1, x5 => if x5 < (x0.length : Int) then (if 0 ≤ x5 then ((laws_markText.f k x1).bind fun t341 => (if ((rd_T45 x0 x5).f0).toList = t341.toList then ((laws_markText.f k (wrap64 (x1 + 1))).bind fun t343 => (if ((rd_T45 x0 x5).f1).toList = t343.toList then (if (((rd_T45 x0 x5).f2) != ((Int.tmod (wrap64 ((wrap64 (x1 + 1)) + 1)) 3) == 0)) = true then (some (-1)) else (laws_heldEntryS.l0 k x0 (wrap64 ((wrap64 ((wrap64 (x1 + 1)) + 1)) + 1)) (wrap64 (x5 + 1)))) else (some (-1)))) else (some (-1)))) else (none)) else (some x1)
def laws_heldEntryS.f (k : Nat) (l0 : List (S45)) (a1 : Int) : Option (Int) := laws_heldEntryS.l0 k l0 a1 0
theorem laws_heldEntryS.mono_l : ∀ k, (∀ y0 y1 y2, LeO (laws_heldEntryS.l0 k y0 y1 y2) (laws_heldEntryS.l0 (k + 1) y0 y1 y2))
 | 0 => fun _ _ _ r h => by simp [laws_heldEntryS.l0] at h
 | k + 1 => by
  have ih0 := laws_heldEntryS.mono_l k
  ·intro y0 y1 y2
   unfold laws_heldEntryS.l0
   repeat' first
   | (with_reducible exact ih0 _ _ _)
   | (with_reducible exact laws_markText.mono _ _)
   | (with_reducible exact LeO.refl _)
   | (with_reducible exact LeO.none _)
   | (with_reducible refine LeO.ite ?_ ?_)
   | (with_reducible refine LeO.bind ?_ (fun _ => ?_))
   | exact ih0 _ _ _
   | exact laws_markText.mono _ _
   | exact LeO.none _
   | refine LeO.ite ?_ ?_
   | refine LeO.bind ?_ (fun _ => ?_)
theorem laws_heldEntryS.mono : ∀ a0 a1 k, LeO (laws_heldEntryS.f k a0 a1) (laws_heldEntryS.f (k + 1) a0 a1) := by
 intro a0 a1 k
 have ih0 := laws_heldEntryS.mono_l k
 unfold laws_heldEntryS.f
 repeat' first
   | (with_reducible exact ih0 _ _ _)
   | (with_reducible exact laws_markText.mono _ _)
   | (with_reducible exact LeO.refl _)
   | (with_reducible exact LeO.none _)
   | (with_reducible refine LeO.ite ?_ ?_)
   | (with_reducible refine LeO.bind ?_ (fun _ => ?_))
   | exact ih0 _ _ _
   | exact laws_markText.mono _ _
   | exact LeO.none _
   | refine LeO.ite ?_ ?_
   | refine LeO.bind ?_ (fun _ => ?_)
def laws_heldEntryS.T4 : Bool × List (List Nat × List Nat) := (true, [([], []), ([], []), ([0, 1], [0, 1]), ([2], [2]), ([3], [3]), ([], []), ([5], [5]), ([4, 6], [4, 6])])
def laws_heldEntryS.B4 : List Nat := [0, 0, 3, 7, 15, 0, 32, 127]
theorem laws_heldEntryS.tab4 : rtab .any (opsOf Tryd.f62 4) = laws_heldEntryS.T4 := by kernel_rfl
theorem laws_heldEntryS.bits4 : waitsOk laws_heldEntryS.T4.2 laws_heldEntryS.B4 = true := by kernel_rfl
def laws_heldEntryS.T7 : Bool × List (List Nat × List Nat) := (true, [([], []), ([], []), ([0, 1], [0, 1]), ([2], [2]), ([3], [3]), ([], []), ([5], [5]), ([4, 6], [4, 6])])
def laws_heldEntryS.B7 : List Nat := [0, 0, 3, 7, 15, 0, 32, 127]
theorem laws_heldEntryS.tab7 : rtab .any (opsOf Tryd.f62 7) = laws_heldEntryS.T7 := by kernel_rfl
theorem laws_heldEntryS.bits7 : waitsOk laws_heldEntryS.T7.2 laws_heldEntryS.B7 = true := by kernel_rfl
set_option maxHeartbeats 8000000 in
set_option maxRecDepth 100000 in
theorem laws_heldEntryS.calls (k : Nat) (A0 : Option Addr) (c0 : Nat) (l0 : List (S45)) (a1 : Int) (r : Int) (w : World) (hr0 : Kd.C k45 w A0 l0.length l0) (hc0 : l0.length ≤ c0) (h : laws_heldEntryS.f k l0 a1 = some r) :
  Calls Tryd.prog 62 #[.slice A0 l0.length c0, .int .i64 a1] w fun e w' => e = .returned (.int .i64 r) ∧ Below w.heap.size w w' := by
 have HR0 := Aside0.mk hr0
 have HC0 := Aside0.mk hc0
 clear hr0 hc0
 have HB := Aside0.mk (Below.refl w.heap.size w)
 have H : (laws_heldEntryS.l0 k l0 a1 0) = some r := h
 clear h
 have H' := Aside0.mk H
 clear H
 go_enter Tryd.func62, Tryd.ntmps62
 go_wp2
 go_loopg [1, 5] k (fun kq v1 v5 w' => ∃ (x1_1 : Int) (x5_1 : Int), v1 = .int .i64 x1_1 ∧ v5 = .int .i64 x5_1 ∧ Aside0 (laws_heldEntryS.l0 kq l0 x1_1 x5_1 = some r) ∧ Aside0 (kq ≤ k) ∧ Aside0 (Below w.heap.size w w'))
 case atStart => exact ⟨(a1), (0), Ye1, Ye1, H', ⟨Nat.le_refl _⟩, ⟨be HB.out⟩⟩
 case round =>
  clear H'
  try clear p2
  obtain ⟨x1_1, x5_1, rfl, rfl, HA, HK1, HB⟩ := hrel
  cases gk with
  | zero => exact absurd HA.out (by simp [laws_heldEntryS.l0])
  | succ k1 =>
   have H := HA.out
   clear HA
   simp only [laws_heldEntryS.l0] at H
   by_cases c3 : x5_1 < (l0.length : Int)
   ·rw [if_pos c3] at H
    have c3b0 : decide (x5_1 < (l0.length : Int)) = true := decide_eq_true c3
    clear c3
    by_cases c4 : 0 ≤ x5_1
    ·rw [if_pos c4] at H
     have c4b0 : decide (0 ≤ x5_1) = true := decide_eq_true c4
     clear c4
     replace H := Option.bind_eq_some_iff.mp H
     obtain ⟨t341, A50, H⟩ := H
     replace H : (if ((rd_T45 l0 x5_1).f0).toList = t341.toList then ((laws_markText.f k1 (wrap64 (x1_1 + 1))).bind fun t343 => (if ((rd_T45 l0 x5_1).f1).toList = t343.toList then (if (((rd_T45 l0 x5_1).f2) != ((Int.tmod (wrap64 ((wrap64 (x1_1 + 1)) + 1)) 3) == 0)) = true then (some (-1)) else (laws_heldEntryS.l0 k1 l0 (wrap64 ((wrap64 ((wrap64 (x1_1 + 1)) + 1)) + 1)) (wrap64 (x5_1 + 1)))) else (some (-1)))) else (some (-1))) = some r := H
     have A5 := Aside0.mk A50
     clear A50
     by_cases c6 : ((rd_T45 l0 x5_1).f0).toList = t341.toList
     ·rw [if_pos c6] at H
      have c6b0 : (((rd_T45 l0 x5_1).f0).toList == t341.toList) = true := beq_iff_eq.mpr c6
      have c6b1 : (((rd_T45 l0 x5_1).f0).toList != t341.toList) = false := bne_eq_false_iff_eq.mpr c6
      clear c6
      replace H := Option.bind_eq_some_iff.mp H
      obtain ⟨t343, A70, H⟩ := H
      replace H : (if ((rd_T45 l0 x5_1).f1).toList = t343.toList then (if (((rd_T45 l0 x5_1).f2) != ((Int.tmod (wrap64 ((wrap64 (x1_1 + 1)) + 1)) 3) == 0)) = true then (some (-1)) else (laws_heldEntryS.l0 k1 l0 (wrap64 ((wrap64 ((wrap64 (x1_1 + 1)) + 1)) + 1)) (wrap64 (x5_1 + 1)))) else (some (-1))) = some r := H
      have A7 := Aside0.mk A70
      clear A70
      by_cases c8 : ((rd_T45 l0 x5_1).f1).toList = t343.toList
      ·rw [if_pos c8] at H
       have c8b0 : (((rd_T45 l0 x5_1).f1).toList == t343.toList) = true := beq_iff_eq.mpr c8
       have c8b1 : (((rd_T45 l0 x5_1).f1).toList != t343.toList) = false := bne_eq_false_iff_eq.mpr c8
       clear c8
       by_cases c9 : (((rd_T45 l0 x5_1).f2) != ((Int.tmod (wrap64 ((wrap64 (x1_1 + 1)) + 1)) 3) == 0)) = true
       ·rw [if_pos c9] at H
        have c9b0 : (((rd_T45 l0 x5_1).f2) != ((Int.tmod (wrap64 ((wrap64 (x1_1 + 1)) + 1)) 3) == 0)) = true := c9
        (try (have c9b1 : decide (((rd_T45 l0 x5_1).f2) = ((Int.tmod (wrap64 ((wrap64 (x1_1 + 1)) + 1)) 3) == 0)) = false := by simpa using c9))
        (try (have c9b2 : (((rd_T45 l0 x5_1).f2) == ((Int.tmod (wrap64 ((wrap64 (x1_1 + 1)) + 1)) 3) == 0)) = false := by simpa using c9))
        (try (have c9b3 : ¬ (((rd_T45 l0 x5_1).f2) = ((Int.tmod (wrap64 ((wrap64 (x1_1 + 1)) + 1)) 3) == 0)) := by simpa using c9))
        clear c9
        obtain rfl := Option.some.inj H
        try go_wp2
        refine Ya1 (below_drew1 HB.out) ?_
        clear HB
        intro HB
        have p340 : 0 ≤ (x5_1 : Int) := oda
        have q340 : x5_1 < (l0.length : Int) := oda
        obtain ⟨ad340, e340, hx340_0, hx340_1, hx340_2⟩ := at_T45 HR0.out x5_1 p340 q340
        have hw340_2 := hx340_2
        have hw340_1 := hx340_1
        have hw340_0 := hx340_0
        cases e340
        replace hx340_0 := pw_cell_below HB.out hx340_0
        replace hx340_1 := pw_cell_below HB.out hx340_1
        replace hx340_2 := pw_cell_below HB.out hx340_2
        replace p340 := eq_true p340
        replace q340 := eq_true q340
        refine start_ (n := 8) (S := fun w' => w'.cell? (ad340.add ((x5_1).toNat * 3)) = some (.string ((rd_T45 l0 x5_1).f0)) ∧ w'.cell? ⟨(ad340.add ((x5_1).toNat * 3)).block, (ad340.add ((x5_1).toNat * 3)).off + 1, none⟩ = some (.string ((rd_T45 l0 x5_1).f1)) ∧ w'.cell? ⟨(ad340.add ((x5_1).toNat * 3)).block, (ad340.add ((x5_1).toNat * 3)).off + 2, none⟩ = some (.bool ((rd_T45 l0 x5_1).f2))) (ds := []) (fb 8 0) (by kernel_rfl) rfl rfl ⟨(pw_cell_below HB.out hw340_0), (pw_cell_below HB.out hw340_1), (pw_cell_below HB.out hw340_2)⟩ (fun hHeld => ?_); refine with_tabW laws_heldEntryS.tab4 laws_heldEntryS.bits4 (fun HT_ HW_ => ?_)
        generalize wr.drew = w10 at HB hx340_0 hx340_1 hx340_2 hHeld ⊢
        refine pu 0 12 (fb 8 1) HT_ ?_
        refine pu 1 13 (fb 8 3) HT_ ?_
        refine pu 2 14 (fb 8 7) HT_ ?_
        refine pu 3 15 (fb 8 15) HT_ ?_
        refine pu 5 17 (fb 8 47) HT_ ?_
        refine tk 4 16 (fb 8 63) HT_ HW_ hHeld ?_
        refine one_ (i := 6) (N := some 18) (fb 8 127) rfl rfl (one_of HT_.out (by kernel_rfl)) (by decide) (fun K hK => ?_)
        refine gs _ (#[.int .i64 x1_1]) Tryd.func71 ?_
        with_reducible refine (laws_markText.calls k1 x1_1 t341 _ A5.out).mono ?_
        rintro e w11 ⟨rfl, hb⟩
        refine ⟨_, rfl, ?_⟩
        refine Ya1 (below_step (be HB.out) hb) ?_
        clear HB
        intro HB
        (try clear hb)
        (try clear hb2)
        (try clear hk)
        (try clear hi)
        refine hK.out _ _ ⟨(pw_cell_below HB.out hw340_0), (pw_cell_below HB.out hw340_1), (pw_cell_below HB.out hw340_2)⟩ (fun hHeld => ?_)
        clear hK K
        refine norm_ (a' := ?_) ?_ ?_
        rotate_left
        ·show Act.put _ (some 18) _ = _
         simp only [Act.put, List.setIfInBounds_toArray, List.set_cons_zero, List.set_cons_succ, i64_w, i32_w]
         rfl
        refine pu 7 19 (fb 8 255) HT_ ?_
        refine done_ (done_of HT_.out (by kernel_rfl)) ?_
        try go_wp2
        refine Ya1 (below_drew1 HB.out) ?_
        clear HB
        intro HB
        have p342 : 0 ≤ (x5_1 : Int) := oda
        have q342 : x5_1 < (l0.length : Int) := oda
        obtain ⟨ad342, e342, hx342_0, hx342_1, hx342_2⟩ := at_T45 HR0.out x5_1 p342 q342
        have hw342_2 := hx342_2
        have hw342_1 := hx342_1
        have hw342_0 := hx342_0
        obtain rfl : ad340 = ad342 := (by injection e342)
        replace hx342_0 := pw_cell_below HB.out hx342_0
        replace hx342_1 := pw_cell_below HB.out hx342_1
        replace hx342_2 := pw_cell_below HB.out hx342_2
        replace p342 := eq_true p342
        replace q342 := eq_true q342
        refine start_ (n := 8) (S := fun w' => w'.cell? (ad340.add ((x5_1).toNat * 3)) = some (.string ((rd_T45 l0 x5_1).f0)) ∧ w'.cell? ⟨(ad340.add ((x5_1).toNat * 3)).block, (ad340.add ((x5_1).toNat * 3)).off + 1, none⟩ = some (.string ((rd_T45 l0 x5_1).f1)) ∧ w'.cell? ⟨(ad340.add ((x5_1).toNat * 3)).block, (ad340.add ((x5_1).toNat * 3)).off + 2, none⟩ = some (.bool ((rd_T45 l0 x5_1).f2))) (ds := []) (fb 8 0) (by kernel_rfl) rfl rfl ⟨(pw_cell_below HB.out hw342_0), (pw_cell_below HB.out hw342_1), (pw_cell_below HB.out hw342_2)⟩ (fun hHeld => ?_); refine with_tabW laws_heldEntryS.tab7 laws_heldEntryS.bits7 (fun HT_ HW_ => ?_)
        generalize w11.drew = w12 at HB hx342_0 hx342_1 hx342_2 hHeld ⊢
        refine pu 0 22 (fb 8 1) HT_ ?_
        refine pu 1 23 (fb 8 3) HT_ ?_
        refine pu 2 24 (fb 8 7) HT_ ?_
        refine pu 3 25 (fb 8 15) HT_ ?_
        refine pu 5 27 (fb 8 47) HT_ ?_
        refine tk 4 26 (fb 8 63) HT_ HW_ hHeld ?_
        refine one_ (i := 6) (N := some 28) (fb 8 127) rfl rfl (one_of HT_.out (by kernel_rfl)) (by decide) (fun K hK => ?_)
        refine gs _ (#[.int .i64 (wrap64 (x1_1 + 1))]) Tryd.func71 ?_
        with_reducible refine (laws_markText.calls k1 (wrap64 (x1_1 + 1)) t343 _ A7.out).mono ?_
        rintro e w13 ⟨rfl, hb⟩
        refine ⟨_, rfl, ?_⟩
        refine Ya1 (below_step (be HB.out) hb) ?_
        clear HB
        intro HB
        (try clear hb)
        (try clear hb2)
        (try clear hk)
        (try clear hi)
        refine hK.out _ _ ⟨(pw_cell_below HB.out hw342_0), (pw_cell_below HB.out hw342_1), (pw_cell_below HB.out hw342_2)⟩ (fun hHeld => ?_)
        clear hK K
        refine norm_ (a' := ?_) ?_ ?_
        rotate_left
        ·show Act.put _ (some 28) _ = _
         simp only [Act.put, List.setIfInBounds_toArray, List.set_cons_zero, List.set_cons_succ, i64_w, i32_w]
         rfl
        refine pu 7 29 (fb 8 255) HT_ ?_
        refine done_ (done_of HT_.out (by kernel_rfl)) ?_
        have p344 : 0 ≤ (x5_1 : Int) := oda
        have q344 : x5_1 < (l0.length : Int) := oda
        obtain ⟨ad344, e344, hx344_0, hx344_1, hx344_2⟩ := at_T45 HR0.out x5_1 p344 q344
        obtain rfl : ad340 = ad344 := (by injection e344)
        replace hx344_0 := pw_cell_below HB.out hx344_0
        replace hx344_1 := pw_cell_below HB.out hx344_1
        replace hx344_2 := pw_cell_below HB.out hx344_2
        replace p344 := eq_true p344
        replace q344 := eq_true q344
        try go_wp2
        go_ret
        exact ⟨Ye2, be HB.out⟩
       ·rw [if_neg c9] at H
        have c9b0 : (((rd_T45 l0 x5_1).f2) != ((Int.tmod (wrap64 ((wrap64 (x1_1 + 1)) + 1)) 3) == 0)) = false := by simpa using c9
        (try (have c9b1 : decide (((rd_T45 l0 x5_1).f2) = ((Int.tmod (wrap64 ((wrap64 (x1_1 + 1)) + 1)) 3) == 0)) = true := by simpa using c9))
        (try (have c9b2 : (((rd_T45 l0 x5_1).f2) == ((Int.tmod (wrap64 ((wrap64 (x1_1 + 1)) + 1)) 3) == 0)) = true := by simpa using c9))
        clear c9
        have H' := Aside0.mk H
        clear H
        try go_wp2
        refine Ya1 (below_drew1 HB.out) ?_
        clear HB
        intro HB
        have p340 : 0 ≤ (x5_1 : Int) := oda
        have q340 : x5_1 < (l0.length : Int) := oda
        obtain ⟨ad340, e340, hx340_0, hx340_1, hx340_2⟩ := at_T45 HR0.out x5_1 p340 q340
        have hw340_2 := hx340_2
        have hw340_1 := hx340_1
        have hw340_0 := hx340_0
        cases e340
        replace hx340_0 := pw_cell_below HB.out hx340_0
        replace hx340_1 := pw_cell_below HB.out hx340_1
        replace hx340_2 := pw_cell_below HB.out hx340_2
        replace p340 := eq_true p340
        replace q340 := eq_true q340
        refine start_ (n := 8) (S := fun w' => w'.cell? (ad340.add ((x5_1).toNat * 3)) = some (.string ((rd_T45 l0 x5_1).f0)) ∧ w'.cell? ⟨(ad340.add ((x5_1).toNat * 3)).block, (ad340.add ((x5_1).toNat * 3)).off + 1, none⟩ = some (.string ((rd_T45 l0 x5_1).f1)) ∧ w'.cell? ⟨(ad340.add ((x5_1).toNat * 3)).block, (ad340.add ((x5_1).toNat * 3)).off + 2, none⟩ = some (.bool ((rd_T45 l0 x5_1).f2))) (ds := []) (fb 8 0) (by kernel_rfl) rfl rfl ⟨(pw_cell_below HB.out hw340_0), (pw_cell_below HB.out hw340_1), (pw_cell_below HB.out hw340_2)⟩ (fun hHeld => ?_); refine with_tabW laws_heldEntryS.tab4 laws_heldEntryS.bits4 (fun HT_ HW_ => ?_)
        generalize wr.drew = w14 at HB hx340_0 hx340_1 hx340_2 hHeld ⊢
        refine pu 0 12 (fb 8 1) HT_ ?_
        refine pu 1 13 (fb 8 3) HT_ ?_
        refine pu 2 14 (fb 8 7) HT_ ?_
        refine pu 3 15 (fb 8 15) HT_ ?_
        refine pu 5 17 (fb 8 47) HT_ ?_
        refine tk 4 16 (fb 8 63) HT_ HW_ hHeld ?_
        refine one_ (i := 6) (N := some 18) (fb 8 127) rfl rfl (one_of HT_.out (by kernel_rfl)) (by decide) (fun K hK => ?_)
        refine gs _ (#[.int .i64 x1_1]) Tryd.func71 ?_
        with_reducible refine (laws_markText.calls k1 x1_1 t341 _ A5.out).mono ?_
        rintro e w15 ⟨rfl, hb⟩
        refine ⟨_, rfl, ?_⟩
        refine Ya1 (below_step (be HB.out) hb) ?_
        clear HB
        intro HB
        (try clear hb)
        (try clear hb2)
        (try clear hk)
        (try clear hi)
        refine hK.out _ _ ⟨(pw_cell_below HB.out hw340_0), (pw_cell_below HB.out hw340_1), (pw_cell_below HB.out hw340_2)⟩ (fun hHeld => ?_)
        clear hK K
        refine norm_ (a' := ?_) ?_ ?_
        rotate_left
        ·show Act.put _ (some 18) _ = _
         simp only [Act.put, List.setIfInBounds_toArray, List.set_cons_zero, List.set_cons_succ, i64_w, i32_w]
         rfl
        refine pu 7 19 (fb 8 255) HT_ ?_
        refine done_ (done_of HT_.out (by kernel_rfl)) ?_
        try go_wp2
        refine Ya1 (below_drew1 HB.out) ?_
        clear HB
        intro HB
        have p342 : 0 ≤ (x5_1 : Int) := oda
        have q342 : x5_1 < (l0.length : Int) := oda
        obtain ⟨ad342, e342, hx342_0, hx342_1, hx342_2⟩ := at_T45 HR0.out x5_1 p342 q342
        have hw342_2 := hx342_2
        have hw342_1 := hx342_1
        have hw342_0 := hx342_0
        obtain rfl : ad340 = ad342 := (by injection e342)
        replace hx342_0 := pw_cell_below HB.out hx342_0
        replace hx342_1 := pw_cell_below HB.out hx342_1
        replace hx342_2 := pw_cell_below HB.out hx342_2
        replace p342 := eq_true p342
        replace q342 := eq_true q342
        refine start_ (n := 8) (S := fun w' => w'.cell? (ad340.add ((x5_1).toNat * 3)) = some (.string ((rd_T45 l0 x5_1).f0)) ∧ w'.cell? ⟨(ad340.add ((x5_1).toNat * 3)).block, (ad340.add ((x5_1).toNat * 3)).off + 1, none⟩ = some (.string ((rd_T45 l0 x5_1).f1)) ∧ w'.cell? ⟨(ad340.add ((x5_1).toNat * 3)).block, (ad340.add ((x5_1).toNat * 3)).off + 2, none⟩ = some (.bool ((rd_T45 l0 x5_1).f2))) (ds := []) (fb 8 0) (by kernel_rfl) rfl rfl ⟨(pw_cell_below HB.out hw342_0), (pw_cell_below HB.out hw342_1), (pw_cell_below HB.out hw342_2)⟩ (fun hHeld => ?_); refine with_tabW laws_heldEntryS.tab7 laws_heldEntryS.bits7 (fun HT_ HW_ => ?_)
        generalize w15.drew = w16 at HB hx342_0 hx342_1 hx342_2 hHeld ⊢
        refine pu 0 22 (fb 8 1) HT_ ?_
        refine pu 1 23 (fb 8 3) HT_ ?_
        refine pu 2 24 (fb 8 7) HT_ ?_
        refine pu 3 25 (fb 8 15) HT_ ?_
        refine pu 5 27 (fb 8 47) HT_ ?_
        refine tk 4 26 (fb 8 63) HT_ HW_ hHeld ?_
        refine one_ (i := 6) (N := some 28) (fb 8 127) rfl rfl (one_of HT_.out (by kernel_rfl)) (by decide) (fun K hK => ?_)
        refine gs _ (#[.int .i64 (wrap64 (x1_1 + 1))]) Tryd.func71 ?_
        with_reducible refine (laws_markText.calls k1 (wrap64 (x1_1 + 1)) t343 _ A7.out).mono ?_
        rintro e w17 ⟨rfl, hb⟩
        refine ⟨_, rfl, ?_⟩
        refine Ya1 (below_step (be HB.out) hb) ?_
        clear HB
        intro HB
        (try clear hb)
        (try clear hb2)
        (try clear hk)
        (try clear hi)
        refine hK.out _ _ ⟨(pw_cell_below HB.out hw342_0), (pw_cell_below HB.out hw342_1), (pw_cell_below HB.out hw342_2)⟩ (fun hHeld => ?_)
        clear hK K
        refine norm_ (a' := ?_) ?_ ?_
        rotate_left
        ·show Act.put _ (some 28) _ = _
         simp only [Act.put, List.setIfInBounds_toArray, List.set_cons_zero, List.set_cons_succ, i64_w, i32_w]
         rfl
        refine pu 7 29 (fb 8 255) HT_ ?_
        refine done_ (done_of HT_.out (by kernel_rfl)) ?_
        have p344 : 0 ≤ (x5_1 : Int) := oda
        have q344 : x5_1 < (l0.length : Int) := oda
        obtain ⟨ad344, e344, hx344_0, hx344_1, hx344_2⟩ := at_T45 HR0.out x5_1 p344 q344
        obtain rfl : ad340 = ad344 := (by injection e344)
        replace hx344_0 := pw_cell_below HB.out hx344_0
        replace hx344_1 := pw_cell_below HB.out hx344_1
        replace hx344_2 := pw_cell_below HB.out hx344_2
        replace p344 := eq_true p344
        replace q344 := eq_true q344
        try go_wp2
        go_roundg k1
        case measure => have := HK1.out; omega
        case rel => exact ⟨(wrap64 ((wrap64 ((wrap64 (x1_1 + 1)) + 1)) + 1)), (wrap64 (x5_1 + 1)), Ye1, Ye1, H', ⟨by have := HK1.out; omega⟩, ⟨be HB.out⟩⟩
      ·rw [if_neg c8] at H
       have c8b0 : (((rd_T45 l0 x5_1).f1).toList == t343.toList) = false := beq_eq_false_iff_ne.mpr c8
       have c8b1 : (((rd_T45 l0 x5_1).f1).toList != t343.toList) = true := bne_iff_ne.mpr c8
       obtain rfl := Option.some.inj H
       try go_wp2
       refine Ya1 (below_drew1 HB.out) ?_
       clear HB
       intro HB
       have p340 : 0 ≤ (x5_1 : Int) := oda
       have q340 : x5_1 < (l0.length : Int) := oda
       obtain ⟨ad340, e340, hx340_0, hx340_1, hx340_2⟩ := at_T45 HR0.out x5_1 p340 q340
       have hw340_2 := hx340_2
       have hw340_1 := hx340_1
       have hw340_0 := hx340_0
       cases e340
       replace hx340_0 := pw_cell_below HB.out hx340_0
       replace hx340_1 := pw_cell_below HB.out hx340_1
       replace hx340_2 := pw_cell_below HB.out hx340_2
       replace p340 := eq_true p340
       replace q340 := eq_true q340
       refine start_ (n := 8) (S := fun w' => w'.cell? (ad340.add ((x5_1).toNat * 3)) = some (.string ((rd_T45 l0 x5_1).f0)) ∧ w'.cell? ⟨(ad340.add ((x5_1).toNat * 3)).block, (ad340.add ((x5_1).toNat * 3)).off + 1, none⟩ = some (.string ((rd_T45 l0 x5_1).f1)) ∧ w'.cell? ⟨(ad340.add ((x5_1).toNat * 3)).block, (ad340.add ((x5_1).toNat * 3)).off + 2, none⟩ = some (.bool ((rd_T45 l0 x5_1).f2))) (ds := []) (fb 8 0) (by kernel_rfl) rfl rfl ⟨(pw_cell_below HB.out hw340_0), (pw_cell_below HB.out hw340_1), (pw_cell_below HB.out hw340_2)⟩ (fun hHeld => ?_); refine with_tabW laws_heldEntryS.tab4 laws_heldEntryS.bits4 (fun HT_ HW_ => ?_)
       generalize wr.drew = w18 at HB hx340_0 hx340_1 hx340_2 hHeld ⊢
       refine pu 0 12 (fb 8 1) HT_ ?_
       refine pu 1 13 (fb 8 3) HT_ ?_
       refine pu 2 14 (fb 8 7) HT_ ?_
       refine pu 3 15 (fb 8 15) HT_ ?_
       refine pu 5 17 (fb 8 47) HT_ ?_
       refine tk 4 16 (fb 8 63) HT_ HW_ hHeld ?_
       refine one_ (i := 6) (N := some 18) (fb 8 127) rfl rfl (one_of HT_.out (by kernel_rfl)) (by decide) (fun K hK => ?_)
       refine gs _ (#[.int .i64 x1_1]) Tryd.func71 ?_
       with_reducible refine (laws_markText.calls k1 x1_1 t341 _ A5.out).mono ?_
       rintro e w19 ⟨rfl, hb⟩
       refine ⟨_, rfl, ?_⟩
       refine Ya1 (below_step (be HB.out) hb) ?_
       clear HB
       intro HB
       (try clear hb)
       (try clear hb2)
       (try clear hk)
       (try clear hi)
       refine hK.out _ _ ⟨(pw_cell_below HB.out hw340_0), (pw_cell_below HB.out hw340_1), (pw_cell_below HB.out hw340_2)⟩ (fun hHeld => ?_)
       clear hK K
       refine norm_ (a' := ?_) ?_ ?_
       rotate_left
       ·show Act.put _ (some 18) _ = _
        simp only [Act.put, List.setIfInBounds_toArray, List.set_cons_zero, List.set_cons_succ, i64_w, i32_w]
        rfl
       refine pu 7 19 (fb 8 255) HT_ ?_
       refine done_ (done_of HT_.out (by kernel_rfl)) ?_
       try go_wp2
       refine Ya1 (below_drew1 HB.out) ?_
       clear HB
       intro HB
       have p342 : 0 ≤ (x5_1 : Int) := oda
       have q342 : x5_1 < (l0.length : Int) := oda
       obtain ⟨ad342, e342, hx342_0, hx342_1, hx342_2⟩ := at_T45 HR0.out x5_1 p342 q342
       have hw342_2 := hx342_2
       have hw342_1 := hx342_1
       have hw342_0 := hx342_0
       obtain rfl : ad340 = ad342 := (by injection e342)
       replace hx342_0 := pw_cell_below HB.out hx342_0
       replace hx342_1 := pw_cell_below HB.out hx342_1
       replace hx342_2 := pw_cell_below HB.out hx342_2
       replace p342 := eq_true p342
       replace q342 := eq_true q342
       refine start_ (n := 8) (S := fun w' => w'.cell? (ad340.add ((x5_1).toNat * 3)) = some (.string ((rd_T45 l0 x5_1).f0)) ∧ w'.cell? ⟨(ad340.add ((x5_1).toNat * 3)).block, (ad340.add ((x5_1).toNat * 3)).off + 1, none⟩ = some (.string ((rd_T45 l0 x5_1).f1)) ∧ w'.cell? ⟨(ad340.add ((x5_1).toNat * 3)).block, (ad340.add ((x5_1).toNat * 3)).off + 2, none⟩ = some (.bool ((rd_T45 l0 x5_1).f2))) (ds := []) (fb 8 0) (by kernel_rfl) rfl rfl ⟨(pw_cell_below HB.out hw342_0), (pw_cell_below HB.out hw342_1), (pw_cell_below HB.out hw342_2)⟩ (fun hHeld => ?_); refine with_tabW laws_heldEntryS.tab7 laws_heldEntryS.bits7 (fun HT_ HW_ => ?_)
       generalize w19.drew = w20 at HB hx342_0 hx342_1 hx342_2 hHeld ⊢
       refine pu 0 22 (fb 8 1) HT_ ?_
       refine pu 1 23 (fb 8 3) HT_ ?_
       refine pu 2 24 (fb 8 7) HT_ ?_
       refine pu 3 25 (fb 8 15) HT_ ?_
       refine pu 5 27 (fb 8 47) HT_ ?_
       refine tk 4 26 (fb 8 63) HT_ HW_ hHeld ?_
       refine one_ (i := 6) (N := some 28) (fb 8 127) rfl rfl (one_of HT_.out (by kernel_rfl)) (by decide) (fun K hK => ?_)
       refine gs _ (#[.int .i64 (wrap64 (x1_1 + 1))]) Tryd.func71 ?_
       with_reducible refine (laws_markText.calls k1 (wrap64 (x1_1 + 1)) t343 _ A7.out).mono ?_
       rintro e w21 ⟨rfl, hb⟩
       refine ⟨_, rfl, ?_⟩
       refine Ya1 (below_step (be HB.out) hb) ?_
       clear HB
       intro HB
       (try clear hb)
       (try clear hb2)
       (try clear hk)
       (try clear hi)
       refine hK.out _ _ ⟨(pw_cell_below HB.out hw342_0), (pw_cell_below HB.out hw342_1), (pw_cell_below HB.out hw342_2)⟩ (fun hHeld => ?_)
       clear hK K
       refine norm_ (a' := ?_) ?_ ?_
       rotate_left
       ·show Act.put _ (some 28) _ = _
        simp only [Act.put, List.setIfInBounds_toArray, List.set_cons_zero, List.set_cons_succ, i64_w, i32_w]
        rfl
       refine pu 7 29 (fb 8 255) HT_ ?_
       refine done_ (done_of HT_.out (by kernel_rfl)) ?_
       try go_wp2
       go_ret
       exact ⟨Ye2, be HB.out⟩
     ·rw [if_neg c6] at H
      have c6b0 : (((rd_T45 l0 x5_1).f0).toList == t341.toList) = false := beq_eq_false_iff_ne.mpr c6
      have c6b1 : (((rd_T45 l0 x5_1).f0).toList != t341.toList) = true := bne_iff_ne.mpr c6
      obtain rfl := Option.some.inj H
      try go_wp2
      refine Ya1 (below_drew1 HB.out) ?_
      clear HB
      intro HB
      have p340 : 0 ≤ (x5_1 : Int) := oda
      have q340 : x5_1 < (l0.length : Int) := oda
      obtain ⟨ad340, e340, hx340_0, hx340_1, hx340_2⟩ := at_T45 HR0.out x5_1 p340 q340
      have hw340_2 := hx340_2
      have hw340_1 := hx340_1
      have hw340_0 := hx340_0
      cases e340
      replace hx340_0 := pw_cell_below HB.out hx340_0
      replace hx340_1 := pw_cell_below HB.out hx340_1
      replace hx340_2 := pw_cell_below HB.out hx340_2
      replace p340 := eq_true p340
      replace q340 := eq_true q340
      refine start_ (n := 8) (S := fun w' => w'.cell? (ad340.add ((x5_1).toNat * 3)) = some (.string ((rd_T45 l0 x5_1).f0)) ∧ w'.cell? ⟨(ad340.add ((x5_1).toNat * 3)).block, (ad340.add ((x5_1).toNat * 3)).off + 1, none⟩ = some (.string ((rd_T45 l0 x5_1).f1)) ∧ w'.cell? ⟨(ad340.add ((x5_1).toNat * 3)).block, (ad340.add ((x5_1).toNat * 3)).off + 2, none⟩ = some (.bool ((rd_T45 l0 x5_1).f2))) (ds := []) (fb 8 0) (by kernel_rfl) rfl rfl ⟨(pw_cell_below HB.out hw340_0), (pw_cell_below HB.out hw340_1), (pw_cell_below HB.out hw340_2)⟩ (fun hHeld => ?_); refine with_tabW laws_heldEntryS.tab4 laws_heldEntryS.bits4 (fun HT_ HW_ => ?_)
      generalize wr.drew = w22 at HB hx340_0 hx340_1 hx340_2 hHeld ⊢
      refine pu 0 12 (fb 8 1) HT_ ?_
      refine pu 1 13 (fb 8 3) HT_ ?_
      refine pu 2 14 (fb 8 7) HT_ ?_
      refine pu 3 15 (fb 8 15) HT_ ?_
      refine pu 5 17 (fb 8 47) HT_ ?_
      refine tk 4 16 (fb 8 63) HT_ HW_ hHeld ?_
      refine one_ (i := 6) (N := some 18) (fb 8 127) rfl rfl (one_of HT_.out (by kernel_rfl)) (by decide) (fun K hK => ?_)
      refine gs _ (#[.int .i64 x1_1]) Tryd.func71 ?_
      with_reducible refine (laws_markText.calls k1 x1_1 t341 _ A5.out).mono ?_
      rintro e w23 ⟨rfl, hb⟩
      refine ⟨_, rfl, ?_⟩
      refine Ya1 (below_step (be HB.out) hb) ?_
      clear HB
      intro HB
      (try clear hb)
      (try clear hb2)
      (try clear hk)
      (try clear hi)
      refine hK.out _ _ ⟨(pw_cell_below HB.out hw340_0), (pw_cell_below HB.out hw340_1), (pw_cell_below HB.out hw340_2)⟩ (fun hHeld => ?_)
      clear hK K
      refine norm_ (a' := ?_) ?_ ?_
      rotate_left
      ·show Act.put _ (some 18) _ = _
       simp only [Act.put, List.setIfInBounds_toArray, List.set_cons_zero, List.set_cons_succ, i64_w, i32_w]
       rfl
      refine pu 7 19 (fb 8 255) HT_ ?_
      refine done_ (done_of HT_.out (by kernel_rfl)) ?_
      try go_wp2
      go_ret
      exact ⟨Ye2, be HB.out⟩
    ·rw [if_neg c4] at H
     exact absurd H (by simp)
   ·rw [if_neg c3] at H
    have c3b0 : decide (x5_1 < (l0.length : Int)) = false := decide_eq_false c3
    clear c3
    obtain rfl := Option.some.inj H
    go_wp2
    go_ret
    exact ⟨Ye2, be HB.out⟩

end Go.Proofs.YtkdghhkpmkfjhaaDoor.P


namespace Go.Proofs.YtkdghhkpmkfjhaaDoor.P
open Go.RowKit Go.Proofs.YtkdghhkpmkfjhaaDoorW.PrintWords Go.Proofs.YtkdghhkpmkfjhaaDoorW.PrintLast Go.Proofs.YtkdghhkpmkfjhaaDoorW.PrintMore
attribute [local go_sem] max2_int min2_int max_two min_two max_three min_three max_four min_four
set_option linter.unusedVariables false
set_option linter.unusedSimpArgs false

/-! ### laws_heldTree: function 28 -/
def laws_heldTree.f (k : Nat) (l0_0 : List (S45)) (a1 : Int) : Option (Int) := (laws_heldEntryS.f k l0_0 a1).bind fun t346 => (if t346 < 0 then (some (-1)) else (some t346))
theorem laws_heldTree.mono : ∀ a0 a1 k, LeO (laws_heldTree.f k a0 a1) (laws_heldTree.f (k + 1) a0 a1) := by
 intro a0 a1 k
 unfold laws_heldTree.f
 repeat' first
   | (with_reducible exact laws_heldEntryS.mono _ _ _)
   | (with_reducible exact LeO.refl _)
   | (with_reducible exact LeO.none _)
   | (with_reducible refine LeO.ite ?_ ?_)
   | (with_reducible refine LeO.bind ?_ (fun _ => ?_))
   | exact laws_heldEntryS.mono _ _ _
   | exact LeO.none _
   | refine LeO.ite ?_ ?_
   | refine LeO.bind ?_ (fun _ => ?_)
set_option maxHeartbeats 8000000 in
set_option maxRecDepth 100000 in
theorem laws_heldTree.calls (k : Nat) (A0_0 : Option Addr) (c0_0 : Nat) (l0_0 : List (S45)) (a1 : Int) (r : Int) (w : World) (hr0_0 : Kd.C k45 w A0_0 l0_0.length l0_0) (hc0_0 : l0_0.length ≤ c0_0) (h : laws_heldTree.f k l0_0 a1 = some r) :
  Calls Tryd.prog 28 #[.agg #[.slice A0_0 l0_0.length c0_0], .int .i64 a1] w fun e w' => e = .returned (.int .i64 r) ∧ Below w.heap.size w w' := by
 have hu29 := Tryd.underlying29
 have HR0_0 := Aside0.mk hr0_0
 have HC0_0 := Aside0.mk hc0_0
 clear hr0_0 hc0_0
 have HB := Aside0.mk (Below.refl w.heap.size w)
 have H : ((laws_heldEntryS.f k l0_0 a1).bind fun t346 => (if t346 < 0 then (some (-1)) else (some t346))) = some r := h
 clear h
 replace H := Option.bind_eq_some_iff.mp H
 obtain ⟨t346, A30, H⟩ := H
 replace H : (if t346 < 0 then (some (-1)) else (some t346)) = some r := H
 have A3 := Aside0.mk A30
 clear A30
 by_cases c4 : t346 < 0
 ·rw [if_pos c4] at H
  have c4b0 : decide (t346 < 0) = true := decide_eq_true c4
  clear c4
  obtain rfl := Option.some.inj H
  go_enter Tryd.func28, Tryd.ntmps28
  go_wp2_with (first | ((with_reducible refine gd 2 rfl ?_); refine bx 2 29 (#[.slice A0_0 l0_0.length c0_0]) ?_; intro gb345 hg w5 hbox hb; refine Ya4 (below_step (be HB.out) hb) (hbox) (bs hg (be HB.out)) (bs hg (be HB.out)) ?_; clear HB; intro HB BK345 GW345 GE345; clear hb hbox hg; have ⟨hcz6_0, hfz6_0⟩ := Yc1 BK345.out) | ((with_reducible refine gc 62 rfl ?_); refine gl (some 8) _ (#[.slice A0_0 l0_0.length c0_0, .int .i64 a1]) Tryd.func62 ?_; (with_reducible refine (laws_heldEntryS.calls k _ _ l0_0 a1 t346 _ ?side1 ?side2 A3.out).mono ?_); (case side1 => exact cb (Kd.C_below HR0_0.out HB.out)); (case side2 => exact HC0_0.out); rintro e w7 ⟨rfl, hb⟩; refine ⟨_, rfl, ?_⟩; refine Ya2 (bb BK345 hb) (below_step (be1 HB.out GE345.out) hb) ?_; clear BK345 HB; intro BK345 HB; (try clear hb); (try clear hb2); (try clear hk); (try clear hi)))
  go_ret
  exact ⟨Ye2, (by first | exact be1 HB.out GE345.out | exact be HB.out)⟩
 ·rw [if_neg c4] at H
  have c4b0 : decide (t346 < 0) = false := decide_eq_false c4
  clear c4
  obtain rfl := Option.some.inj H
  go_enter Tryd.func28, Tryd.ntmps28
  go_wp2_with (first | ((with_reducible refine gd 2 rfl ?_); refine bx 2 29 (#[.slice A0_0 l0_0.length c0_0]) ?_; intro gb345 hg w8 hbox hb; refine Ya4 (below_step (be HB.out) hb) (hbox) (bs hg (be HB.out)) (bs hg (be HB.out)) ?_; clear HB; intro HB BK345 GW345 GE345; clear hb hbox hg; have ⟨hcz9_0, hfz9_0⟩ := Yc1 BK345.out) | ((with_reducible refine gc 62 rfl ?_); refine gl (some 8) _ (#[.slice A0_0 l0_0.length c0_0, .int .i64 a1]) Tryd.func62 ?_; (with_reducible refine (laws_heldEntryS.calls k _ _ l0_0 a1 t346 _ ?side1 ?side2 A3.out).mono ?_); (case side1 => exact cb (Kd.C_below HR0_0.out HB.out)); (case side2 => exact HC0_0.out); rintro e w10 ⟨rfl, hb⟩; refine ⟨_, rfl, ?_⟩; refine Ya2 (bb BK345 hb) (below_step (be1 HB.out GE345.out) hb) ?_; clear BK345 HB; intro BK345 HB; (try clear hb); (try clear hb2); (try clear hk); (try clear hi)))
  go_ret
  exact ⟨Ye2, (by first | exact be1 HB.out GE345.out | exact be HB.out)⟩

end Go.Proofs.YtkdghhkpmkfjhaaDoor.P


namespace Go.Proofs.YtkdghhkpmkfjhaaDoor.P
open Go.RowKit Go.Proofs.YtkdghhkpmkfjhaaDoorW.PrintWords Go.Proofs.YtkdghhkpmkfjhaaDoorW.PrintLast Go.Proofs.YtkdghhkpmkfjhaaDoorW.PrintMore
attribute [local go_sem] max2_int min2_int max_two min_two max_three min_three max_four min_four
set_option linter.unusedVariables false
set_option linter.unusedSimpArgs false

/-! ### laws_markEntryS: function 61 -/
def laws_markEntryS.l0 : Nat → List (S45) → Int → Int → Option (Int × (List (S45)))
 | 0, _, _, _ => none
 | k + 1, x0, x1, x5 => if x5 < (x0.length : Int) then ((laws_markText.f k x1).bind fun t332 => (if 0 ≤ x5 then ((some (x0.set (x5 : Int).toNat (⟨t332, (rd_T45 x0 x5).f1, (rd_T45 x0 x5).f2⟩ : S45) : List (S45))).bind fun y333 => ((laws_markText.f k (wrap64 (x1 + 1))).bind fun t334 => ((some (y333.set (x5 : Int).toNat (⟨(rd_T45 y333 x5).f0, t334, (rd_T45 y333 x5).f2⟩ : S45) : List (S45))).bind fun y335 => (laws_markEntryS.l0 k (y335.set (x5 : Int).toNat (⟨(rd_T45 y335 x5).f0, (rd_T45 y335 x5).f1, ((Int.tmod (wrap64 ((wrap64 (x1 + 1)) + 1)) 3) == 0)⟩ : S45)) (wrap64 ((wrap64 ((wrap64 (x1 + 1)) + 1)) + 1)) (wrap64 (x5 + 1)))))) else (none))) else (some (x1, x0))
def laws_markEntryS.f (k : Nat) (l0 : List (S45)) (a1 : Int) : Option (Int × (List (S45))) := laws_markEntryS.l0 k l0 a1 0
theorem laws_markEntryS.mono_l : ∀ k, (∀ y0 y1 y2, LeO (laws_markEntryS.l0 k y0 y1 y2) (laws_markEntryS.l0 (k + 1) y0 y1 y2))
 | 0 => fun _ _ _ r h => by simp [laws_markEntryS.l0] at h
 | k + 1 => by
  have ih0 := laws_markEntryS.mono_l k
  ·intro y0 y1 y2
   unfold laws_markEntryS.l0
   repeat' first
   | (with_reducible exact ih0 _ _ _)
   | (with_reducible exact laws_markText.mono _ _)
   | (with_reducible exact LeO.refl _)
   | (with_reducible exact LeO.none _)
   | (with_reducible refine LeO.ite ?_ ?_)
   | (with_reducible refine LeO.bind ?_ (fun _ => ?_))
   | exact ih0 _ _ _
   | exact laws_markText.mono _ _
   | exact LeO.none _
   | refine LeO.ite ?_ ?_
   | refine LeO.bind ?_ (fun _ => ?_)
theorem laws_markEntryS.mono : ∀ a0 a1 k, LeO (laws_markEntryS.f k a0 a1) (laws_markEntryS.f (k + 1) a0 a1) := by
 intro a0 a1 k
 have ih0 := laws_markEntryS.mono_l k
 unfold laws_markEntryS.f
 repeat' first
   | (with_reducible exact ih0 _ _ _)
   | (with_reducible exact laws_markText.mono _ _)
   | (with_reducible exact LeO.refl _)
   | (with_reducible exact LeO.none _)
   | (with_reducible refine LeO.ite ?_ ?_)
   | (with_reducible refine LeO.bind ?_ (fun _ => ?_))
   | exact ih0 _ _ _
   | exact laws_markText.mono _ _
   | exact LeO.none _
   | refine LeO.ite ?_ ?_
   | refine LeO.bind ?_ (fun _ => ?_)
set_option maxHeartbeats 8000000 in
set_option maxRecDepth 100000 in
theorem laws_markEntryS.calls (k : Nat) (P0_ : Nat → Prop) (u9000_ : Value) (l0 : List (S45)) (a1 : Int) (r1 : Int) (r2 : List (S45)) (w0 w : World) (hB : Below w0.heap.size w0 w) (ho0 : Kd.R k45 45 w w0.heap.size P0_ u9000_ l0) (h : laws_markEntryS.f k l0 a1 = some (r1, r2)) :
  Calls Tryd.prog 61 #[u9000_, .int .i64 a1] w fun e w' => e = .returned (.int .i64 r1) ∧ Kd.R k45 45 w' w0.heap.size (fun k_ => (P0_ k_ ∨ w.heap.size ≤ k_)) u9000_ r2 ∧ Below w0.heap.size w0 w' ∧ Kept w w' (fun k_ => P0_ k_) := by
 have HO0 := Aside0.mk (show Kd.R k45 45 w w0.heap.size (fun k_ => (P0_ k_ ∨ w.heap.size ≤ k_)) u9000_ l0 from Kd.R_mono ho0 (fun k_ hk => (.inl hk)))
 have HK := Aside0.mk (Kept.refl w (fun k_ => P0_ k_))
 have HW0 := Aside0.mk hB.size
 have HB := Aside0.mk hB
 clear hB
 have H : (laws_markEntryS.l0 k l0 a1 0) = some (r1, r2) := h
 clear h
 have H' := Aside0.mk H
 clear H
 go_enter Tryd.func61, Tryd.ntmps61
 go_wp2
 go_loopg [1, 5] k (fun kq v1 v5 w' => ∃ (x0_1 : List (S45)) (x1_1 : Int) (x5_1 : Int), v1 = .int .i64 x1_1 ∧ v5 = .int .i64 x5_1 ∧ Aside0 (laws_markEntryS.l0 kq x0_1 x1_1 x5_1 = some (r1, r2)) ∧ Aside0 (kq ≤ k) ∧ Aside0 (Kd.R k45 45 w' w0.heap.size (fun k_ => (P0_ k_ ∨ w.heap.size ≤ k_)) u9000_ x0_1) ∧ Aside0 (Kept w w' (fun k_ => P0_ k_)) ∧ Aside0 (Below w0.heap.size w0 w'))
 case atStart => exact ⟨(l0), (a1), (0), Ye1, Ye1, H', ⟨Nat.le_refl _⟩, ⟨kr HO0.out⟩, ⟨by repeat (first | (with_reducible first | exact HK.out | apply Kept.alloc | apply Kept.drewN | apply Kept.drew) | exact HK.out)⟩, ⟨be HB.out⟩⟩
 case round =>
  clear H'
  try clear p2
  obtain ⟨x0_1, x1_1, x5_1, rfl, rfl, HA, HK1, HO_0, HK, HB⟩ := hrel
  cases gk with
  | zero => exact absurd HA.out (by simp [laws_markEntryS.l0])
  | succ k1 =>
   have H := HA.out
   clear HA
   simp only [laws_markEntryS.l0] at H
   by_cases c3 : x5_1 < (x0_1.length : Int)
   ·rw [if_pos c3] at H
    have c3b0 : decide (x5_1 < (x0_1.length : Int)) = true := decide_eq_true c3
    clear c3
    replace H := Option.bind_eq_some_iff.mp H
    obtain ⟨t332, A40, H⟩ := H
    replace H : (if 0 ≤ x5_1 then ((some (x0_1.set (x5_1 : Int).toNat (⟨t332, (rd_T45 x0_1 x5_1).f1, (rd_T45 x0_1 x5_1).f2⟩ : S45) : List (S45))).bind fun y333 => ((laws_markText.f k1 (wrap64 (x1_1 + 1))).bind fun t334 => ((some (y333.set (x5_1 : Int).toNat (⟨(rd_T45 y333 x5_1).f0, t334, (rd_T45 y333 x5_1).f2⟩ : S45) : List (S45))).bind fun y335 => (laws_markEntryS.l0 k1 (y335.set (x5_1 : Int).toNat (⟨(rd_T45 y335 x5_1).f0, (rd_T45 y335 x5_1).f1, ((Int.tmod (wrap64 ((wrap64 (x1_1 + 1)) + 1)) 3) == 0)⟩ : S45)) (wrap64 ((wrap64 ((wrap64 (x1_1 + 1)) + 1)) + 1)) (wrap64 (x5_1 + 1)))))) else (none)) = some (r1, r2) := H
    have A4 := Aside0.mk A40
    clear A40
    by_cases c5 : 0 ≤ x5_1
    ·rw [if_pos c5] at H
     have c5b0 : decide (0 ≤ x5_1) = true := decide_eq_true c5
     clear c5
     obtain ⟨y333, hy333⟩ : ∃ y_ : List (S45), y_ = (x0_1.set (x5_1 : Int).toNat (⟨t332, (rd_T45 x0_1 x5_1).f1, (rd_T45 x0_1 x5_1).f2⟩ : S45)) := ⟨_, rfl⟩
     replace H : ((laws_markText.f k1 (wrap64 (x1_1 + 1))).bind fun t334 => ((some (y333.set (x5_1 : Int).toNat (⟨(rd_T45 y333 x5_1).f0, t334, (rd_T45 y333 x5_1).f2⟩ : S45) : List (S45))).bind fun y335 => (laws_markEntryS.l0 k1 (y335.set (x5_1 : Int).toNat (⟨(rd_T45 y335 x5_1).f0, (rd_T45 y335 x5_1).f1, ((Int.tmod (wrap64 ((wrap64 (x1_1 + 1)) + 1)) 3) == 0)⟩ : S45)) (wrap64 ((wrap64 ((wrap64 (x1_1 + 1)) + 1)) + 1)) (wrap64 (x5_1 + 1))))) = some (r1, r2) := by first | (rw [hy333]; with_reducible exact H) | (have H2_ := (Option.bind_some _ _).symm.trans H; rw [hy333]; with_reducible exact H2_) | (have H2_ := (Option.bind_some _ _).symm.trans H; with_reducible exact H2_) | with_reducible exact H | (rw [hy333]; exact H) | exact H
     have Ny333 := Aside0.mk hy333
     clear hy333
     replace H := Option.bind_eq_some_iff.mp H
     obtain ⟨t334, A70, H⟩ := H
     replace H : ((some (y333.set (x5_1 : Int).toNat (⟨(rd_T45 y333 x5_1).f0, t334, (rd_T45 y333 x5_1).f2⟩ : S45) : List (S45))).bind fun y335 => (laws_markEntryS.l0 k1 (y335.set (x5_1 : Int).toNat (⟨(rd_T45 y335 x5_1).f0, (rd_T45 y335 x5_1).f1, ((Int.tmod (wrap64 ((wrap64 (x1_1 + 1)) + 1)) 3) == 0)⟩ : S45)) (wrap64 ((wrap64 ((wrap64 (x1_1 + 1)) + 1)) + 1)) (wrap64 (x5_1 + 1)))) = some (r1, r2) := H
     have A7 := Aside0.mk A70
     clear A70
     obtain ⟨y335, hy335⟩ : ∃ y_ : List (S45), y_ = (y333.set (x5_1 : Int).toNat (⟨(rd_T45 y333 x5_1).f0, t334, (rd_T45 y333 x5_1).f2⟩ : S45)) := ⟨_, rfl⟩
     replace H : (laws_markEntryS.l0 k1 (y335.set (x5_1 : Int).toNat (⟨(rd_T45 y335 x5_1).f0, (rd_T45 y335 x5_1).f1, ((Int.tmod (wrap64 ((wrap64 (x1_1 + 1)) + 1)) 3) == 0)⟩ : S45)) (wrap64 ((wrap64 ((wrap64 (x1_1 + 1)) + 1)) + 1)) (wrap64 (x5_1 + 1))) = some (r1, r2) := by first | (rw [hy335]; with_reducible exact H) | (have H2_ := (Option.bind_some _ _).symm.trans H; rw [hy335]; with_reducible exact H2_) | (have H2_ := (Option.bind_some _ _).symm.trans H; with_reducible exact H2_) | with_reducible exact H | (rw [hy335]; exact H) | exact H
     have Ny335 := Aside0.mk hy335
     clear hy335
     obtain ⟨y336, hy336⟩ : ∃ y_ : List (S45), y_ = (y335.set (x5_1 : Int).toNat (⟨(rd_T45 y335 x5_1).f0, (rd_T45 y335 x5_1).f1, ((Int.tmod (wrap64 ((wrap64 (x1_1 + 1)) + 1)) 3) == 0)⟩ : S45)) := ⟨_, rfl⟩
     replace H : (laws_markEntryS.l0 k1 y336 (wrap64 ((wrap64 ((wrap64 (x1_1 + 1)) + 1)) + 1)) (wrap64 (x5_1 + 1))) = some (r1, r2) := by first | (rw [hy336]; with_reducible exact H) | (have H2_ := (Option.bind_some _ _).symm.trans H; rw [hy336]; with_reducible exact H2_) | (have H2_ := (Option.bind_some _ _).symm.trans H; with_reducible exact H2_) | with_reducible exact H | (rw [hy336]; exact H) | exact H
     have Ny336 := Aside0.mk hy336
     clear hy336
     have H' := Aside0.mk H
     clear H
     obtain ⟨Ao10, co10, eo10⟩ := Kd.R_slice HO_0.out
     subst eo10
     go_wp2_with (first | ((with_reducible refine gc 71 rfl ?_); refine gl (some 15) _ (#[.int .i64 x1_1]) Tryd.func71 ?_; (with_reducible refine (laws_markText.calls k1 x1_1 t332 _ A4.out).mono ?_); rintro e w11 ⟨rfl, hb⟩; refine ⟨_, rfl, ?_⟩; refine Ya3 (Kd.R_below (kr HO_0.out) hb) (Kept.below (S := (fun k_ => P0_ k_)) (by repeat (first | (with_reducible first | exact HK.out | apply Kept.alloc | apply Kept.drewN | apply Kept.drew) | exact HK.out)) hb) (below_step (be HB.out) hb) ?_; clear HO_0 HK HB; intro HO_0 HK HB; (try clear hb); (try clear hb2); (try clear hk); (try clear hi); have p6 : 0 ≤ (x5_1 : Int) := oda; have q6 : (x5_1 : Int) < ((x0_1.length : Int) : Int) := oda; obtain ⟨go6, co6, eo6, gb6, gl6, cl6, HG6⟩ := Kd.R_form HO_0.out (by omega); (first | cases eo6 | (injection eo6 with ea_ en_ ec_; (first | subst ea_ | (injection ea_ with ea_; subst ea_)); subst ec_; clear en_)); have GB6 := Aside0.mk gb6; have GG6 := Aside0.mk HG6; clear gb6 gl6 HG6; have HMgo6 := Aside0.mk (show (P0_ go6 ∨ w.heap.size ≤ go6) from (HO_0.out.1 _ rfl)); obtain ⟨ce6, hcl6, hM6, hcc6, hfr6⟩ := Kd.R_elem HO_0.out z45 (x5_1 : Int) p6 q6; obtain rfl := k45_openM hM6; have hx6_0 : w11.cell? ⟨go6, (x5_1 : Int).toNat * 3, none⟩ = some (.string ((rd_T45 x0_1 x5_1).f0)) := hcc6 0 _ rfl; have hx6_1 : w11.cell? ⟨go6, (x5_1 : Int).toNat * 3 + 1, none⟩ = some (.string ((rd_T45 x0_1 x5_1).f1)) := hcc6 1 _ rfl; have hx6_2 : w11.cell? ⟨go6, (x5_1 : Int).toNat * 3 + 2, none⟩ = some (.bool ((rd_T45 x0_1 x5_1).f2)) := hcc6 2 _ rfl; have hf6_0 : w11.frozen? ⟨go6, (x5_1 : Int).toNat * 3, none⟩ = false := hfr6 0; have hf6_1 : w11.frozen? ⟨go6, (x5_1 : Int).toNat * 3 + 1, none⟩ = false := hfr6 1; have hf6_2 : w11.frozen? ⟨go6, (x5_1 : Int).toNat * 3 + 2, none⟩ = false := hfr6 2; (try clear hM6); clear hcl6 hcc6 hfr6; replace p6 := eq_true p6; replace q6 := eq_true q6; have HX12 := Aside0.mk (show Kd.R k45 45 w11 w0.heap.size (fun k_ => (P0_ k_ ∨ w.heap.size ≤ k_)) (.slice (some ⟨go6, 0, none⟩) x0_1.length co10) x0_1 from (kr HO_0.out)); obtain ⟨ce12, hcl12, hM12, hcc12, hfr12⟩ := Kd.R_elem HX12.out z45 (x5_1 : Int) (oda) (by have h_ : (x5_1 : Int) < ((x0_1.length : Int) : Int) := oda; first | exact h_ | (have e_ := (Kd.R_reads' HO_0.out).1; omega) | simpa using h_); obtain rfl := k45_openM hM12; have HP12 := Kd.R_seg HX12.out (x5_1 : Int) (oda) (by have h_ : (x5_1 : Int) < ((x0_1.length : Int) : Int) := oda; first | exact h_ | (have e_ := (Kd.R_reads' HO_0.out).1; omega) | simpa using h_) (seg := [.string t332]) (j := 0) hcl12 hcc12 (show 1 ≤ 3 from by decide) (x' := (⟨t332, (rd_T45 x0_1 x5_1).f1, (rd_T45 x0_1 x5_1).f2⟩ : S45)) (k45_mkM _ _ _ (⟨t332, (rd_T45 x0_1 x5_1).f1, (rd_T45 x0_1 x5_1).f2⟩ : S45) ) (fun _ hk => hk); have hx12_0 := hcc12 0 _ rfl; (try simp only [show (k45).sz = 3 from rfl, Nat.mul_one, Nat.add_zero] at hx12_0); have hf12_0 := hfr12 0; (try simp only [show (k45).sz = 3 from rfl, Nat.mul_one, Nat.add_zero] at hf12_0); (try clear hM12); clear hcl12 hcc12 hfr12) | ((with_reducible refine gate_store (t := 9) (p := 17) rfl ?_); refine store_event (t := 9) (p := 17) (v := ?vo_w13) (w1 := (w11.setCell ⟨go6, (x5_1 : Int).toNat * 3, none⟩ (.string t332))) ?hg ?ho ?hn ?hr ?_; (case ho => rfl); (case hg => rfl); (case hn => rfl); (case hr => first | (go_simp; done) | (go_simp; rfl)); intro w13 hw; have hg : w11.grownBy w13 (some go6) := (by rw [hw]; exact HP12.2); have hp_ : Kd.R k45 45 w13 w0.heap.size (fun k_ => (P0_ k_ ∨ w.heap.size ≤ k_)) (.slice (some ⟨go6, 0, none⟩) x0_1.length co10) y333 := (by rw [hw, Ny333.out]; exact HP12.1); clear HP12; refine Ya3 (hp_) ((by rw [hw]; exact below_set (HB.out) GB6.out : Below w0.heap.size w0 w13)) (Kept.of_grown (S := (fun k_ => P0_ k_)) hg (by repeat (first | (with_reducible first | exact HK.out | apply Kept.alloc | apply Kept.drewN | apply Kept.drew) | exact HK.out)) (fun k_ e_ => (HO_0.out.1 k_ e_))) ?_; clear HO_0 HB HK; intro HO_0 HB HK; clear hg hw hp_) | ((with_reducible refine gc 71 rfl ?_); refine gl (some 23) _ (#[.int .i64 (wrap64 (x1_1 + 1))]) Tryd.func71 ?_; (with_reducible refine (laws_markText.calls k1 (wrap64 (x1_1 + 1)) t334 _ A7.out).mono ?_); rintro e w14 ⟨rfl, hb⟩; refine ⟨_, rfl, ?_⟩; refine Ya3 (Kd.R_below (kr HO_0.out) hb) (Kept.below (S := (fun k_ => P0_ k_)) (by repeat (first | (with_reducible first | exact HK.out | apply Kept.alloc | apply Kept.drewN | apply Kept.drew) | exact HK.out)) hb) (below_step (be HB.out) hb) ?_; clear HO_0 HK HB; intro HO_0 HK HB; (try clear hb); (try clear hb2); (try clear hk); (try clear hi); have p8 : 0 ≤ (x5_1 : Int) := oda; have q8 : (x5_1 : Int) < ((x0_1.length : Int) : Int) := oda; obtain ⟨ce8, hcl8, hM8, hcc8, hfr8⟩ := Kd.R_elem HO_0.out z45 (x5_1 : Int) p8 q8; obtain rfl := k45_openM hM8; have hx8_0 : w14.cell? ⟨go6, (x5_1 : Int).toNat * 3, none⟩ = some (.string ((rd_T45 y333 x5_1).f0)) := hcc8 0 _ rfl; have hx8_1 : w14.cell? ⟨go6, (x5_1 : Int).toNat * 3 + 1, none⟩ = some (.string ((rd_T45 y333 x5_1).f1)) := hcc8 1 _ rfl; have hx8_2 : w14.cell? ⟨go6, (x5_1 : Int).toNat * 3 + 2, none⟩ = some (.bool ((rd_T45 y333 x5_1).f2)) := hcc8 2 _ rfl; have hf8_0 : w14.frozen? ⟨go6, (x5_1 : Int).toNat * 3, none⟩ = false := hfr8 0; have hf8_1 : w14.frozen? ⟨go6, (x5_1 : Int).toNat * 3 + 1, none⟩ = false := hfr8 1; have hf8_2 : w14.frozen? ⟨go6, (x5_1 : Int).toNat * 3 + 2, none⟩ = false := hfr8 2; (try clear hM8); clear hcl8 hcc8 hfr8; replace p8 := eq_true p8; replace q8 := eq_true q8; have HX15 := Aside0.mk (show Kd.R k45 45 w14 w0.heap.size (fun k_ => (P0_ k_ ∨ w.heap.size ≤ k_)) (.slice (some ⟨go6, 0, none⟩) x0_1.length co10) y333 from (kr HO_0.out)); obtain ⟨ce15, hcl15, hM15, hcc15, hfr15⟩ := Kd.R_elem HX15.out z45 (x5_1 : Int) (oda) (by have h_ : (x5_1 : Int) < ((x0_1.length : Int) : Int) := oda; first | exact h_ | (have e_ := (Kd.R_reads' HO_0.out).1; omega) | simpa using h_); obtain rfl := k45_openM hM15; have HP15 := Kd.R_seg HX15.out (x5_1 : Int) (oda) (by have h_ : (x5_1 : Int) < ((x0_1.length : Int) : Int) := oda; first | exact h_ | (have e_ := (Kd.R_reads' HO_0.out).1; omega) | simpa using h_) (seg := [.string t334]) (j := 1) hcl15 hcc15 (show 2 ≤ 3 from by decide) (x' := (⟨(rd_T45 y333 x5_1).f0, t334, (rd_T45 y333 x5_1).f2⟩ : S45)) (k45_mkM _ _ _ (⟨(rd_T45 y333 x5_1).f0, t334, (rd_T45 y333 x5_1).f2⟩ : S45) ) (fun _ hk => hk); have hx15_1 := hcc15 1 _ rfl; (try simp only [show (k45).sz = 3 from rfl, Nat.mul_one, Nat.add_zero] at hx15_1); have hf15_1 := hfr15 1; (try simp only [show (k45).sz = 3 from rfl, Nat.mul_one, Nat.add_zero] at hf15_1); (try clear hM15); clear hcl15 hcc15 hfr15) | ((with_reducible refine gate_store (t := 9) (p := 25) rfl ?_); refine store_event (t := 9) (p := 25) (v := ?vo_w16) (w1 := (w14.setCell ⟨go6, (x5_1 : Int).toNat * 3 + 1, none⟩ (.string t334))) ?hg ?ho ?hn ?hr ?_; (case ho => rfl); (case hg => rfl); (case hn => rfl); (case hr => first | (go_simp; done) | (go_simp; rfl)); intro w16 hw; have hg : w14.grownBy w16 (some go6) := (by rw [hw]; exact HP15.2); have hp_ : Kd.R k45 45 w16 w0.heap.size (fun k_ => (P0_ k_ ∨ w.heap.size ≤ k_)) (.slice (some ⟨go6, 0, none⟩) x0_1.length co10) y335 := (by rw [hw, Ny335.out]; exact HP15.1); clear HP15; refine Ya3 (hp_) ((by rw [hw]; exact below_set (HB.out) GB6.out : Below w0.heap.size w0 w16)) (Kept.of_grown (S := (fun k_ => P0_ k_)) hg (by repeat (first | (with_reducible first | exact HK.out | apply Kept.alloc | apply Kept.drewN | apply Kept.drew) | exact HK.out)) (fun k_ e_ => (HO_0.out.1 k_ e_))) ?_; clear HO_0 HB HK; intro HO_0 HB HK; clear hg hw hp_; have p9 : 0 ≤ (x5_1 : Int) := oda; have q9 : (x5_1 : Int) < ((x0_1.length : Int) : Int) := oda; obtain ⟨ce9, hcl9, hM9, hcc9, hfr9⟩ := Kd.R_elem HO_0.out z45 (x5_1 : Int) p9 q9; obtain rfl := k45_openM hM9; have hx9_0 : w16.cell? ⟨go6, (x5_1 : Int).toNat * 3, none⟩ = some (.string ((rd_T45 y335 x5_1).f0)) := hcc9 0 _ rfl; have hx9_1 : w16.cell? ⟨go6, (x5_1 : Int).toNat * 3 + 1, none⟩ = some (.string ((rd_T45 y335 x5_1).f1)) := hcc9 1 _ rfl; have hx9_2 : w16.cell? ⟨go6, (x5_1 : Int).toNat * 3 + 2, none⟩ = some (.bool ((rd_T45 y335 x5_1).f2)) := hcc9 2 _ rfl; have hf9_0 : w16.frozen? ⟨go6, (x5_1 : Int).toNat * 3, none⟩ = false := hfr9 0; have hf9_1 : w16.frozen? ⟨go6, (x5_1 : Int).toNat * 3 + 1, none⟩ = false := hfr9 1; have hf9_2 : w16.frozen? ⟨go6, (x5_1 : Int).toNat * 3 + 2, none⟩ = false := hfr9 2; (try clear hM9); clear hcl9 hcc9 hfr9; replace p9 := eq_true p9; replace q9 := eq_true q9; have HX17 := Aside0.mk (show Kd.R k45 45 w16 w0.heap.size (fun k_ => (P0_ k_ ∨ w.heap.size ≤ k_)) (.slice (some ⟨go6, 0, none⟩) x0_1.length co10) y335 from (kr HO_0.out)); obtain ⟨ce17, hcl17, hM17, hcc17, hfr17⟩ := Kd.R_elem HX17.out z45 (x5_1 : Int) (oda) (by have h_ : (x5_1 : Int) < ((x0_1.length : Int) : Int) := oda; first | exact h_ | (have e_ := (Kd.R_reads' HO_0.out).1; omega) | simpa using h_); obtain rfl := k45_openM hM17; have HP17 := Kd.R_seg HX17.out (x5_1 : Int) (oda) (by have h_ : (x5_1 : Int) < ((x0_1.length : Int) : Int) := oda; first | exact h_ | (have e_ := (Kd.R_reads' HO_0.out).1; omega) | simpa using h_) (seg := [.bool ((Int.tmod (wrap64 ((wrap64 (x1_1 + 1)) + 1)) 3) == 0)]) (j := 2) hcl17 hcc17 (show 3 ≤ 3 from by decide) (x' := (⟨(rd_T45 y335 x5_1).f0, (rd_T45 y335 x5_1).f1, ((Int.tmod (wrap64 ((wrap64 (x1_1 + 1)) + 1)) 3) == 0)⟩ : S45)) (k45_mkM _ _ _ (⟨(rd_T45 y335 x5_1).f0, (rd_T45 y335 x5_1).f1, ((Int.tmod (wrap64 ((wrap64 (x1_1 + 1)) + 1)) 3) == 0)⟩ : S45) ) (fun _ hk => hk); have hx17_2 := hcc17 2 _ rfl; (try simp only [show (k45).sz = 3 from rfl, Nat.mul_one, Nat.add_zero] at hx17_2); have hf17_2 := hfr17 2; (try simp only [show (k45).sz = 3 from rfl, Nat.mul_one, Nat.add_zero] at hf17_2); (try clear hM17); clear hcl17 hcc17 hfr17) | ((with_reducible refine gate_store (t := 4) (p := 34) rfl ?_); refine store_event (t := 4) (p := 34) (v := ?vo_w18) (w1 := (w16.setCell ⟨go6, (x5_1 : Int).toNat * 3 + 2, none⟩ (.bool ((Int.tmod (wrap64 ((wrap64 (x1_1 + 1)) + 1)) 3) == 0)))) ?hg ?ho ?hn ?hr ?_; (case ho => rfl); (case hg => rfl); (case hn => rfl); (case hr => first | (go_simp; done) | (go_simp; rfl)); intro w18 hw; have hg : w16.grownBy w18 (some go6) := (by rw [hw]; exact HP17.2); have hp_ : Kd.R k45 45 w18 w0.heap.size (fun k_ => (P0_ k_ ∨ w.heap.size ≤ k_)) (.slice (some ⟨go6, 0, none⟩) x0_1.length co10) y336 := (by rw [hw, Ny336.out]; exact HP17.1); clear HP17; refine Ya3 (hp_) ((by rw [hw]; exact below_set (HB.out) GB6.out : Below w0.heap.size w0 w18)) (Kept.of_grown (S := (fun k_ => P0_ k_)) hg (by repeat (first | (with_reducible first | exact HK.out | apply Kept.alloc | apply Kept.drewN | apply Kept.drew) | exact HK.out)) (fun k_ e_ => (HO_0.out.1 k_ e_))) ?_; clear HO_0 HB HK; intro HO_0 HB HK; clear hg hw hp_))
     go_roundg k1
     case measure => have := HK1.out; omega
     case rel => exact ⟨(y336), (wrap64 ((wrap64 ((wrap64 (x1_1 + 1)) + 1)) + 1)), (wrap64 (x5_1 + 1)), Ye1, Ye1, H', ⟨by have := HK1.out; omega⟩, ⟨kr HO_0.out⟩, ⟨by repeat (first | (with_reducible first | exact HK.out | apply Kept.alloc | apply Kept.drewN | apply Kept.drew) | exact HK.out)⟩, ⟨be HB.out⟩⟩
    ·rw [if_neg c5] at H
     exact absurd H (by simp)
   ·rw [if_neg c3] at H
    have c3b0 : decide (x5_1 < (x0_1.length : Int)) = false := decide_eq_false c3
    clear c3
    simp only [Option.some.injEq, Prod.mk.injEq] at H
    obtain ⟨rfl, rfl⟩ := H
    obtain ⟨Ao19, co19, eo19⟩ := Kd.R_slice HO_0.out
    subst eo19
    go_wp2
    go_ret
    exact ⟨Ye2, kr HO_0.out, be HB.out, by repeat (first | (with_reducible first | exact HK.out | apply Kept.alloc | apply Kept.drewN | apply Kept.drew) | exact HK.out)⟩

end Go.Proofs.YtkdghhkpmkfjhaaDoor.P


namespace Go.Proofs.YtkdghhkpmkfjhaaDoor.P
open Go.RowKit Go.Proofs.YtkdghhkpmkfjhaaDoorW.PrintWords Go.Proofs.YtkdghhkpmkfjhaaDoorW.PrintLast Go.Proofs.YtkdghhkpmkfjhaaDoorW.PrintMore
attribute [local go_sem] max2_int min2_int max_two min_two max_three min_three max_four min_four
set_option linter.unusedVariables false
set_option linter.unusedSimpArgs false

/-! ### laws_markTree: function 27 -/
def laws_markTree.f (k : Nat) (l0_0 : List (S45)) (a1 : Int) : Option (Int × (List (S45))) := (laws_markEntryS.f k l0_0 a1).bind fun bt338 => (some (bt338.1, bt338.2))
theorem laws_markTree.mono : ∀ a0 a1 k, LeO (laws_markTree.f k a0 a1) (laws_markTree.f (k + 1) a0 a1) := by
 intro a0 a1 k
 unfold laws_markTree.f
 repeat' first
   | (with_reducible exact laws_markEntryS.mono _ _ _)
   | (with_reducible exact LeO.refl _)
   | (with_reducible exact LeO.none _)
   | (with_reducible refine LeO.ite ?_ ?_)
   | (with_reducible refine LeO.bind ?_ (fun _ => ?_))
   | exact laws_markEntryS.mono _ _ _
   | exact LeO.none _
   | refine LeO.ite ?_ ?_
   | refine LeO.bind ?_ (fun _ => ?_)
set_option maxHeartbeats 8000000 in
set_option maxRecDepth 100000 in
theorem laws_markTree.calls (k : Nat) (P0_0_ : Nat → Prop) (u9000_ : Value) (l0_0 : List (S45)) (a1 : Int) (r1 : Int) (r2 : List (S45)) (w0 w : World) (hB : Below w0.heap.size w0 w) (ho0_0 : Kd.R k45 45 w w0.heap.size P0_0_ u9000_ l0_0) (h : laws_markTree.f k l0_0 a1 = some (r1, r2)) :
  Calls Tryd.prog 27 #[.agg #[u9000_], .int .i64 a1] w fun e w' => e = .returned (.int .i64 r1) ∧ Kd.R k45 45 w' w0.heap.size (fun k_ => (P0_0_ k_ ∨ w.heap.size ≤ k_)) u9000_ r2 ∧ Below w0.heap.size w0 w' ∧ Kept w w' (fun k_ => P0_0_ k_) := by
 have hu29 := Tryd.underlying29
 have HO0_0 := Aside0.mk (show Kd.R k45 45 w w0.heap.size (fun k_ => (P0_0_ k_ ∨ w.heap.size ≤ k_)) u9000_ l0_0 from Kd.R_mono ho0_0 (fun k_ hk => (.inl hk)))
 have HK := Aside0.mk (Kept.refl w (fun k_ => P0_0_ k_))
 have HW0 := Aside0.mk hB.size
 have HB := Aside0.mk hB
 clear hB
 have H : ((laws_markEntryS.f k l0_0 a1).bind fun bt338 => (some (bt338.1, bt338.2))) = some (r1, r2) := h
 clear h
 replace H := Option.bind_eq_some_iff.mp H
 obtain ⟨⟨t338, t339⟩, A30, H⟩ := H
 replace H : (some (t338, t339)) = some (r1, r2) := H
 have A3 := Aside0.mk A30
 clear A30
 simp only [Option.some.injEq, Prod.mk.injEq] at H
 obtain ⟨rfl, rfl⟩ := H
 obtain ⟨Ao4, co4, eo4⟩ := Kd.R_slice HO0_0.out
 subst eo4
 go_enter Tryd.func27, Tryd.ntmps27
 go_wp2_with (first | ((with_reducible refine gd 2 rfl ?_); refine bx 2 29 (#[.slice Ao4 l0_0.length co4]) ?_; intro gb337 hg w5 hbox hb; refine Ya6 (Kd.R_below (kr HO0_0.out) hb) (Kept.below (S := (fun k_ => P0_0_ k_)) (by repeat (first | (with_reducible first | exact HK.out | apply Kept.alloc | apply Kept.drewN | apply Kept.drew) | exact HK.out)) hb) (below_step (be HB.out) hb) (hbox) ((by rw [hg]; exact (by first | exact HK.out.1 | exact (show Kept w _ (fun k_ => P0_0_ k_) from by repeat (first | (with_reducible first | exact HK.out | apply Kept.alloc | apply Kept.drewN | apply Kept.drew) | exact HK.out)).1) : w.heap.size ≤ gb337)) ((by rw [hg]; exact (below_size (be HB.out)) : w0.heap.size ≤ gb337)) ?_; clear HO0_0 HK HB; intro HO0_0 HK HB BK337 GW337 GE337; clear hb hbox hg; have ⟨hcz6_0, hfz6_0⟩ := Yc1 BK337.out) | ((with_reducible refine gc 61 rfl ?_); refine gl (some 8) _ (#[.slice Ao4 l0_0.length co4, .int .i64 a1]) Tryd.func61 ?_; (with_reducible refine (laws_markEntryS.calls k (fun k_ => some k_ = (.slice Ao4 l0_0.length co4 : Value).ownBlock) (.slice Ao4 l0_0.length co4) l0_0 a1 t338 t339 w0 _ ?side1 ?side2 A3.out).mono ?_); (case side1 => repeat (first | (with_reducible first | exact HB.out | apply below_alloc | apply pw_below_drewN | apply below_drew1 | refine below_set ?_ GE337.out) | exact HB.out)); (case side2 => exact Kd.R_tight rfl HO0_0.out); rintro e w7 ⟨rfl, hy0, hb, hkp⟩; refine ⟨_, rfl, ?_⟩; refine Ya4 (Kd.R_reok rfl hy0 (fun k_ e_ => HO0_0.out.1 k_ e_)) (blk_kept (bk BK337.out) hkp (fun hs_ => (fun e_ => (Kd.R_ne HO0_0.out BK337.out (by decide)) e_) hs_)) (Kept.then_ (S := (fun k_ => P0_0_ k_)) (by repeat (first | (with_reducible first | exact HK.out | apply Kept.alloc | apply Kept.drewN | apply Kept.drew | refine Kept.setCell ?_ (.inr GW337.out) _) | exact HK.out)) hkp (fun k_ hs_ => (fun e_ => (HO0_0.out.1 k_ e_.symm)) hs_)) (hb) ?_; clear HO0_0 BK337 HK HB; intro HO0_0 BK337 HK HB; (try clear hb); (try clear hkp); (try clear hy0)))
 go_ret
 exact ⟨Ye2, kr HO0_0.out, (by first | exact be1 HB.out GE337.out | exact be HB.out), by repeat (first | (with_reducible first | exact HK.out | apply Kept.alloc | apply Kept.drewN | apply Kept.drew | refine Kept.setCell ?_ (.inr GW337.out) _) | exact HK.out)⟩

end Go.Proofs.YtkdghhkpmkfjhaaDoor.P


namespace Go.Proofs.YtkdghhkpmkfjhaaDoor.P
open Go.RowKit Go.Proofs.YtkdghhkpmkfjhaaDoorW.PrintWords Go.Proofs.YtkdghhkpmkfjhaaDoorW.PrintLast Go.Proofs.YtkdghhkpmkfjhaaDoorW.PrintMore
attribute [local go_sem] max2_int min2_int max_two min_two max_three min_three max_four min_four
set_option linter.unusedVariables false
set_option linter.unusedSimpArgs false

/-! ### spec_l5Begins: function 49 -/
def spec_l5Begins.f (a0 : ByteArray) (a1 : ByteArray) : Option (Bool) := if (a1.size : Int) > (a0.size : Int) then (if 0 ≤ (a0.size : Int) then (if (a0.size : Int) ≤ (a1.size : Int) then (if (a1.extract 0 ((a0.size : Int) : Int).toNat).toList = a0.toList then (if (a0.size : Int) < (a1.size : Int) then (some ((bt a1 (a0.size : Int)) == 47)) else (none)) else (some false)) else (none)) else (none)) else (some false)
set_option maxHeartbeats 8000000 in
set_option maxRecDepth 100000 in
theorem spec_l5Begins.calls (a0 : ByteArray) (a1 : ByteArray) (r : Bool) (w : World) (h : spec_l5Begins.f a0 a1 = some r) :
  Calls Tryd.prog 49 #[.string a0, .string a1] w fun e w' => e = .returned (.bool r) ∧ Drawn0 w w' := by
 have H : (if (a1.size : Int) > (a0.size : Int) then (if 0 ≤ (a0.size : Int) then (if (a0.size : Int) ≤ (a1.size : Int) then (if (a1.extract 0 ((a0.size : Int) : Int).toNat).toList = a0.toList then (if (a0.size : Int) < (a1.size : Int) then (some ((bt a1 (a0.size : Int)) == 47)) else (none)) else (some false)) else (none)) else (none)) else (some false)) = some r := h
 clear h
 by_cases c3 : (a1.size : Int) > (a0.size : Int)
 ·rw [if_pos c3] at H
  have c3b0 : decide ((a0.size : Int) < (a1.size : Int)) = true := decide_eq_true c3
  have c3b1 : decide (a0.size < a1.size) = true := decide_eq_true (Int.ofNat_lt.mp c3)
  clear c3
  by_cases c4 : 0 ≤ (a0.size : Int)
  ·rw [if_pos c4] at H
   have c4b0 := eq_true c4
   have c4b1 : decide (0 ≤ (a0.size : Int)) = true := decide_eq_true c4
   clear c4
   by_cases c5 : (a0.size : Int) ≤ (a1.size : Int)
   ·rw [if_pos c5] at H
    have c5b0 := eq_true c5
    have c5b1 : decide ((a0.size : Int) ≤ (a1.size : Int)) = true := decide_eq_true c5
    clear c5
    by_cases c6 : (a1.extract 0 ((a0.size : Int) : Int).toNat).toList = a0.toList
    ·rw [if_pos c6] at H
     have c6b0 : ((a1.extract 0 ((a0.size : Int) : Int).toNat).toList == a0.toList) = true := beq_iff_eq.mpr c6
     have c6b0n := c6b0
     (try simp only [Int.toNat_natCast] at c6b0n)
     have c6b1 : ((a1.extract 0 ((a0.size : Int) : Int).toNat).toList != a0.toList) = false := bne_eq_false_iff_eq.mpr c6
     have c6b1n := c6b1
     (try simp only [Int.toNat_natCast] at c6b1n)
     clear c6
     by_cases c7 : (a0.size : Int) < (a1.size : Int)
     ·rw [if_pos c7] at H
      have c7b0 : decide ((a0.size : Int) < (a1.size : Int)) = true := decide_eq_true c7
      have c7b1 : decide (a0.size < a1.size) = true := decide_eq_true (Int.ofNat_lt.mp c7)
      clear c7
      obtain rfl := Option.some.inj H
      have p8 : 0 ≤ ((a0.size : Int) : Int) := oda
      have q8 : (a0.size : Int) < (a1.size : Int) := oda
      have hx8 := bt_at a1 (a0.size : Int)
      (try have hx8n := hx8 (by omega))
      (try simp only [Int.toNat_natCast] at hx8n)
      replace p8 := eq_true p8
      replace q8 := eq_true q8
      go_enter Tryd.func49, Tryd.ntmps49
      go_wp2
      go_ret
      exact ⟨Ye1, dz⟩
     ·rw [if_neg c7] at H
      exact absurd H (by simp)
    ·rw [if_neg c6] at H
     have c6b0 : ((a1.extract 0 ((a0.size : Int) : Int).toNat).toList == a0.toList) = false := beq_eq_false_iff_ne.mpr c6
     have c6b0n := c6b0
     (try simp only [Int.toNat_natCast] at c6b0n)
     have c6b1 : ((a1.extract 0 ((a0.size : Int) : Int).toNat).toList != a0.toList) = true := bne_iff_ne.mpr c6
     have c6b1n := c6b1
     (try simp only [Int.toNat_natCast] at c6b1n)
     obtain rfl := Option.some.inj H
     go_enter Tryd.func49, Tryd.ntmps49
     go_wp2
     go_ret
     exact ⟨Ye1, dz⟩
   ·rw [if_neg c5] at H
    exact absurd H (by simp)
  ·rw [if_neg c4] at H
   exact absurd H (by simp)
 ·rw [if_neg c3] at H
  have c3b0 : decide ((a0.size : Int) < (a1.size : Int)) = false := decide_eq_false c3
  have c3b1 : decide (a0.size < a1.size) = false := decide_eq_false (fun h => c3 (Int.ofNat_lt.mpr h))
  clear c3
  obtain rfl := Option.some.inj H
  go_enter Tryd.func49, Tryd.ntmps49
  go_wp2
  go_ret
  exact ⟨Ye1, dz⟩

end Go.Proofs.YtkdghhkpmkfjhaaDoor.P


namespace Go.Proofs.YtkdghhkpmkfjhaaDoor.P
open Go.RowKit Go.Proofs.YtkdghhkpmkfjhaaDoorW.PrintWords Go.Proofs.YtkdghhkpmkfjhaaDoorW.PrintLast Go.Proofs.YtkdghhkpmkfjhaaDoorW.PrintMore
attribute [local go_sem] max2_int min2_int max_two min_two max_three min_three max_four min_four
set_option linter.unusedVariables false
set_option linter.unusedSimpArgs false

/-! ### spec_l1In: function 107 -/
def spec_l1In.f (a0 : Int) (a1 : Int) (a2 : Int) : Option (Bool) := if a0 ≥ a1 then (some (decide (a0 ≤ a2))) else (some false)
set_option maxHeartbeats 8000000 in
set_option maxRecDepth 100000 in
theorem spec_l1In.calls (a0 : Int) (a1 : Int) (a2 : Int) (r : Bool) (w : World) (h : spec_l1In.f a0 a1 a2 = some r) :
  Calls Tryd.prog 107 #[.int .i64 a0, .int .i64 a1, .int .i64 a2] w fun e w' => e = .returned (.bool r) ∧ Drawn0 w w' := by
 have H : (if a0 ≥ a1 then (some (decide (a0 ≤ a2))) else (some false)) = some r := h
 clear h
 by_cases c4 : a0 ≥ a1
 ·rw [if_pos c4] at H
  have c4b0 : decide (a1 ≤ a0) = true := decide_eq_true c4
  clear c4
  obtain rfl := Option.some.inj H
  go_enter Tryd.func107, Tryd.ntmps107
  go_wp2
  go_ret
  exact ⟨Ye1, dz⟩
 ·rw [if_neg c4] at H
  have c4b0 : decide (a1 ≤ a0) = false := decide_eq_false c4
  clear c4
  obtain rfl := Option.some.inj H
  go_enter Tryd.func107, Tryd.ntmps107
  go_wp2
  go_ret
  exact ⟨Ye1, dz⟩

end Go.Proofs.YtkdghhkpmkfjhaaDoor.P


namespace Go.Proofs.YtkdghhkpmkfjhaaDoor.P
open Go.RowKit Go.Proofs.YtkdghhkpmkfjhaaDoorW.PrintWords Go.Proofs.YtkdghhkpmkfjhaaDoorW.PrintLast Go.Proofs.YtkdghhkpmkfjhaaDoorW.PrintMore
attribute [local go_sem] max2_int min2_int max_two min_two max_three min_three max_four min_four
set_option linter.unusedVariables false
set_option linter.unusedSimpArgs false

/-! ### spec_l4PartOk: function 92 -/
mutual
def spec_l4PartOk.j0 : Nat → ByteArray → Bool → Bool → Option (Bool)
 | 0, _, _, _ => none
 | k + 1, x0, x1, x17 => if x17 = true then (some false) else (spec_l4PartOk.l0 k x0 x1 0)
def spec_l4PartOk.l0 : Nat → ByteArray → Bool → Int → Option (Bool)
 | 0, _, _, _ => none
 | k + 1, x0, x1, x5 => if x5 < (x0.size : Int) then (if 0 ≤ x5 then (if (bt x0 x5) < 33 then (some false) else (if (bt x0 x5) > 126 then (some false) else (if (bt x0 x5) = 47 then (some false) else (if (bt x0 x5) = 34 then (some false) else (if x1 = true then (spec_l4PartOk.l0 k x0 x1 (wrap64 (x5 + 1))) else (if (bt x0 x5) = 42 then (some false) else (if (bt x0 x5) = 63 then (some false) else (spec_l4PartOk.l0 k x0 x1 (wrap64 (x5 + 1)))))))))) else (none)) else (some true)
end
def spec_l4PartOk.f (k : Nat) (a0 : ByteArray) (a1 : Bool) : Option (Bool) := (spec_l1In.f (a0.size : Int) 1 20).bind fun t115 => (if t115 = true then (if a0.toList = ([46] : List UInt8) then (spec_l4PartOk.j0 k a0 a1 true) else (spec_l4PartOk.j0 k a0 a1 (a0.toList == ([46, 46] : List UInt8)))) else (spec_l4PartOk.j0 k a0 a1 true))
theorem spec_l4PartOk.mono_l : ∀ k, (∀ y0 y1 y2, LeO (spec_l4PartOk.j0 k y0 y1 y2) (spec_l4PartOk.j0 (k + 1) y0 y1 y2)) ∧ (∀ y0 y1 y2, LeO (spec_l4PartOk.l0 k y0 y1 y2) (spec_l4PartOk.l0 (k + 1) y0 y1 y2))
 | 0 => ⟨fun _ _ _ r h => by simp [spec_l4PartOk.j0] at h, fun _ _ _ r h => by simp [spec_l4PartOk.l0] at h⟩
 | k + 1 => by
  obtain ⟨ih0, ih1⟩ := spec_l4PartOk.mono_l k
  refine ⟨?_, ?_⟩
  ·intro y0 y1 y2
   unfold spec_l4PartOk.j0
   repeat' first
   | (with_reducible exact ih0 _ _ _)
   | (with_reducible exact ih1 _ _ _)
   | (with_reducible exact LeO.refl _)
   | (with_reducible exact LeO.none _)
   | (with_reducible refine LeO.ite ?_ ?_)
   | (with_reducible refine LeO.bind ?_ (fun _ => ?_))
   | exact ih0 _ _ _
   | exact ih1 _ _ _
   | exact LeO.none _
   | refine LeO.ite ?_ ?_
   | refine LeO.bind ?_ (fun _ => ?_)
  ·intro y0 y1 y2
   unfold spec_l4PartOk.l0
   repeat' first
   | (with_reducible exact ih0 _ _ _)
   | (with_reducible exact ih1 _ _ _)
   | (with_reducible exact LeO.refl _)
   | (with_reducible exact LeO.none _)
   | (with_reducible refine LeO.ite ?_ ?_)
   | (with_reducible refine LeO.bind ?_ (fun _ => ?_))
   | exact ih0 _ _ _
   | exact ih1 _ _ _
   | exact LeO.none _
   | refine LeO.ite ?_ ?_
   | refine LeO.bind ?_ (fun _ => ?_)
theorem spec_l4PartOk.mono : ∀ a0 a1 k, LeO (spec_l4PartOk.f k a0 a1) (spec_l4PartOk.f (k + 1) a0 a1) := by
 intro a0 a1 k
 obtain ⟨ih0, ih1⟩ := spec_l4PartOk.mono_l k
 unfold spec_l4PartOk.f
 repeat' first
   | (with_reducible exact ih0 _ _ _)
   | (with_reducible exact ih1 _ _ _)
   | (with_reducible exact LeO.refl _)
   | (with_reducible exact LeO.none _)
   | (with_reducible refine LeO.ite ?_ ?_)
   | (with_reducible refine LeO.bind ?_ (fun _ => ?_))
   | exact ih0 _ _ _
   | exact ih1 _ _ _
   | exact LeO.none _
   | refine LeO.ite ?_ ?_
   | refine LeO.bind ?_ (fun _ => ?_)
set_option maxHeartbeats 8000000 in
set_option maxRecDepth 100000 in
theorem spec_l4PartOk.calls (k : Nat) (a0 : ByteArray) (a1 : Bool) (r : Bool) (w : World) (h : spec_l4PartOk.f k a0 a1 = some r) :
  Calls Tryd.prog 92 #[.string a0, .bool a1] w fun e w' => e = .returned (.bool r) ∧ Drawn0 w w' := by
 have H : ((spec_l1In.f (a0.size : Int) 1 20).bind fun t115 => (if t115 = true then (if a0.toList = ([46] : List UInt8) then (spec_l4PartOk.j0 k a0 a1 true) else (spec_l4PartOk.j0 k a0 a1 (a0.toList == ([46, 46] : List UInt8)))) else (spec_l4PartOk.j0 k a0 a1 true))) = some r := h
 clear h
 have HC3 := Aside0.mk H
 clear H
 go_enter Tryd.func92, Tryd.ntmps92
 go_upto_region 1 with (fail)
 go_cut [17] (fun v17 wc => ∃ (kq : Nat) (x17_2 : Bool), v17 = .bool x17_2 ∧ Aside0 (spec_l4PartOk.j0 kq a0 a1 x17_2 = some r) ∧ Aside0 (kq ≤ k) ∧ Drawn0 w wc)
 case first =>
  have H := HC3.out
  clear HC3
  replace H := Option.bind_eq_some_iff.mp H
  obtain ⟨t115, A40, H⟩ := H
  replace H : (if t115 = true then (if a0.toList = ([46] : List UInt8) then (spec_l4PartOk.j0 k a0 a1 true) else (spec_l4PartOk.j0 k a0 a1 (a0.toList == ([46, 46] : List UInt8)))) else (spec_l4PartOk.j0 k a0 a1 true)) = some r := H
  have A4 := Aside0.mk A40
  clear A40
  by_cases c5 : t115 = true
  ·subst c5
   have H1 : (if a0.toList = ([46] : List UInt8) then (spec_l4PartOk.j0 k a0 a1 true) else (spec_l4PartOk.j0 k a0 a1 (a0.toList == ([46, 46] : List UInt8)))) = some r := by rw [if_pos rfl] at H; exact H
   clear H
   have H := H1
   clear H1
   by_cases c6 : a0.toList = ([46] : List UInt8)
   ·rw [if_pos c6] at H
    have c6b0 : (a0.toList == ([46] : List UInt8)) = true := beq_iff_eq.mpr c6
    have c6b1 : (a0.toList != ([46] : List UInt8)) = false := bne_eq_false_iff_eq.mpr c6
    clear c6
    (first | rw [c6b0] | (simp only [i64_w, i32_w]; rw [c6b0]) | skip)
    have H' := Aside0.mk H
    clear H
    go_wp2_with (first | ((with_reducible refine gc 107 rfl ?_); refine gl (some 8) _ (#[.int .i64 (a0.size : Int), .int .i64 1, .int .i64 20]) Tryd.func107 ?_; (with_reducible refine (spec_l1In.calls (a0.size : Int) 1 20 true _ A4.out).mono ?_); rintro e w' ⟨rfl, ⟨nd, rfl⟩⟩; refine ⟨_, rfl, ?_⟩))
    go_meet
    case rel => exact ⟨_, (true), Ye1, H', ⟨by first | omega | exact Nat.le_refl _⟩, dz⟩
   ·rw [if_neg c6] at H
    have c6b0 : (a0.toList == ([46] : List UInt8)) = false := beq_eq_false_iff_ne.mpr c6
    have c6b1 : (a0.toList != ([46] : List UInt8)) = true := bne_iff_ne.mpr c6
    (first | rw [c6b0] | (simp only [i64_w, i32_w]; rw [c6b0]) | skip)
    have H' := Aside0.mk H
    clear H
    go_wp2_with (first | ((with_reducible refine gc 107 rfl ?_); refine gl (some 8) _ (#[.int .i64 (a0.size : Int), .int .i64 1, .int .i64 20]) Tryd.func107 ?_; (with_reducible refine (spec_l1In.calls (a0.size : Int) 1 20 true _ A4.out).mono ?_); rintro e w' ⟨rfl, ⟨nd, rfl⟩⟩; refine ⟨_, rfl, ?_⟩))
    go_meet
    case rel => exact ⟨_, ((a0.toList == ([46, 46] : List UInt8))), Ye1, H', ⟨by first | omega | exact Nat.le_refl _⟩, dz⟩
  ·replace c5 := Bool.eq_false_iff.mpr c5
   subst c5
   have H1 : (spec_l4PartOk.j0 k a0 a1 true) = some r := by rw [if_neg (show ¬ (false = true) by decide)] at H; exact H
   clear H
   have H := H1
   clear H1
   have H' := Aside0.mk H
   clear H
   go_wp2_with (first | ((with_reducible refine gc 107 rfl ?_); refine gl (some 8) _ (#[.int .i64 (a0.size : Int), .int .i64 1, .int .i64 20]) Tryd.func107 ?_; (with_reducible refine (spec_l1In.calls (a0.size : Int) 1 20 false _ A4.out).mono ?_); rintro e w' ⟨rfl, ⟨nd, rfl⟩⟩; refine ⟨_, rfl, ?_⟩))
   go_meet
   case rel => exact ⟨_, (true), Ye1, H', ⟨by first | omega | exact Nat.le_refl _⟩, dz⟩
 case rest =>
  clear HC3
  try clear c1
  try clear p2
  try clear c5
  try clear c6
  try clear c6b0
  try clear c6b1
  obtain ⟨kq, x17_2, rfl, HA, HJ2, ⟨mc2, rfl⟩⟩ := hcut
  cases kq with
  | zero => exact absurd HA.out (by simp [spec_l4PartOk.j0])
  | succ kj2 =>
   have H := HA.out
   clear HA
   simp only [spec_l4PartOk.j0] at H
   by_cases c7 : x17_2 = true
   ·subst c7
    have H1 : (some false) = some r := by rw [if_pos rfl] at H; exact H
    clear H
    have H := H1
    clear H1
    obtain rfl := Option.some.inj H
    go_wp2
    go_ret
    exact ⟨Ye1, dz⟩
   ·replace c7 := Bool.eq_false_iff.mpr c7
    subst c7
    have H1 : (spec_l4PartOk.l0 kj2 a0 a1 0) = some r := by rw [if_neg (show ¬ (false = true) by decide)] at H; exact H
    clear H
    have H := H1
    clear H1
    have H' := Aside0.mk H
    clear H
    go_wp2
    go_loopg [5] kj2 (fun kq v5 w' => ∃ (x5_2 : Int), v5 = .int .i64 x5_2 ∧ Aside0 (spec_l4PartOk.l0 kq a0 a1 x5_2 = some r) ∧ Aside0 (kq ≤ kj2) ∧ Drawn0 w w')
    case atStart => exact ⟨(0), Ye1, H', ⟨Nat.le_refl _⟩, dz⟩
    case round =>
     clear H'
     try clear c1
     try clear c2
     try clear p2
     try clear c5
     try clear c6
     try clear c6b0
     try clear c6b1
     try clear c7
     try clear p2
     obtain ⟨x5_2, rfl, HA, HK2, ⟨m2, rfl⟩⟩ := hrel
     cases gk with
     | zero => exact absurd HA.out (by simp [spec_l4PartOk.l0])
     | succ k2 =>
      have H := HA.out
      clear HA
      simp only [spec_l4PartOk.l0] at H
      by_cases c8 : x5_2 < (a0.size : Int)
      ·rw [if_pos c8] at H
       have c8b0 : decide (x5_2 < (a0.size : Int)) = true := decide_eq_true c8
       clear c8
       by_cases c9 : 0 ≤ x5_2
       ·rw [if_pos c9] at H
        have c9b0 : decide (0 ≤ x5_2) = true := decide_eq_true c9
        clear c9
        by_cases c11 : (bt a0 x5_2) < 33
        ·rw [if_pos c11] at H
         have c11b0 : decide ((bt a0 x5_2) < 33) = true := decide_eq_true c11
         clear c11
         obtain rfl := Option.some.inj H
         have p10 : 0 ≤ (x5_2 : Int) := oda
         have q10 : x5_2 < (a0.size : Int) := oda
         have hx10 := bt_at a0 x5_2
         replace p10 := eq_true p10
         replace q10 := eq_true q10
         go_wp2
         go_ret
         exact ⟨Ye1, dz⟩
        ·rw [if_neg c11] at H
         have c11b0 : decide ((bt a0 x5_2) < 33) = false := decide_eq_false c11
         clear c11
         by_cases c13 : (bt a0 x5_2) > 126
         ·rw [if_pos c13] at H
          have c13b0 : decide (126 < (bt a0 x5_2)) = true := decide_eq_true c13
          clear c13
          obtain rfl := Option.some.inj H
          have p10 : 0 ≤ (x5_2 : Int) := oda
          have q10 : x5_2 < (a0.size : Int) := oda
          have hx10 := bt_at a0 x5_2
          replace p10 := eq_true p10
          replace q10 := eq_true q10
          have p12 : 0 ≤ (x5_2 : Int) := oda
          have q12 : x5_2 < (a0.size : Int) := oda
          have hx12 := bt_at a0 x5_2
          replace p12 := eq_true p12
          replace q12 := eq_true q12
          go_wp2
          go_ret
          exact ⟨Ye1, dz⟩
         ·rw [if_neg c13] at H
          have c13b0 : decide (126 < (bt a0 x5_2)) = false := decide_eq_false c13
          clear c13
          by_cases c15 : (bt a0 x5_2) = 47
          ·rw [if_pos c15] at H
           have c15b0 : ((bt a0 x5_2) == 47) = true := beq_iff_eq.mpr c15
           have c15b1 : ((bt a0 x5_2) != 47) = false := bne_eq_false_iff_eq.mpr c15
           clear c15
           obtain rfl := Option.some.inj H
           have p10 : 0 ≤ (x5_2 : Int) := oda
           have q10 : x5_2 < (a0.size : Int) := oda
           have hx10 := bt_at a0 x5_2
           replace p10 := eq_true p10
           replace q10 := eq_true q10
           have p12 : 0 ≤ (x5_2 : Int) := oda
           have q12 : x5_2 < (a0.size : Int) := oda
           have hx12 := bt_at a0 x5_2
           replace p12 := eq_true p12
           replace q12 := eq_true q12
           have p14 : 0 ≤ (x5_2 : Int) := oda
           have q14 : x5_2 < (a0.size : Int) := oda
           have hx14 := bt_at a0 x5_2
           replace p14 := eq_true p14
           replace q14 := eq_true q14
           go_wp2
           go_ret
           exact ⟨Ye1, dz⟩
          ·rw [if_neg c15] at H
           have c15b0 : ((bt a0 x5_2) == 47) = false := beq_eq_false_iff_ne.mpr c15
           have c15b1 : ((bt a0 x5_2) != 47) = true := bne_iff_ne.mpr c15
           by_cases c17 : (bt a0 x5_2) = 34
           ·rw [if_pos c17] at H
            have c17b0 : ((bt a0 x5_2) == 34) = true := beq_iff_eq.mpr c17
            have c17b1 : ((bt a0 x5_2) != 34) = false := bne_eq_false_iff_eq.mpr c17
            clear c17
            obtain rfl := Option.some.inj H
            have p10 : 0 ≤ (x5_2 : Int) := oda
            have q10 : x5_2 < (a0.size : Int) := oda
            have hx10 := bt_at a0 x5_2
            replace p10 := eq_true p10
            replace q10 := eq_true q10
            have p12 : 0 ≤ (x5_2 : Int) := oda
            have q12 : x5_2 < (a0.size : Int) := oda
            have hx12 := bt_at a0 x5_2
            replace p12 := eq_true p12
            replace q12 := eq_true q12
            have p14 : 0 ≤ (x5_2 : Int) := oda
            have q14 : x5_2 < (a0.size : Int) := oda
            have hx14 := bt_at a0 x5_2
            replace p14 := eq_true p14
            replace q14 := eq_true q14
            have p16 : 0 ≤ (x5_2 : Int) := oda
            have q16 : x5_2 < (a0.size : Int) := oda
            have hx16 := bt_at a0 x5_2
            replace p16 := eq_true p16
            replace q16 := eq_true q16
            go_wp2
            go_ret
            exact ⟨Ye1, dz⟩
           ·rw [if_neg c17] at H
            have c17b0 : ((bt a0 x5_2) == 34) = false := beq_eq_false_iff_ne.mpr c17
            have c17b1 : ((bt a0 x5_2) != 34) = true := bne_iff_ne.mpr c17
            by_cases c18 : a1 = true
            ·subst c18
             have H1 : (spec_l4PartOk.l0 k2 a0 true (wrap64 (x5_2 + 1))) = some r := by rw [if_pos rfl] at H; exact H
             clear H
             have H := H1
             clear H1
             have H' := Aside0.mk H
             clear H
             have p10 : 0 ≤ (x5_2 : Int) := oda
             have q10 : x5_2 < (a0.size : Int) := oda
             have hx10 := bt_at a0 x5_2
             replace p10 := eq_true p10
             replace q10 := eq_true q10
             have p12 : 0 ≤ (x5_2 : Int) := oda
             have q12 : x5_2 < (a0.size : Int) := oda
             have hx12 := bt_at a0 x5_2
             replace p12 := eq_true p12
             replace q12 := eq_true q12
             have p14 : 0 ≤ (x5_2 : Int) := oda
             have q14 : x5_2 < (a0.size : Int) := oda
             have hx14 := bt_at a0 x5_2
             replace p14 := eq_true p14
             replace q14 := eq_true q14
             have p16 : 0 ≤ (x5_2 : Int) := oda
             have q16 : x5_2 < (a0.size : Int) := oda
             have hx16 := bt_at a0 x5_2
             replace p16 := eq_true p16
             replace q16 := eq_true q16
             go_wp2
             go_roundg k2
             case measure => have := HJ2.out; have := HK2.out; omega
             case rel => exact ⟨(wrap64 (x5_2 + 1)), Ye1, H', ⟨by have := HJ2.out; have := HK2.out; omega⟩, dz⟩
            ·replace c18 := Bool.eq_false_iff.mpr c18
             subst c18
             have H1 : (if (bt a0 x5_2) = 42 then (some false) else (if (bt a0 x5_2) = 63 then (some false) else (spec_l4PartOk.l0 k2 a0 false (wrap64 (x5_2 + 1))))) = some r := by rw [if_neg (show ¬ (false = true) by decide)] at H; exact H
             clear H
             have H := H1
             clear H1
             by_cases c20 : (bt a0 x5_2) = 42
             ·rw [if_pos c20] at H
              have c20b0 : ((bt a0 x5_2) == 42) = true := beq_iff_eq.mpr c20
              have c20b1 : ((bt a0 x5_2) != 42) = false := bne_eq_false_iff_eq.mpr c20
              clear c20
              obtain rfl := Option.some.inj H
              have p10 : 0 ≤ (x5_2 : Int) := oda
              have q10 : x5_2 < (a0.size : Int) := oda
              have hx10 := bt_at a0 x5_2
              replace p10 := eq_true p10
              replace q10 := eq_true q10
              have p12 : 0 ≤ (x5_2 : Int) := oda
              have q12 : x5_2 < (a0.size : Int) := oda
              have hx12 := bt_at a0 x5_2
              replace p12 := eq_true p12
              replace q12 := eq_true q12
              have p14 : 0 ≤ (x5_2 : Int) := oda
              have q14 : x5_2 < (a0.size : Int) := oda
              have hx14 := bt_at a0 x5_2
              replace p14 := eq_true p14
              replace q14 := eq_true q14
              have p16 : 0 ≤ (x5_2 : Int) := oda
              have q16 : x5_2 < (a0.size : Int) := oda
              have hx16 := bt_at a0 x5_2
              replace p16 := eq_true p16
              replace q16 := eq_true q16
              have p19 : 0 ≤ (x5_2 : Int) := oda
              have q19 : x5_2 < (a0.size : Int) := oda
              have hx19 := bt_at a0 x5_2
              replace p19 := eq_true p19
              replace q19 := eq_true q19
              go_wp2
              go_ret
              exact ⟨Ye1, dz⟩
             ·rw [if_neg c20] at H
              have c20b0 : ((bt a0 x5_2) == 42) = false := beq_eq_false_iff_ne.mpr c20
              have c20b1 : ((bt a0 x5_2) != 42) = true := bne_iff_ne.mpr c20
              by_cases c22 : (bt a0 x5_2) = 63
              ·rw [if_pos c22] at H
               have c22b0 : ((bt a0 x5_2) == 63) = true := beq_iff_eq.mpr c22
               have c22b1 : ((bt a0 x5_2) != 63) = false := bne_eq_false_iff_eq.mpr c22
               clear c22
               obtain rfl := Option.some.inj H
               have p10 : 0 ≤ (x5_2 : Int) := oda
               have q10 : x5_2 < (a0.size : Int) := oda
               have hx10 := bt_at a0 x5_2
               replace p10 := eq_true p10
               replace q10 := eq_true q10
               have p12 : 0 ≤ (x5_2 : Int) := oda
               have q12 : x5_2 < (a0.size : Int) := oda
               have hx12 := bt_at a0 x5_2
               replace p12 := eq_true p12
               replace q12 := eq_true q12
               have p14 : 0 ≤ (x5_2 : Int) := oda
               have q14 : x5_2 < (a0.size : Int) := oda
               have hx14 := bt_at a0 x5_2
               replace p14 := eq_true p14
               replace q14 := eq_true q14
               have p16 : 0 ≤ (x5_2 : Int) := oda
               have q16 : x5_2 < (a0.size : Int) := oda
               have hx16 := bt_at a0 x5_2
               replace p16 := eq_true p16
               replace q16 := eq_true q16
               have p19 : 0 ≤ (x5_2 : Int) := oda
               have q19 : x5_2 < (a0.size : Int) := oda
               have hx19 := bt_at a0 x5_2
               replace p19 := eq_true p19
               replace q19 := eq_true q19
               have p21 : 0 ≤ (x5_2 : Int) := oda
               have q21 : x5_2 < (a0.size : Int) := oda
               have hx21 := bt_at a0 x5_2
               replace p21 := eq_true p21
               replace q21 := eq_true q21
               go_wp2
               go_ret
               exact ⟨Ye1, dz⟩
              ·rw [if_neg c22] at H
               have c22b0 : ((bt a0 x5_2) == 63) = false := beq_eq_false_iff_ne.mpr c22
               have c22b1 : ((bt a0 x5_2) != 63) = true := bne_iff_ne.mpr c22
               have H' := Aside0.mk H
               clear H
               have p10 : 0 ≤ (x5_2 : Int) := oda
               have q10 : x5_2 < (a0.size : Int) := oda
               have hx10 := bt_at a0 x5_2
               replace p10 := eq_true p10
               replace q10 := eq_true q10
               have p12 : 0 ≤ (x5_2 : Int) := oda
               have q12 : x5_2 < (a0.size : Int) := oda
               have hx12 := bt_at a0 x5_2
               replace p12 := eq_true p12
               replace q12 := eq_true q12
               have p14 : 0 ≤ (x5_2 : Int) := oda
               have q14 : x5_2 < (a0.size : Int) := oda
               have hx14 := bt_at a0 x5_2
               replace p14 := eq_true p14
               replace q14 := eq_true q14
               have p16 : 0 ≤ (x5_2 : Int) := oda
               have q16 : x5_2 < (a0.size : Int) := oda
               have hx16 := bt_at a0 x5_2
               replace p16 := eq_true p16
               replace q16 := eq_true q16
               have p19 : 0 ≤ (x5_2 : Int) := oda
               have q19 : x5_2 < (a0.size : Int) := oda
               have hx19 := bt_at a0 x5_2
               replace p19 := eq_true p19
               replace q19 := eq_true q19
               have p21 : 0 ≤ (x5_2 : Int) := oda
               have q21 : x5_2 < (a0.size : Int) := oda
               have hx21 := bt_at a0 x5_2
               replace p21 := eq_true p21
               replace q21 := eq_true q21
               go_wp2
               go_roundg k2
               case measure => have := HJ2.out; have := HK2.out; omega
               case rel => exact ⟨(wrap64 (x5_2 + 1)), Ye1, H', ⟨by have := HJ2.out; have := HK2.out; omega⟩, dz⟩
       ·rw [if_neg c9] at H
        exact absurd H (by simp)
      ·rw [if_neg c8] at H
       have c8b0 : decide (x5_2 < (a0.size : Int)) = false := decide_eq_false c8
       clear c8
       obtain rfl := Option.some.inj H
       go_wp2
       go_ret
       exact ⟨Ye1, dz⟩

end Go.Proofs.YtkdghhkpmkfjhaaDoor.P


namespace Go.Proofs.YtkdghhkpmkfjhaaDoor.P
open Go.RowKit Go.Proofs.YtkdghhkpmkfjhaaDoorW.PrintWords Go.Proofs.YtkdghhkpmkfjhaaDoorW.PrintLast Go.Proofs.YtkdghhkpmkfjhaaDoorW.PrintMore
attribute [local go_sem] max2_int min2_int max_two min_two max_three min_three max_four min_four
set_option linter.unusedVariables false
set_option linter.unusedSimpArgs false

/-! ### spec_l4Parts: function 85 -/
def spec_l4Parts.l0 : Nat → ByteArray → List ByteArray → Int → Int → Option (List ByteArray)
 | 0, _, _, _, _ => none
 | k + 1, x0, x3, x4, x5 => if x5 < (x0.size : Int) then (if 0 ≤ x5 then (if (bt x0 x5) = 47 then (if 0 ≤ x4 then (if x4 ≤ x5 then (if x5 ≤ (x0.size : Int) then (if x3.length < 8796093022208 then (spec_l4Parts.l0 k x0 (x3 ++ [x0.extract (x4 : Int).toNat (x5 : Int).toNat]) (wrap64 (x5 + 1)) (wrap64 (x5 + 1))) else (none)) else (none)) else (none)) else (none)) else (spec_l4Parts.l0 k x0 x3 x4 (wrap64 (x5 + 1)))) else (none)) else (if 0 ≤ x4 then (if x4 ≤ (x0.size : Int) then (if x3.length < 8796093022208 then (some (x3 ++ [x0.extract (x4 : Int).toNat x0.size])) else (none)) else (none)) else (none))
def spec_l4Parts.f (k : Nat) (a0 : ByteArray) : Option (List ByteArray) := spec_l4Parts.l0 k a0 (([] : List ByteArray)) 0 0
theorem spec_l4Parts.mono_l : ∀ k, (∀ y0 y1 y2 y3, LeO (spec_l4Parts.l0 k y0 y1 y2 y3) (spec_l4Parts.l0 (k + 1) y0 y1 y2 y3))
 | 0 => fun _ _ _ _ r h => by simp [spec_l4Parts.l0] at h
 | k + 1 => by
  have ih0 := spec_l4Parts.mono_l k
  ·intro y0 y1 y2 y3
   unfold spec_l4Parts.l0
   repeat' first
   | (with_reducible exact ih0 _ _ _ _)
   | (with_reducible exact LeO.refl _)
   | (with_reducible exact LeO.none _)
   | (with_reducible refine LeO.ite ?_ ?_)
   | (with_reducible refine LeO.bind ?_ (fun _ => ?_))
   | exact ih0 _ _ _ _
   | exact LeO.none _
   | refine LeO.ite ?_ ?_
   | refine LeO.bind ?_ (fun _ => ?_)
theorem spec_l4Parts.mono : ∀ a0 k, LeO (spec_l4Parts.f k a0) (spec_l4Parts.f (k + 1) a0) := by
 intro a0 k
 have ih0 := spec_l4Parts.mono_l k
 unfold spec_l4Parts.f
 repeat' first
   | (with_reducible exact ih0 _ _ _ _)
   | (with_reducible exact LeO.refl _)
   | (with_reducible exact LeO.none _)
   | (with_reducible refine LeO.ite ?_ ?_)
   | (with_reducible refine LeO.bind ?_ (fun _ => ?_))
   | exact ih0 _ _ _ _
   | exact LeO.none _
   | refine LeO.ite ?_ ?_
   | refine LeO.bind ?_ (fun _ => ?_)
set_option maxHeartbeats 8000000 in
set_option maxRecDepth 100000 in
theorem spec_l4Parts.calls (k : Nat) (a0 : ByteArray) (r : List ByteArray) (w : World) (h : spec_l4Parts.f k a0 = some r) :
  Calls Tryd.prog 85 #[.string a0] w fun e w' => ∃ v0_ : Value, e = .returned (v0_) ∧ Kd.R Kd.string 9 w' w.heap.size (fun _ => True) v0_ r ∧ Below w.heap.size w w' := by
 have HB := Aside0.mk (Below.refl w.heap.size w)
 have H : (spec_l4Parts.l0 k a0 (([] : List ByteArray)) 0 0) = some r := h
 clear h
 obtain ⟨y106, hy106⟩ : ∃ y_ : List ByteArray, y_ = (([] : List ByteArray)) := ⟨_, rfl⟩
 replace H : (spec_l4Parts.l0 k a0 y106 0 0) = some r := by first | (rw [hy106]; with_reducible exact H) | (have H2_ := (Option.bind_some _ _).symm.trans H; rw [hy106]; with_reducible exact H2_) | (have H2_ := (Option.bind_some _ _).symm.trans H; with_reducible exact H2_) | with_reducible exact H | (rw [hy106]; exact H) | exact H
 have Ny106 := Aside0.mk hy106
 clear hy106
 have H' := Aside0.mk H
 clear H
 go_enter Tryd.func85, Tryd.ntmps85
 go_wp2_with (first | ((with_reducible refine gd 6 rfl ?_); refine Kd.R_lit Kd.string _ 9 ?hg (N := 6) ?hd (xs := ([] : List ByteArray)) (inner := []) (ok := fun _ => True) (okp := fun _ => True) ?hr ?hp (fun _ hk => hk) trivial (Below.refl _ _) (Nat.le_refl _) (by simp) ?_; (case hd => rfl); (case hg => rfl); (case hr => first | (go_simp; done) | (go_simp; rfl)); (case hp => exact (Reps.none _ _)); intro v107 w2 ho3 hb hg_ hnew_; clear hg_ hnew_; (first | rw [← Ny106.out] at ho3 | (simp only [Int.reduceToNat] at ho3; rw [← Ny106.out] at ho3)); refine Ya2 (Kd.R_lower ho3 (below_size (be HB.out))) (below_step (be HB.out) hb) ?_; clear HB; intro HO108 HB; clear hb ho3))
 go_loopg [3, 4, 5] k (fun kq v3 v4 v5 w' => ∃ (x3_1 : List ByteArray) (x4_1 : Int) (x5_1 : Int), v4 = .int .i64 x4_1 ∧ v5 = .int .i64 x5_1 ∧ Aside0 (spec_l4Parts.l0 kq a0 x3_1 x4_1 x5_1 = some r) ∧ Aside0 (kq ≤ k) ∧ Aside0 (Kd.R Kd.string 9 w' w.heap.size (fun _ => True) v3 x3_1) ∧ Aside0 (Below w.heap.size w w'))
 case atStart => exact ⟨(y106), (0), (0), Ye1, Ye1, H', ⟨Nat.le_refl _⟩, ⟨kr HO108.out⟩, ⟨be HB.out⟩⟩
 case round =>
  clear H'
  try clear p2
  obtain ⟨x3_1, x4_1, x5_1, rfl, rfl, HA, HK1, HO_3, HB⟩ := hrel
  cases gk with
  | zero => exact absurd HA.out (by simp [spec_l4Parts.l0])
  | succ k1 =>
   have H := HA.out
   clear HA
   simp only [spec_l4Parts.l0] at H
   by_cases c4 : x5_1 < (a0.size : Int)
   ·rw [if_pos c4] at H
    have c4b0 : decide (x5_1 < (a0.size : Int)) = true := decide_eq_true c4
    clear c4
    by_cases c5 : 0 ≤ x5_1
    ·rw [if_pos c5] at H
     have c5b0 : decide (0 ≤ x5_1) = true := decide_eq_true c5
     clear c5
     by_cases c7 : (bt a0 x5_1) = 47
     ·rw [if_pos c7] at H
      have c7b0 : ((bt a0 x5_1) == 47) = true := beq_iff_eq.mpr c7
      have c7b1 : ((bt a0 x5_1) != 47) = false := bne_eq_false_iff_eq.mpr c7
      clear c7
      by_cases c8 : 0 ≤ x4_1
      ·rw [if_pos c8] at H
       have c8b0 := eq_true c8
       have c8b1 : decide (0 ≤ x4_1) = true := decide_eq_true c8
       clear c8
       by_cases c9 : x4_1 ≤ x5_1
       ·rw [if_pos c9] at H
        have c9b0 := eq_true c9
        have c9b1 : decide (x4_1 ≤ x5_1) = true := decide_eq_true c9
        clear c9
        by_cases c10 : x5_1 ≤ (a0.size : Int)
        ·rw [if_pos c10] at H
         have c10b0 := eq_true c10
         have c10b1 : decide (x5_1 ≤ (a0.size : Int)) = true := decide_eq_true c10
         clear c10
         by_cases c11 : x3_1.length < 8796093022208
         ·rw [if_pos c11] at H
          have LMc11 := Aside0.mk c11
          clear c11
          obtain ⟨y109, hy109⟩ : ∃ y_ : List ByteArray, y_ = (x3_1 ++ [a0.extract (x4_1 : Int).toNat (x5_1 : Int).toNat]) := ⟨_, rfl⟩
          replace H : (spec_l4Parts.l0 k1 a0 y109 (wrap64 (x5_1 + 1)) (wrap64 (x5_1 + 1))) = some r := by first | (rw [hy109]; with_reducible exact H) | (have H2_ := (Option.bind_some _ _).symm.trans H; rw [hy109]; with_reducible exact H2_) | (have H2_ := (Option.bind_some _ _).symm.trans H; with_reducible exact H2_) | with_reducible exact H | (rw [hy109]; exact H) | exact H
          have Ny109 := Aside0.mk hy109
          clear hy109
          have H' := Aside0.mk H
          clear H
          have p6 : 0 ≤ (x5_1 : Int) := oda
          have q6 : x5_1 < (a0.size : Int) := oda
          have hx6 := bt_at a0 x5_1
          replace p6 := eq_true p6
          replace q6 := eq_true q6
          go_wp2_with (first | ((with_reducible refine gate_builtin (b := .append) (xs := #[.tmp 17, .tmp 22]) rfl ?_); at_builtin; refine Kd.R_append Kd.string (w0 := w) w.heap.size rfl (.tmp 17) (.tmp 22) 56 9 (.string ⟨#[]⟩) 16 rfl Tryd.underlying56 info9 rfl (by decide) (by omega) u3 x3_1 (a0.extract (x4_1 : Int).toNat (x5_1 : Int).toNat) [.string (a0.extract (x4_1 : Int).toNat (x5_1 : Int).toNat)] (fun _ => True) (fun _ => False) rfl rfl ?aP (fun _ hk => hk.elim) ?aF ?aO ?aB ?aS ?aL ?_; (case aP => exact rfl); (case aB => exact (be HB.out)); (case aF => exact (fun _ _ => trivial)); (case aO => exact (kr HO_3.out)); (case aS => exact (below_size (be HB.out))); (case aL => have := LMc11.out; omega); intro v110 w12 ho hb hg hat; rw [← Ny109.out] at ho; refine Ya2 (hb) (ho) ?_; clear HB HO_3; intro HB HO111; clear ho hb hg hat))
          go_roundg k1
          case measure => have := HK1.out; omega
          case rel => exact ⟨(y109), (wrap64 (x5_1 + 1)), (wrap64 (x5_1 + 1)), Ye1, Ye1, H', ⟨by have := HK1.out; omega⟩, ⟨kr HO111.out⟩, ⟨be HB.out⟩⟩
         ·rw [if_neg c11] at H
          exact absurd H (by simp)
        ·rw [if_neg c10] at H
         exact absurd H (by simp)
       ·rw [if_neg c9] at H
        exact absurd H (by simp)
      ·rw [if_neg c8] at H
       exact absurd H (by simp)
     ·rw [if_neg c7] at H
      have c7b0 : ((bt a0 x5_1) == 47) = false := beq_eq_false_iff_ne.mpr c7
      have c7b1 : ((bt a0 x5_1) != 47) = true := bne_iff_ne.mpr c7
      have H' := Aside0.mk H
      clear H
      have p6 : 0 ≤ (x5_1 : Int) := oda
      have q6 : x5_1 < (a0.size : Int) := oda
      have hx6 := bt_at a0 x5_1
      replace p6 := eq_true p6
      replace q6 := eq_true q6
      go_wp2
      go_roundg k1
      case measure => have := HK1.out; omega
      case rel => exact ⟨(x3_1), (x4_1), (wrap64 (x5_1 + 1)), Ye1, Ye1, H', ⟨by have := HK1.out; omega⟩, ⟨kr HO_3.out⟩, ⟨be HB.out⟩⟩
    ·rw [if_neg c5] at H
     exact absurd H (by simp)
   ·rw [if_neg c4] at H
    have c4b0 : decide (x5_1 < (a0.size : Int)) = false := decide_eq_false c4
    clear c4
    by_cases c13 : 0 ≤ x4_1
    ·rw [if_pos c13] at H
     have c13b0 := eq_true c13
     have c13b1 : decide (0 ≤ x4_1) = true := decide_eq_true c13
     clear c13
     by_cases c14 : x4_1 ≤ (a0.size : Int)
     ·rw [if_pos c14] at H
      have c14b0 := eq_true c14
      have c14b1 : decide (x4_1 ≤ (a0.size : Int)) = true := decide_eq_true c14
      clear c14
      by_cases c15 : x3_1.length < 8796093022208
      ·rw [if_pos c15] at H
       have LMc15 := Aside0.mk c15
       clear c15
       obtain ⟨y112, hy112⟩ : ∃ y_ : List ByteArray, y_ = (x3_1 ++ [a0.extract (x4_1 : Int).toNat a0.size]) := ⟨_, rfl⟩
       replace H : (some y112) = some r := by first | (rw [hy112]; with_reducible exact H) | (have H2_ := (Option.bind_some _ _).symm.trans H; rw [hy112]; with_reducible exact H2_) | (have H2_ := (Option.bind_some _ _).symm.trans H; with_reducible exact H2_) | with_reducible exact H | (rw [hy112]; exact H) | exact H
       have Ny112 := Aside0.mk hy112
       clear hy112
       obtain rfl := Option.some.inj H
       go_wp2_with (first | ((with_reducible refine gate_builtin (b := .append) (xs := #[.tmp 26, .tmp 30]) rfl ?_); at_builtin; refine Kd.R_append Kd.string (w0 := w) w.heap.size rfl (.tmp 26) (.tmp 30) 56 9 (.string ⟨#[]⟩) 16 rfl Tryd.underlying56 info9 rfl (by decide) (by omega) u3 x3_1 (a0.extract (x4_1 : Int).toNat a0.size) [.string (a0.extract (x4_1 : Int).toNat a0.size)] (fun _ => True) (fun _ => False) rfl rfl ?aP (fun _ hk => hk.elim) ?aF ?aO ?aB ?aS ?aL ?_; (case aP => exact rfl); (case aB => exact (be HB.out)); (case aF => exact (fun _ _ => trivial)); (case aO => exact (kr HO_3.out)); (case aS => exact (below_size (be HB.out))); (case aL => have := LMc15.out; omega); intro v113 w16 ho hb hg hat; rw [← Ny112.out] at ho; refine Ya2 (hb) (ho) ?_; clear HB HO_3; intro HB HO114; clear ho hb hg hat))
       go_ret
       exact ⟨_, Ye2, kr HO114.out, be HB.out⟩
      ·rw [if_neg c15] at H
       exact absurd H (by simp)
     ·rw [if_neg c14] at H
      exact absurd H (by simp)
    ·rw [if_neg c13] at H
     exact absurd H (by simp)

end Go.Proofs.YtkdghhkpmkfjhaaDoor.P


namespace Go.Proofs.YtkdghhkpmkfjhaaDoor.P
open Go.RowKit Go.Proofs.YtkdghhkpmkfjhaaDoorW.PrintWords Go.Proofs.YtkdghhkpmkfjhaaDoorW.PrintLast Go.Proofs.YtkdghhkpmkfjhaaDoorW.PrintMore
attribute [local go_sem] max2_int min2_int max_two min_two max_three min_three max_four min_four
set_option linter.unusedVariables false
set_option linter.unusedSimpArgs false

/-! ### spec_l4Ok: function 74 -/
def spec_l4Ok.l0 : Nat → Bool → List ByteArray → Int → Option (Bool)
 | 0, _, _, _ => none
 | k + 1, x1, x5, x6 => if x6 < (x5.length : Int) then (if 0 ≤ x6 then ((spec_l4PartOk.f k (rdOf ByteArray.empty x5 x6) x1).bind fun t120 => (if t120 = true then (spec_l4Ok.l0 k x1 x5 (wrap64 (x6 + 1))) else (some false))) else (none)) else (some true)
def spec_l4Ok.f (k : Nat) (a0 : ByteArray) (a1 : Bool) : Option (Bool) := if (a0.size : Int) > 126 then (some false) else ((spec_l4Parts.f k a0).bind fun t116 => (if (t116.length : Int) > 6 then (some false) else (spec_l4Ok.l0 k a1 t116 0)))
theorem spec_l4Ok.mono_l : ∀ k, (∀ y0 y1 y2, LeO (spec_l4Ok.l0 k y0 y1 y2) (spec_l4Ok.l0 (k + 1) y0 y1 y2))
 | 0 => fun _ _ _ r h => by simp [spec_l4Ok.l0] at h
 | k + 1 => by
  have ih0 := spec_l4Ok.mono_l k
  ·intro y0 y1 y2
   unfold spec_l4Ok.l0
   repeat' first
   | (with_reducible exact ih0 _ _ _)
   | (with_reducible exact spec_l4PartOk.mono _ _ _)
   | (with_reducible exact spec_l4Parts.mono _ _)
   | (with_reducible exact LeO.refl _)
   | (with_reducible exact LeO.none _)
   | (with_reducible refine LeO.ite ?_ ?_)
   | (with_reducible refine LeO.bind ?_ (fun _ => ?_))
   | exact ih0 _ _ _
   | exact spec_l4PartOk.mono _ _ _
   | exact spec_l4Parts.mono _ _
   | exact LeO.none _
   | refine LeO.ite ?_ ?_
   | refine LeO.bind ?_ (fun _ => ?_)
theorem spec_l4Ok.mono : ∀ a0 a1 k, LeO (spec_l4Ok.f k a0 a1) (spec_l4Ok.f (k + 1) a0 a1) := by
 intro a0 a1 k
 have ih0 := spec_l4Ok.mono_l k
 unfold spec_l4Ok.f
 repeat' first
   | (with_reducible exact ih0 _ _ _)
   | (with_reducible exact spec_l4PartOk.mono _ _ _)
   | (with_reducible exact spec_l4Parts.mono _ _)
   | (with_reducible exact LeO.refl _)
   | (with_reducible exact LeO.none _)
   | (with_reducible refine LeO.ite ?_ ?_)
   | (with_reducible refine LeO.bind ?_ (fun _ => ?_))
   | exact ih0 _ _ _
   | exact spec_l4PartOk.mono _ _ _
   | exact spec_l4Parts.mono _ _
   | exact LeO.none _
   | refine LeO.ite ?_ ?_
   | refine LeO.bind ?_ (fun _ => ?_)
set_option maxHeartbeats 8000000 in
set_option maxRecDepth 100000 in
theorem spec_l4Ok.calls (k : Nat) (a0 : ByteArray) (a1 : Bool) (r : Bool) (w : World) (h : spec_l4Ok.f k a0 a1 = some r) :
  Calls Tryd.prog 74 #[.string a0, .bool a1] w fun e w' => e = .returned (.bool r) ∧ Below w.heap.size w w' := by
 have HB := Aside0.mk (Below.refl w.heap.size w)
 have H : (if (a0.size : Int) > 126 then (some false) else ((spec_l4Parts.f k a0).bind fun t116 => (if (t116.length : Int) > 6 then (some false) else (spec_l4Ok.l0 k a1 t116 0)))) = some r := h
 clear h
 by_cases c3 : (a0.size : Int) > 126
 ·rw [if_pos c3] at H
  have c3b0 : decide (126 < (a0.size : Int)) = true := decide_eq_true c3
  have c3b1 : decide (126 < a0.size) = true := decide_eq_true (by omega)
  clear c3
  obtain rfl := Option.some.inj H
  go_enter Tryd.func74, Tryd.ntmps74
  go_wp2
  go_ret
  exact ⟨Ye2, be HB.out⟩
 ·rw [if_neg c3] at H
  have c3b0 : decide (126 < (a0.size : Int)) = false := decide_eq_false c3
  have c3b1 : decide (126 < a0.size) = false := decide_eq_false (by omega)
  clear c3
  replace H := Option.bind_eq_some_iff.mp H
  obtain ⟨t116, A40, H⟩ := H
  replace H : (if (t116.length : Int) > 6 then (some false) else (spec_l4Ok.l0 k a1 t116 0)) = some r := H
  have A4 := Aside0.mk A40
  clear A40
  by_cases c5 : (t116.length : Int) > 6
  ·rw [if_pos c5] at H
   have c5b0 : decide (6 < (t116.length : Int)) = true := decide_eq_true c5
   have c5b1 : decide (6 < t116.length) = true := decide_eq_true (by omega)
   clear c5
   obtain rfl := Option.some.inj H
   go_enter Tryd.func74, Tryd.ntmps74
   go_wp2_with (first | ((with_reducible refine gc 85 rfl ?_); refine gl (some 11) _ (#[.string a0]) Tryd.func85 ?_; (with_reducible refine (spec_l4Parts.calls k a0 t116 _ A4.out).mono ?_); rintro e w6 ⟨v117, rfl, ho0, hb⟩; refine ⟨_, rfl, ?_⟩; refine Ya2 (Kd.R_lower ho0 (below_size (be HB.out))) (below_step (be HB.out) hb) ?_; clear HB; intro HO118 HB; (try clear hb); (try clear hb2); (try clear hk); (try clear hi); (try clear ho0); obtain ⟨Ao7, co7, eo7⟩ := Kd.R_slice HO118.out; subst eo7))
   go_ret
   exact ⟨Ye2, be HB.out⟩
  ·rw [if_neg c5] at H
   have c5b0 : decide (6 < (t116.length : Int)) = false := decide_eq_false c5
   have c5b1 : decide (6 < t116.length) = false := decide_eq_false (by omega)
   clear c5
   have H' := Aside0.mk H
   clear H
   go_enter Tryd.func74, Tryd.ntmps74
   go_wp2_with (first | ((with_reducible refine gc 85 rfl ?_); refine gl (some 11) _ (#[.string a0]) Tryd.func85 ?_; (with_reducible refine (spec_l4Parts.calls k a0 t116 _ A4.out).mono ?_); rintro e w8 ⟨v117, rfl, ho0, hb⟩; refine ⟨_, rfl, ?_⟩; refine Ya2 (Kd.R_lower ho0 (below_size (be HB.out))) (below_step (be HB.out) hb) ?_; clear HB; intro HO118 HB; (try clear hb); (try clear hb2); (try clear hk); (try clear hi); (try clear ho0); obtain ⟨Ao9, co9, eo9⟩ := Kd.R_slice HO118.out; subst eo9))
   go_loopg [6] k (fun kq v6 w' => ∃ (x6_1 : Int), v6 = .int .i64 x6_1 ∧ Aside0 (spec_l4Ok.l0 kq a1 t116 x6_1 = some r) ∧ Aside0 (kq ≤ k) ∧ Aside0 (Kd.R Kd.string 9 w' w.heap.size (fun _ => True) (.slice Ao9 t116.length co9) t116) ∧ Aside0 (Below w.heap.size w w'))
   case atStart => exact ⟨(0), Ye1, H', ⟨Nat.le_refl _⟩, ⟨kr HO118.out⟩, ⟨be HB.out⟩⟩
   case round =>
    clear H'
    try clear p2
    try clear c3
    try clear c3b0
    try clear c3b1
    try clear c5
    try clear c5b0
    try clear c5b1
    try clear c7
    try clear c8
    obtain ⟨x6_1, rfl, HA, HK1, HO_5, HB⟩ := hrel
    cases gk with
    | zero => exact absurd HA.out (by simp [spec_l4Ok.l0])
    | succ k1 =>
     have H := HA.out
     clear HA
     simp only [spec_l4Ok.l0] at H
     by_cases c10 : x6_1 < (t116.length : Int)
     ·rw [if_pos c10] at H
      have c10b0 : decide (x6_1 < (t116.length : Int)) = true := decide_eq_true c10
      clear c10
      by_cases c11 : 0 ≤ x6_1
      ·rw [if_pos c11] at H
       have c11b0 : decide (0 ≤ x6_1) = true := decide_eq_true c11
       clear c11
       replace H := Option.bind_eq_some_iff.mp H
       obtain ⟨t120, A120, H⟩ := H
       replace H : (if t120 = true then (spec_l4Ok.l0 k1 a1 t116 (wrap64 (x6_1 + 1))) else (some false)) = some r := H
       have A12 := Aside0.mk A120
       clear A120
       by_cases c13 : t120 = true
       ·subst c13
        have H1 : (spec_l4Ok.l0 k1 a1 t116 (wrap64 (x6_1 + 1))) = some r := by rw [if_pos rfl] at H; exact H
        clear H
        have H := H1
        clear H1
        have H' := Aside0.mk H
        clear H
        have p119 : 0 ≤ (x6_1 : Int) := oda
        have q119 : x6_1 < (t116.length : Int) := oda
        obtain ⟨ad119, e119, hx119_0⟩ := Kd.at_string (Kd.R_reads' HO_5.out).2.2 x6_1 p119 q119
        cases e119
        replace p119 := eq_true p119
        replace q119 := eq_true q119
        go_wp2_with (first | ((with_reducible refine gc 92 rfl ?_); refine gl (some 26) _ (#[.string (rdOf ByteArray.empty t116 x6_1), .bool a1]) Tryd.func92 ?_; (with_reducible refine (spec_l4PartOk.calls k1 (rdOf ByteArray.empty t116 x6_1) a1 true _ A12.out).mono ?_); rintro e w' ⟨rfl, ⟨nd, rfl⟩⟩; refine ⟨_, rfl, ?_⟩))
        go_roundg k1
        case measure => have := HK1.out; omega
        case rel => exact ⟨(wrap64 (x6_1 + 1)), Ye1, H', ⟨by have := HK1.out; omega⟩, ⟨kr HO_5.out⟩, ⟨be HB.out⟩⟩
       ·replace c13 := Bool.eq_false_iff.mpr c13
        subst c13
        have H1 : (some false) = some r := by rw [if_neg (show ¬ (false = true) by decide)] at H; exact H
        clear H
        have H := H1
        clear H1
        obtain rfl := Option.some.inj H
        have p119 : 0 ≤ (x6_1 : Int) := oda
        have q119 : x6_1 < (t116.length : Int) := oda
        obtain ⟨ad119, e119, hx119_0⟩ := Kd.at_string (Kd.R_reads' HO_5.out).2.2 x6_1 p119 q119
        cases e119
        replace p119 := eq_true p119
        replace q119 := eq_true q119
        go_wp2_with (first | ((with_reducible refine gc 92 rfl ?_); refine gl (some 26) _ (#[.string (rdOf ByteArray.empty t116 x6_1), .bool a1]) Tryd.func92 ?_; (with_reducible refine (spec_l4PartOk.calls k1 (rdOf ByteArray.empty t116 x6_1) a1 false _ A12.out).mono ?_); rintro e w' ⟨rfl, ⟨nd, rfl⟩⟩; refine ⟨_, rfl, ?_⟩))
        go_ret
        exact ⟨Ye2, be HB.out⟩
      ·rw [if_neg c11] at H
       exact absurd H (by simp)
     ·rw [if_neg c10] at H
      have c10b0 : decide (x6_1 < (t116.length : Int)) = false := decide_eq_false c10
      clear c10
      obtain rfl := Option.some.inj H
      go_wp2
      go_ret
      exact ⟨Ye2, be HB.out⟩

end Go.Proofs.YtkdghhkpmkfjhaaDoor.P


namespace Go.Proofs.YtkdghhkpmkfjhaaDoor.P
open Go.RowKit Go.Proofs.YtkdghhkpmkfjhaaDoorW.PrintWords Go.Proofs.YtkdghhkpmkfjhaaDoorW.PrintLast Go.Proofs.YtkdghhkpmkfjhaaDoorW.PrintMore
attribute [local go_sem] max2_int min2_int max_two min_two max_three min_three max_four min_four
set_option linter.unusedVariables false
set_option linter.unusedSimpArgs false

/-! ### spec_ValidPath: function 48 -/
def spec_ValidPath.f (k : Nat) (a0 : ByteArray) : Option (Bool) := (spec_l4Ok.f k a0 false).bind fun t121 => (some t121)
theorem spec_ValidPath.mono : ∀ a0 k, LeO (spec_ValidPath.f k a0) (spec_ValidPath.f (k + 1) a0) := by
 intro a0 k
 unfold spec_ValidPath.f
 repeat' first
   | (with_reducible exact spec_l4Ok.mono _ _ _)
   | (with_reducible exact LeO.refl _)
   | (with_reducible exact LeO.none _)
   | (with_reducible refine LeO.ite ?_ ?_)
   | (with_reducible refine LeO.bind ?_ (fun _ => ?_))
   | exact spec_l4Ok.mono _ _ _
   | exact LeO.none _
   | refine LeO.ite ?_ ?_
   | refine LeO.bind ?_ (fun _ => ?_)
set_option maxHeartbeats 8000000 in
set_option maxRecDepth 100000 in
theorem spec_ValidPath.calls (k : Nat) (a0 : ByteArray) (r : Bool) (w : World) (h : spec_ValidPath.f k a0 = some r) :
  Calls Tryd.prog 48 #[.string a0] w fun e w' => e = .returned (.bool r) ∧ Below w.heap.size w w' := by
 have HB := Aside0.mk (Below.refl w.heap.size w)
 have H : ((spec_l4Ok.f k a0 false).bind fun t121 => (some t121)) = some r := h
 clear h
 replace H := Option.bind_eq_some_iff.mp H
 obtain ⟨t121, A20, H⟩ := H
 replace H : (some t121) = some r := H
 have A2 := Aside0.mk A20
 clear A20
 obtain rfl := Option.some.inj H
 go_enter Tryd.func48, Tryd.ntmps48
 go_wp2_with (first | ((with_reducible refine gc 74 rfl ?_); refine gl (some 4) _ (#[.string a0, .bool false]) Tryd.func74 ?_; (with_reducible refine (spec_l4Ok.calls k a0 false t121 _ A2.out).mono ?_); rintro e w3 ⟨rfl, hb⟩; refine ⟨_, rfl, ?_⟩; refine Ya1 (below_step (be HB.out) hb) ?_; clear HB; intro HB; (try clear hb); (try clear hb2); (try clear hk); (try clear hi)))
 go_ret
 exact ⟨Ye2, be HB.out⟩

end Go.Proofs.YtkdghhkpmkfjhaaDoor.P

