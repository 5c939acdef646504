/- Several texts of this claim in one file: YtgnmledjkamojaaDoorPLawsEntry, YtgnmledjkamojaaDoorPLawsTree, YtgnmledjkamojaaDoorPStringsliteHasPrefix, YtgnmledjkamojaaDoorPStringsHasPrefix, YtgnmledjkamojaaDoorPImplOver, YtgnmledjkamojaaDoorPImplEntry68, YtgnmledjkamojaaDoorPImplIn, YtgnmledjkamojaaDoorPImplGoodPart, YtgnmledjkamojaaDoorPStringsSplit, YtgnmledjkamojaaDoorPImplParts, YtgnmledjkamojaaDoorPImplValidPath, YtgnmledjkamojaaDoorPImplGoodEntry, YtgnmledjkamojaaDoorPImplValidTree, YtgnmledjkamojaaDoorPLawsMarkText, YtgnmledjkamojaaDoorPLawsHeldEntryS, YtgnmledjkamojaaDoorPLawsHeldTree, YtgnmledjkamojaaDoorPLawsMarkEntryS, YtgnmledjkamojaaDoorPLawsMarkTree, YtgnmledjkamojaaDoorPSpecL5Begins, YtgnmledjkamojaaDoorPSpecL5Copy. -/
import Derived.Test.YtgnmledjkamojaaDoorM2
import Derived.Test.YtgnmledjkamojaaDoorM3
import Derived.Lib.SplitLaws
namespace Go.Proofs.YtgnmledjkamojaaDoor.P
open Go.RowKit Go.Proofs.YtgnmledjkamojaaDoorW.PrintWords Go.Proofs.YtgnmledjkamojaaDoorW.PrintLast Go.Proofs.YtgnmledjkamojaaDoorW.PrintMore
attribute [local go_sem] max2_int min2_int max_two min_two max_three min_three max_four min_four
set_option linter.unusedVariables false
set_option linter.unusedSimpArgs false

/-! ### laws_szEntry: function 138 -/
def laws_szEntry.f (a0_0 : ByteArray) (a0_1 : ByteArray) (a0_2 : Bool) (a1 : Int) : Option (Int) := if (wrap64 (a1 - (a0_0.size : Int))) < 0 then (some (-1)) else (if (wrap64 ((wrap64 (a1 - (a0_0.size : Int))) - (a0_1.size : Int))) < 0 then (some (-1)) else (some (wrap64 ((wrap64 (a1 - (a0_0.size : Int))) - (a0_1.size : Int)))))
set_option maxHeartbeats 8000000 in
set_option maxRecDepth 100000 in
theorem laws_szEntry.calls (a0_0 : ByteArray) (a0_1 : ByteArray) (a0_2 : Bool) (a1 : Int) (r : Int) (w : World) (h : laws_szEntry.f a0_0 a0_1 a0_2 a1 = some r) :
  Calls Tryd.prog 138 #[.agg #[.string a0_0, .string a0_1, .bool a0_2], .int .i64 a1] w fun e w' => e = .returned (.int .i64 r) ∧ Below w.heap.size w w' := by
 have hu172 := Tryd.underlying172; have HB := Aside0.mk (Below.refl w.heap.size w); have H : (if (wrap64 (a1 - (a0_0.size : Int))) < 0 then (some (-1)) else (if (wrap64 ((wrap64 (a1 - (a0_0.size : Int))) - (a0_1.size : Int))) < 0 then (some (-1)) else (some (wrap64 ((wrap64 (a1 - (a0_0.size : Int))) - (a0_1.size : Int)))))) = some r := h; clear h
 by_cases c3 : (wrap64 (a1 - (a0_0.size : Int))) < 0
 ·rw [if_pos c3] at H
  have c3b0 : decide ((wrap64 (a1 - (a0_0.size : Int))) < 0) = true := decide_eq_true c3; clear c3; obtain rfl := Option.some.inj H
  go_enter Tryd.func138, Tryd.ntmps138
  go_wp2_with (first | ((with_reducible refine gd 2 rfl ?_); refine bx 2 172 (#[.string a0_0, .string a0_1, .bool a0_2]) ?_; intro gb101 hg w4 hbox hb; refine Ya4 (below_step (be HB.out) hb) (hbox) (bs hg (be HB.out)) (bs hg (be HB.out)) ?_; clear HB; intro HB BK101 GW101 GE101; clear hb hbox hg; have ⟨hcz5_0, hcz5_1, hcz5_2, hfz5_0, hfz5_1, hfz5_2⟩ := Yc3 BK101.out))
  go_ret
  exact ⟨Ye2, (by first | exact be1 HB.out GE101.out | exact be HB.out)⟩
 ·rw [if_neg c3] at H
  have c3b0 : decide ((wrap64 (a1 - (a0_0.size : Int))) < 0) = false := decide_eq_false c3; clear c3
  by_cases c6 : (wrap64 ((wrap64 (a1 - (a0_0.size : Int))) - (a0_1.size : Int))) < 0
  ·rw [if_pos c6] at H
   have c6b0 : decide ((wrap64 ((wrap64 (a1 - (a0_0.size : Int))) - (a0_1.size : Int))) < 0) = true := decide_eq_true c6; clear c6; obtain rfl := Option.some.inj H
   go_enter Tryd.func138, Tryd.ntmps138
   go_wp2_with (first | ((with_reducible refine gd 2 rfl ?_); refine bx 2 172 (#[.string a0_0, .string a0_1, .bool a0_2]) ?_; intro gb101 hg w7 hbox hb; refine Ya4 (below_step (be HB.out) hb) (hbox) (bs hg (be HB.out)) (bs hg (be HB.out)) ?_; clear HB; intro HB BK101 GW101 GE101; clear hb hbox hg; have ⟨hcz8_0, hcz8_1, hcz8_2, hfz8_0, hfz8_1, hfz8_2⟩ := Yc3 BK101.out))
   go_ret
   exact ⟨Ye2, (by first | exact be1 HB.out GE101.out | exact be HB.out)⟩
  ·rw [if_neg c6] at H
   have c6b0 : decide ((wrap64 ((wrap64 (a1 - (a0_0.size : Int))) - (a0_1.size : Int))) < 0) = false := decide_eq_false c6; clear c6; obtain rfl := Option.some.inj H
   go_enter Tryd.func138, Tryd.ntmps138
   go_wp2_with (first | ((with_reducible refine gd 2 rfl ?_); refine bx 2 172 (#[.string a0_0, .string a0_1, .bool a0_2]) ?_; intro gb101 hg w9 hbox hb; refine Ya4 (below_step (be HB.out) hb) (hbox) (bs hg (be HB.out)) (bs hg (be HB.out)) ?_; clear HB; intro HB BK101 GW101 GE101; clear hb hbox hg; have ⟨hcz10_0, hcz10_1, hcz10_2, hfz10_0, hfz10_1, hfz10_2⟩ := Yc3 BK101.out))
   go_ret
   exact ⟨Ye2, (by first | exact be1 HB.out GE101.out | exact be HB.out)⟩

/-! ### laws_szEntryS: function 62 -/
def laws_szEntryS.l0 : Nat → List (S172) → Int → Int → Option (Int)
 | 0, _, _, _ => none
 | k + 1, x0, x1, x5 => if x5 < (x0.length : Int) then (if 0 ≤ x5 then ((laws_szEntry.f ((rd_T172 x0 x5).f0) ((rd_T172 x0 x5).f1) ((rd_T172 x0 x5).f2) x1).bind fun t103 => (if t103 < 0 then (some (-1)) else (laws_szEntryS.l0 k x0 t103 (wrap64 (x5 + 1))))) else (none)) else (some x1)
def laws_szEntryS.f (k : Nat) (l0 : List (S172)) (a1 : Int) : Option (Int) := if (wrap64 (a1 - (l0.length : Int))) < 0 then (some (-1)) else (laws_szEntryS.l0 k l0 (wrap64 (a1 - (l0.length : Int))) 0)
theorem laws_szEntryS.mono_l : ∀ k, (∀ y0 y1 y2, LeO (laws_szEntryS.l0 k y0 y1 y2) (laws_szEntryS.l0 (k + 1) y0 y1 y2))
 | 0 => fun _ _ _ r h => by simp [laws_szEntryS.l0] at h
 | k + 1 => by
  have ih0 := laws_szEntryS.mono_l k
  ·intro y0 y1 y2
   unfold laws_szEntryS.l0
   repeat' first
   | (with_reducible exact ih0 _ _ _)
   | (with_reducible exact LeO.refl _)
   | (with_reducible exact LeO.none _)
   | (with_reducible refine LeO.ite ?_ ?_)
   | (with_reducible refine LeO.bind ?_ (fun _ => ?_))
   | exact ih0 _ _ _
   | exact LeO.none _
   | refine LeO.ite ?_ ?_
   | refine LeO.bind ?_ (fun _ => ?_)
theorem laws_szEntryS.mono : ∀ a0 a1 k, LeO (laws_szEntryS.f k a0 a1) (laws_szEntryS.f (k + 1) a0 a1) := by
 intro a0 a1 k; have ih0 := laws_szEntryS.mono_l k
 unfold laws_szEntryS.f
 repeat' first
   | (with_reducible exact ih0 _ _ _)
   | (with_reducible exact LeO.refl _)
   | (with_reducible exact LeO.none _)
   | (with_reducible refine LeO.ite ?_ ?_)
   | (with_reducible refine LeO.bind ?_ (fun _ => ?_))
   | exact ih0 _ _ _
   | exact LeO.none _
   | refine LeO.ite ?_ ?_
   | refine LeO.bind ?_ (fun _ => ?_)
set_option maxHeartbeats 8000000 in
set_option maxRecDepth 100000 in
theorem laws_szEntryS.calls (k : Nat) (A0 : Option Addr) (c0 : Nat) (l0 : List (S172)) (a1 : Int) (r : Int) (w : World) (hr0 : Kd.C k172 w A0 l0.length l0) (hc0 : l0.length ≤ c0) (h : laws_szEntryS.f k l0 a1 = some r) :
  Calls Tryd.prog 62 #[.slice A0 l0.length c0, .int .i64 a1] w fun e w' => e = .returned (.int .i64 r) ∧ Below w.heap.size w w' := by
 have hu172 := Tryd.underlying172; have HR0 := Aside0.mk hr0; have HC0 := Aside0.mk hc0; clear hr0 hc0; have HB := Aside0.mk (Below.refl w.heap.size w); have H : (if (wrap64 (a1 - (l0.length : Int))) < 0 then (some (-1)) else (laws_szEntryS.l0 k l0 (wrap64 (a1 - (l0.length : Int))) 0)) = some r := h; clear h
 by_cases c3 : (wrap64 (a1 - (l0.length : Int))) < 0
 ·rw [if_pos c3] at H
  have c3b0 : decide ((wrap64 (a1 - (l0.length : Int))) < 0) = true := decide_eq_true c3; clear c3; obtain rfl := Option.some.inj H
  go_enter Tryd.func62, Tryd.ntmps62
  go_wp2
  go_ret
  exact ⟨Ye2, be HB.out⟩
 ·rw [if_neg c3] at H
  have c3b0 : decide ((wrap64 (a1 - (l0.length : Int))) < 0) = false := decide_eq_false c3; clear c3; have H' := Aside0.mk H; clear H
  go_enter Tryd.func62, Tryd.ntmps62
  go_wp2
  go_loopg [1, 5] k (fun kq v1 v5 w' => ∃ (x1_1 : Int) (qa : Int), v1 = .int .i64 x1_1 ∧ v5 = .int .i64 qa ∧ Aside0 (laws_szEntryS.l0 kq l0 x1_1 qa = some r) ∧ Aside0 (kq ≤ k) ∧ Aside0 (Below w.heap.size w w'))
  case atStart => exact ⟨(wrap64 (a1 - (l0.length : Int))), (0), Ye1, Ye1, H', ⟨Nat.le_refl _⟩, ⟨be HB.out⟩⟩
  case round =>
   clear H'; (try clear p2); (try clear c3); (try clear c3b0); obtain ⟨x1_1, qa, rfl, rfl, HA, HK1, HB⟩ := hrel
   cases gk with
   | zero => exact absurd HA.out (by simp [laws_szEntryS.l0])
   | succ k1 =>
    have H := HA.out; clear HA; simp only [laws_szEntryS.l0] at H
    by_cases c4 : qa < (l0.length : Int)
    ·rw [if_pos c4] at H
     have c4b0 : decide (qa < (l0.length : Int)) = true := decide_eq_true c4; clear c4
     by_cases c5 : 0 ≤ qa
     ·rw [if_pos c5] at H
      have c5b0 : decide (0 ≤ qa) = true := decide_eq_true c5; clear c5; replace H := Option.bind_eq_some_iff.mp H; obtain ⟨t103, A60, H⟩ := H; replace H : (if t103 < 0 then (some (-1)) else (laws_szEntryS.l0 k1 l0 t103 (wrap64 (qa + 1)))) = some r := H; have A6 := Aside0.mk A60; clear A60
      by_cases c7 : t103 < 0
      ·rw [if_pos c7] at H
       have c7b0 : decide (t103 < 0) = true := decide_eq_true c7; clear c7; obtain rfl := Option.some.inj H; have p102 : 0 ≤ (qa : Int) := oda; have q102 : qa < (l0.length : Int) := oda; obtain ⟨ad102, e102, hx102_0, hx102_1, hx102_2⟩ := at_T172 (Kd.C_below HR0.out HB.out) qa p102 q102
       cases e102
       replace p102 := eq_true p102; replace q102 := eq_true q102
       go_wp2_with (first | ((with_reducible refine gc 138 rfl ?_); refine gl (some 23) _ (#[.agg #[.string ((rd_T172 l0 qa).f0), .string ((rd_T172 l0 qa).f1), .bool ((rd_T172 l0 qa).f2)], .int .i64 x1_1]) Tryd.func138 ?_; (with_reducible refine (laws_szEntry.calls ((rd_T172 l0 qa).f0) ((rd_T172 l0 qa).f1) ((rd_T172 l0 qa).f2) x1_1 t103 _ A6.out).mono ?_); rintro e w8 ⟨rfl, hb⟩; refine ⟨_, rfl, ?_⟩; refine Ya1 (below_step (be HB.out) hb) ?_; clear HB; intro HB; (try clear hb); (try clear hb2); (try clear hk); (try clear hi)))
       go_ret
       exact ⟨Ye2, be HB.out⟩
      ·rw [if_neg c7] at H
       have c7b0 : decide (t103 < 0) = false := decide_eq_false c7; clear c7; have H' := Aside0.mk H; clear H; have p102 : 0 ≤ (qa : Int) := oda; have q102 : qa < (l0.length : Int) := oda; obtain ⟨ad102, e102, hx102_0, hx102_1, hx102_2⟩ := at_T172 (Kd.C_below HR0.out HB.out) qa p102 q102
       cases e102
       replace p102 := eq_true p102; replace q102 := eq_true q102
       go_wp2_with (first | ((with_reducible refine gc 138 rfl ?_); refine gl (some 23) _ (#[.agg #[.string ((rd_T172 l0 qa).f0), .string ((rd_T172 l0 qa).f1), .bool ((rd_T172 l0 qa).f2)], .int .i64 x1_1]) Tryd.func138 ?_; (with_reducible refine (laws_szEntry.calls ((rd_T172 l0 qa).f0) ((rd_T172 l0 qa).f1) ((rd_T172 l0 qa).f2) x1_1 t103 _ A6.out).mono ?_); rintro e w9 ⟨rfl, hb⟩; refine ⟨_, rfl, ?_⟩; refine Ya1 (below_step (be HB.out) hb) ?_; clear HB; intro HB; (try clear hb); (try clear hb2); (try clear hk); (try clear hi)))
       go_roundg k1
       case measure => have := HK1.out; omega
       case rel => exact ⟨(t103), (wrap64 (qa + 1)), Ye1, Ye1, H', ⟨by have := HK1.out; omega⟩, ⟨be HB.out⟩⟩
     ·rw [if_neg c5] at H
      exact absurd H (by simp)
    ·rw [if_neg c4] at H
     have c4b0 : decide (qa < (l0.length : Int)) = false := decide_eq_false c4; clear c4; obtain rfl := Option.some.inj H
     go_wp2
     go_ret
     exact ⟨Ye2, be HB.out⟩

/-! ### laws_toEntry: function 139 -/
def laws_toEntry.f (a0_0 : ByteArray) (a0_1 : ByteArray) (a0_2 : Bool) : Option (ByteArray × ByteArray × Bool) := some (a0_0, a0_1, a0_2)
set_option maxHeartbeats 8000000 in
set_option maxRecDepth 100000 in
theorem laws_toEntry.calls (a0_0 : ByteArray) (a0_1 : ByteArray) (a0_2 : Bool) (r1 : ByteArray) (r2 : ByteArray) (r3 : Bool) (w : World) (h : laws_toEntry.f a0_0 a0_1 a0_2 = some (r1, r2, r3)) :
  Calls Tryd.prog 139 #[.agg #[.string a0_0, .string a0_1, .bool a0_2]] w fun e w' => e = .returned (.agg #[.string r1, .string r2, .bool r3]) ∧ Below w.heap.size w w' := by
 have hu172 := Tryd.underlying172; have hu37 := Tryd.underlying37; have HB := Aside0.mk (Below.refl w.heap.size w); have H : (some (a0_0, a0_1, a0_2)) = some (r1, r2, r3) := h; clear h; simp only [Option.some.injEq, Prod.mk.injEq] at H; obtain ⟨rfl, rfl, rfl⟩ := H
 go_enter Tryd.func139, Tryd.ntmps139
 go_wp2_with (first | ((with_reducible refine gd 1 rfl ?_); refine bx 1 172 (#[.string a0_0, .string a0_1, .bool a0_2]) ?_; intro gb175 hg w2 hbox hb; refine Ya4 (below_step (be HB.out) hb) (hbox) (bs hg (be HB.out)) (bs hg (be HB.out)) ?_; clear HB; intro HB BK175 GW175 GE175; clear hb hbox hg) | ((with_reducible refine gd 2 rfl ?_); refine bx 2 37 (#[.string (⟨#[]⟩ : ByteArray), .string (⟨#[]⟩ : ByteArray), .bool false]) ?_; intro gb176 hg w3 hbox hb; refine Ya7 (bb BK175 hb) (below_step (be1 HB.out GE175.out) hb) (hbox) (bs hg (be1 HB.out GE175.out)) (bs hg (be1 HB.out GE175.out)) (bl hg BK175) (br hg BK175) ?_; clear BK175 HB; intro BK175 HB BK176 GW176 GE176 NB175_176 NB176_175; clear hb hbox hg) | ((with_reducible refine gd 3 rfl ?_); refine bx 3 37 (#[.string (⟨#[]⟩ : ByteArray), .string (⟨#[]⟩ : ByteArray), .bool false]) ?_; intro gb177 hg w4 hbox hb; have n0_ := Aside0.mk (bb BK175 hb); have n1_ := Aside0.mk (bb BK176 hb); have n2_ := Aside0.mk (below_step (be2 HB.out GE175.out GE176.out) hb); have n3_ := Aside0.mk (hbox); have n4_ := Aside0.mk (bs hg (be2 HB.out GE175.out GE176.out)); have n5_ := Aside0.mk (bs hg (be2 HB.out GE175.out GE176.out)); have n6_ := Aside0.mk (bl hg BK175); have n7_ := Aside0.mk (br hg BK175); have n8_ := Aside0.mk (bl hg BK176); have n9_ := Aside0.mk (br hg BK176); clear BK175; clear BK176; clear HB; have BK175 := n0_; have BK176 := n1_; have HB := n2_; have BK177 := n3_; have GW177 := n4_; have GE177 := n5_; have NB175_177 := n6_; have NB177_175 := n7_; have NB176_177 := n8_; have NB177_176 := n9_; clear n0_ n1_ n2_ n3_ n4_ n5_ n6_ n7_ n8_ n9_; clear hb hbox hg; have hnb5 := NB175_176.out; have hnc5 := NB176_175.out; have hnb6 := NB175_177.out; have hnc6 := NB177_175.out; have ⟨hcz7_0, hcz7_1, hcz7_2, hfz7_0, hfz7_1, hfz7_2⟩ := Yc3 BK175.out; have hnb8 := NB177_176.out; have hnc8 := NB176_177.out; have ⟨hcz9_0, hcz9_1, hcz9_2, hfz9_0, hfz9_1, hfz9_2⟩ := Yc3 BK177.out; have ⟨hcz10_0, hcz10_1, hcz10_2, hfz10_0, hfz10_1, hfz10_2⟩ := Yc3 BK176.out))
 refine bodyPost_ret (results_cell_row rfl _ _ gb176 37 #[.string a0_0, .string a0_1, .bool a0_2] (0, 0) _ rfl (by (with_reducible repeat (first | apply blk_drewN | apply blk_drew | apply blk_alloc)); refine blk_put (cs := #[.string a0_0, .string a0_1, .bool false]) ?_ 2 _ rfl; (with_reducible repeat (first | apply blk_drewN | apply blk_drew | apply blk_alloc)); refine blk_put (cs := #[.string a0_0, .string (⟨#[]⟩ : ByteArray), .bool false]) ?_ 1 _ rfl; (with_reducible repeat (first | apply blk_drewN | apply blk_drew | apply blk_alloc)); refine blk_put (cs := #[.string (⟨#[]⟩ : ByteArray), .string (⟨#[]⟩ : ByteArray), .bool false]) ?_ 0 _ rfl; (with_reducible repeat (first | apply blk_drewN | apply blk_drew | apply blk_alloc)); refine blk_far ?_ NB176_177.out _; (with_reducible repeat (first | apply blk_drewN | apply blk_drew | apply blk_alloc)); refine blk_far ?_ NB176_177.out _; (with_reducible repeat (first | apply blk_drewN | apply blk_drew | apply blk_alloc)); refine blk_far ?_ NB176_177.out _; (with_reducible repeat (first | apply blk_drewN | apply blk_drew | apply blk_alloc)); exact BK176.out) Tryd.underlying37 rfl (by kernel_rfl)) rfl ?_; exact ⟨Ye2, (by first | exact be3 HB.out GE175.out GE176.out GE177.out | exact be2 HB.out GE175.out GE176.out | exact be1 HB.out GE175.out)⟩

/-! ### laws_toEntryS: function 66 -/
def laws_toEntryS.l0 : Nat → List (S172) → List (S37) → Int → Option ((List (S37)))
 | 0, _, _, _ => none
 | k + 1, x0, x3, x4 => if x4 < (x0.length : Int) then (if 0 ≤ x4 then ((laws_toEntry.f ((rd_T172 x0 x4).f0) ((rd_T172 x0 x4).f1) ((rd_T172 x0 x4).f2)).bind fun bt182 => (if x4 < (x3.length : Int) then (laws_toEntryS.l0 k x0 (x3.set (x4 : Int).toNat (⟨bt182.1, bt182.2.1, bt182.2.2⟩ : S37)) (wrap64 (x4 + 1))) else (none))) else (none)) else (some x3)
def laws_toEntryS.f (k : Nat) (l0 : List (S172)) : Option ((List (S37))) := if 0 ≤ (l0.length : Int) then (if ((l0.length : Int) : Int).toNat ≤ 7036874417766 then (laws_toEntryS.l0 k l0 (List.replicate ((l0.length : Int) : Int).toNat z37) 0) else (none)) else (none)
theorem laws_toEntryS.mono_l : ∀ k, (∀ y0 y1 y2, LeO (laws_toEntryS.l0 k y0 y1 y2) (laws_toEntryS.l0 (k + 1) y0 y1 y2))
 | 0 => fun _ _ _ r h => by simp [laws_toEntryS.l0] at h
 | k + 1 => by
  have ih0 := laws_toEntryS.mono_l k
  ·intro y0 y1 y2
   unfold laws_toEntryS.l0
   repeat' first
   | (with_reducible exact ih0 _ _ _)
   | (with_reducible exact LeO.refl _)
   | (with_reducible exact LeO.none _)
   | (with_reducible refine LeO.ite ?_ ?_)
   | (with_reducible refine LeO.bind ?_ (fun _ => ?_))
   | exact ih0 _ _ _
   | exact LeO.none _
   | refine LeO.ite ?_ ?_
   | refine LeO.bind ?_ (fun _ => ?_)
theorem laws_toEntryS.mono : ∀ a0 k, LeO (laws_toEntryS.f k a0) (laws_toEntryS.f (k + 1) a0) := by
 intro a0 k; have ih0 := laws_toEntryS.mono_l k
 unfold laws_toEntryS.f
 repeat' first
   | (with_reducible exact ih0 _ _ _)
   | (with_reducible exact LeO.refl _)
   | (with_reducible exact LeO.none _)
   | (with_reducible refine LeO.ite ?_ ?_)
   | (with_reducible refine LeO.bind ?_ (fun _ => ?_))
   | exact ih0 _ _ _
   | exact LeO.none _
   | refine LeO.ite ?_ ?_
   | refine LeO.bind ?_ (fun _ => ?_)
set_option maxHeartbeats 8000000 in
set_option maxRecDepth 100000 in
theorem laws_toEntryS.calls (k : Nat) (A0 : Option Addr) (c0 : Nat) (l0 : List (S172)) (r : List (S37)) (w : World) (hr0 : Kd.C k172 w A0 l0.length l0) (hc0 : l0.length ≤ c0) (h : laws_toEntryS.f k l0 = some r) :
  Calls Tryd.prog 66 #[.slice A0 l0.length c0] w fun e w' => ∃ v0_ : Value, e = .returned (v0_) ∧ Kd.R k37 37 w' w.heap.size (fun _ => True) v0_ r ∧ Below w.heap.size w w' := by
 have hu172 := Tryd.underlying172; have hu37 := Tryd.underlying37; have HR0 := Aside0.mk hr0; have HC0 := Aside0.mk hc0; clear hr0 hc0; have HB := Aside0.mk (Below.refl w.heap.size w); have H : (if 0 ≤ (l0.length : Int) then (if ((l0.length : Int) : Int).toNat ≤ 7036874417766 then (laws_toEntryS.l0 k l0 (List.replicate ((l0.length : Int) : Int).toNat z37) 0) else (none)) else (none)) = some r := h; clear h
 by_cases c2 : 0 ≤ (l0.length : Int)
 ·rw [if_pos c2] at H
  have c2b0 := eq_true c2; have c2b1 : decide (0 ≤ (l0.length : Int)) = true := decide_eq_true c2; clear c2
  by_cases c3 : ((l0.length : Int) : Int).toNat ≤ 7036874417766
  ·rw [if_pos c3] at H
   have c3b0 := eq_true c3; have c3b1 : decide (((l0.length : Int) : Int).toNat ≤ 7036874417766) = true := decide_eq_true c3; clear c3
   obtain ⟨y178, hy178⟩ : ∃ y_ : List (S37), y_ = (List.replicate ((l0.length : Int) : Int).toNat z37) := ⟨_, rfl⟩
   replace H : (laws_toEntryS.l0 k l0 y178 0) = some r := by first | (rw [hy178]; with_reducible exact H) | (have H2_ := (Option.bind_some _ _).symm.trans H; rw [hy178]; with_reducible exact H2_) | (have H2_ := (Option.bind_some _ _).symm.trans H; with_reducible exact H2_) | with_reducible exact H | (rw [hy178]; exact H) | exact H
   have Ny178 := Aside0.mk hy178; clear hy178; have H' := Aside0.mk H; clear H
   go_enter Tryd.func66, Tryd.ntmps66
   go_wp2_with (first | ((with_reducible refine gd 7 rfl ?_); refine Kd.R_make k37 _ 37 rfl (N := 7) rfl 26 _ _ rfl (l0.length : Int) rfl rfl Tryd.underlying26 (.agg #[(.string ⟨#[]⟩), (.string ⟨#[]⟩), (.bool false)]) 40 info37 rfl (by decide) (by omega) z37 (ok := fun _ => True) (okp := fun _ => True) (k37_mkM _ _ _ z37 ) (fun _ hk => hk) trivial (oda) (Nat.le_trans (Nat.mul_le_mul_right _ (oda : (l0.length : Int).toNat ≤ 7036874417766)) (by omega)) (Below.refl _ _) (Nat.le_refl _) ?_; intro v179 w4 ho5 hb hg_ hnew_; clear hg_ hnew_; (first | rw [← Ny178.out] at ho5 | (simp only [Int.reduceToNat] at ho5; rw [← Ny178.out] at ho5)); refine Ya2 (Kd.R_lower ho5 (below_size (be HB.out))) (below_step (be HB.out) hb) ?_; clear HB; intro HO180 HB; clear hb ho5))
   go_loopg [4] k (fun kq v4 w' => ∃ (x3_1 : List (S37)) (qb : Int), v4 = .int .i64 qb ∧ Aside0 (laws_toEntryS.l0 kq l0 x3_1 qb = some r) ∧ Aside0 (kq ≤ k) ∧ Aside0 (Kd.R k37 37 w' w.heap.size (fun _ => True) v179 x3_1) ∧ Aside0 (Below w.heap.size w w'))
   case atStart => exact ⟨(y178), (0), Ye1, H', ⟨Nat.le_refl _⟩, ⟨kr HO180.out⟩, ⟨be HB.out⟩⟩
   case round =>
    clear H'; (try clear c2); (try clear c2b0); (try clear c2b1); (try clear p2); (try clear c3); (try clear c3b0); (try clear c3b1); obtain ⟨x3_1, qb, rfl, HA, HK1, HO_3, HB⟩ := hrel
    cases gk with
    | zero => exact absurd HA.out (by simp [laws_toEntryS.l0])
    | succ k1 =>
     have H := HA.out; clear HA; simp only [laws_toEntryS.l0] at H
     by_cases c6 : qb < (l0.length : Int)
     ·rw [if_pos c6] at H
      have c6b0 : decide (qb < (l0.length : Int)) = true := decide_eq_true c6; clear c6
      by_cases c7 : 0 ≤ qb
      ·rw [if_pos c7] at H
       have c7b0 : decide (0 ≤ qb) = true := decide_eq_true c7; clear c7; replace H := Option.bind_eq_some_iff.mp H; obtain ⟨⟨t182, t183, t184⟩, A80, H⟩ := H; replace H : (if qb < (x3_1.length : Int) then (laws_toEntryS.l0 k1 l0 (x3_1.set (qb : Int).toNat (⟨t182, t183, t184⟩ : S37)) (wrap64 (qb + 1))) else (none)) = some r := H; have A8 := Aside0.mk A80; clear A80
       by_cases c9 : qb < (x3_1.length : Int)
       ·rw [if_pos c9] at H
        have c9b0 : decide (qb < (x3_1.length : Int)) = true := decide_eq_true c9; clear c9
        obtain ⟨y185, hy185⟩ : ∃ y_ : List (S37), y_ = (x3_1.set (qb : Int).toNat (⟨t182, t183, t184⟩ : S37)) := ⟨_, rfl⟩
        replace H : (laws_toEntryS.l0 k1 l0 y185 (wrap64 (qb + 1))) = some r := by first | (rw [hy185]; with_reducible exact H) | (have H2_ := (Option.bind_some _ _).symm.trans H; rw [hy185]; with_reducible exact H2_) | (have H2_ := (Option.bind_some _ _).symm.trans H; with_reducible exact H2_) | with_reducible exact H | (rw [hy185]; exact H) | exact H
        have Ny185 := Aside0.mk hy185; clear hy185; have H' := Aside0.mk H; clear H; have p181 : 0 ≤ (qb : Int) := oda; have q181 : qb < (l0.length : Int) := oda; obtain ⟨ad181, e181, hx181_0, hx181_1, hx181_2⟩ := at_T172 (Kd.C_below HR0.out HB.out) qb p181 q181
        cases e181
        replace p181 := eq_true p181; replace q181 := eq_true q181
        go_wp2_with (first | ((with_reducible refine gc 139 rfl ?_); refine gl (some 20) _ (#[.agg #[.string ((rd_T172 l0 qb).f0), .string ((rd_T172 l0 qb).f1), .bool ((rd_T172 l0 qb).f2)]]) Tryd.func139 ?_; (with_reducible refine (laws_toEntry.calls ((rd_T172 l0 qb).f0) ((rd_T172 l0 qb).f1) ((rd_T172 l0 qb).f2) t182 t183 t184 _ A8.out).mono ?_); rintro e w11 ⟨rfl, hb⟩; refine ⟨_, rfl, ?_⟩; refine Ya2 (Kd.R_below (kr HO_3.out) hb) (below_step (be HB.out) hb) ?_; clear HO_3 HB; intro HO_3 HB; (try clear hb); (try clear hb2); (try clear hk); (try clear hi); have p10 : 0 ≤ (qb : Int) := oda; have q10 : (qb : Int) < ((x3_1.length : Int) : Int) := oda; obtain ⟨go10, co10, eo10, gb10, gl10, cl10, HG10⟩ := Kd.R_form HO_3.out (by omega); (first | cases eo10 | (injection eo10 with ea_ en_ ec_; (first | subst ea_ | (injection ea_ with ea_; subst ea_)); subst ec_; clear en_)); have GB10 := Aside0.mk gb10; have GG10 := Aside0.mk HG10; clear gb10 gl10 HG10; obtain ⟨ce10, hcl10, hM10, hcc10, hfr10⟩ := Kd.R_elem HO_3.out z37 (qb : Int) p10 q10; obtain rfl := k37_openM hM10; have hx10_0 : w11.cell? ⟨go10, (qb : Int).toNat * 3, none⟩ = some (.string ((rd_T37 x3_1 qb).f0)) := hcc10 0 _ rfl; have hx10_1 : w11.cell? ⟨go10, (qb : Int).toNat * 3 + 1, none⟩ = some (.string ((rd_T37 x3_1 qb).f1)) := hcc10 1 _ rfl; have hx10_2 : w11.cell? ⟨go10, (qb : Int).toNat * 3 + 2, none⟩ = some (.bool ((rd_T37 x3_1 qb).f2)) := hcc10 2 _ rfl; have hf10_0 : w11.frozen? ⟨go10, (qb : Int).toNat * 3, none⟩ = false := hfr10 0; have hf10_1 : w11.frozen? ⟨go10, (qb : Int).toNat * 3 + 1, none⟩ = false := hfr10 1; have hf10_2 : w11.frozen? ⟨go10, (qb : Int).toNat * 3 + 2, none⟩ = false := hfr10 2; (try clear hM10); clear hcl10 hcc10 hfr10; replace p10 := eq_true p10; replace q10 := eq_true q10; have HX12 := Aside0.mk (show Kd.R k37 37 w11 w.heap.size (fun _ => True) (.slice (some ⟨go10, 0, none⟩) x3_1.length co10) x3_1 from (kr HO_3.out)); obtain ⟨ce12, hcl12, hM12, hcc12, hfr12⟩ := Kd.R_elem HX12.out z37 (qb : Int) (oda) (by have h_ : (qb : Int) < ((x3_1.length : Int) : Int) := oda; first | exact h_ | (have e_ := (Kd.R_reads' HO_3.out).1; omega) | simpa using h_); obtain rfl := k37_openM hM12; have HP12 := Kd.R_seg HX12.out (qb : Int) (oda) (by have h_ : (qb : Int) < ((x3_1.length : Int) : Int) := oda; first | exact h_ | (have e_ := (Kd.R_reads' HO_3.out).1; omega) | simpa using h_) (seg := [.string t182, .string t183, .bool t184]) (j := 0) hcl12 hcc12 (show 3 ≤ 3 from by decide) (x' := (⟨t182, t183, t184⟩ : S37)) (k37_mkM _ _ _ (⟨t182, t183, t184⟩ : S37) ) (fun _ hk => hk); have hx12_0 := hcc12 0 _ rfl; (try simp only [show (k37).sz = 3 from rfl, Nat.mul_one, Nat.add_zero] at hx12_0); have hf12_0 := hfr12 0; (try simp only [show (k37).sz = 3 from rfl, Nat.mul_one, Nat.add_zero] at hf12_0); have hx12_1 := hcc12 1 _ rfl; (try simp only [show (k37).sz = 3 from rfl, Nat.mul_one, Nat.add_zero] at hx12_1); have hf12_1 := hfr12 1; (try simp only [show (k37).sz = 3 from rfl, Nat.mul_one, Nat.add_zero] at hf12_1); have hx12_2 := hcc12 2 _ rfl; (try simp only [show (k37).sz = 3 from rfl, Nat.mul_one, Nat.add_zero] at hx12_2); have hf12_2 := hfr12 2; (try simp only [show (k37).sz = 3 from rfl, Nat.mul_one, Nat.add_zero] at hf12_2); (try clear hM12); clear hcl12 hcc12 hfr12) | ((with_reducible refine gate_store (t := 37) (p := 21) rfl ?_); refine store_event (t := 37) (p := 21) (v := ?vo_w13) (w1 := (((w11.setCell ⟨go10, (qb : Int).toNat * 3, none⟩ (.string t182)).setCell ⟨go10, (qb : Int).toNat * 3 + 1, none⟩ (.string t183)).setCell ⟨go10, (qb : Int).toNat * 3 + 2, none⟩ (.bool t184))) ?hg ?ho ?hn ?hr ?_; (case ho => rfl); (case hg => rfl); (case hn => rfl); (case hr => first | (go_simp; done) | (go_simp; rfl)); intro w13 hw; have hg : w11.grownBy w13 (some go10) := (by rw [hw]; exact HP12.2); have hp_ : Kd.R k37 37 w13 w.heap.size (fun _ => True) (.slice (some ⟨go10, 0, none⟩) x3_1.length co10) y185 := (by rw [hw, Ny185.out]; exact HP12.1); clear HP12; refine Ya2 (hp_) ((by rw [hw]; exact below_set (below_set (below_set (HB.out) GB10.out) GB10.out) GB10.out : Below w.heap.size w w13)) ?_; clear HO_3 HB; intro HO_3 HB; clear hg hw hp_))
        go_roundg k1
        case measure => have := HK1.out; omega
        case rel => exact ⟨(y185), (wrap64 (qb + 1)), Ye1, H', ⟨by have := HK1.out; omega⟩, ⟨kr HO_3.out⟩, ⟨be HB.out⟩⟩
       ·rw [if_neg c9] at H
        exact absurd H (by simp)
      ·rw [if_neg c7] at H
       exact absurd H (by simp)
     ·rw [if_neg c6] at H
      have c6b0 : decide (qb < (l0.length : Int)) = false := decide_eq_false c6; clear c6; obtain rfl := Option.some.inj H
      go_wp2
      go_ret
      exact ⟨_, Ye2, kr HO_3.out, be HB.out⟩
  ·rw [if_neg c3] at H
   exact absurd H (by simp)
 ·rw [if_neg c2] at H
  exact absurd H (by simp)

/-! ### laws_eqEntry: function 128 -/
def laws_eqEntry.f (a0_0 : ByteArray) (a0_1 : ByteArray) (a0_2 : Bool) (a1_0 : ByteArray) (a1_1 : ByteArray) (a1_2 : Bool) : Option (Bool) := if a0_0.toList = a1_0.toList then (if a0_1.toList = a1_1.toList then (if (a0_2 != a1_2) = true then (some false) else (some true)) else (some false)) else (some false)
set_option maxHeartbeats 8000000 in
set_option maxRecDepth 100000 in
theorem laws_eqEntry.calls (a0_0 : ByteArray) (a0_1 : ByteArray) (a0_2 : Bool) (a1_0 : ByteArray) (a1_1 : ByteArray) (a1_2 : Bool) (r : Bool) (w : World) (h : laws_eqEntry.f a0_0 a0_1 a0_2 a1_0 a1_1 a1_2 = some r) :
  Calls Tryd.prog 128 #[.agg #[.string a0_0, .string a0_1, .bool a0_2], .agg #[.string a1_0, .string a1_1, .bool a1_2]] w fun e w' => e = .returned (.bool r) ∧ Below w.heap.size w w' := by
 have hu37 := Tryd.underlying37; have HB := Aside0.mk (Below.refl w.heap.size w); have H : (if a0_0.toList = a1_0.toList then (if a0_1.toList = a1_1.toList then (if (a0_2 != a1_2) = true then (some false) else (some true)) else (some false)) else (some false)) = some r := h; clear h
 by_cases c3 : a0_0.toList = a1_0.toList
 ·rw [if_pos c3] at H
  have c3b0 : (a0_0.toList == a1_0.toList) = true := beq_iff_eq.mpr c3; have c3b1 : (a0_0.toList != a1_0.toList) = false := bne_eq_false_iff_eq.mpr c3; clear c3
  by_cases c4 : a0_1.toList = a1_1.toList
  ·rw [if_pos c4] at H
   have c4b0 : (a0_1.toList == a1_1.toList) = true := beq_iff_eq.mpr c4; have c4b1 : (a0_1.toList != a1_1.toList) = false := bne_eq_false_iff_eq.mpr c4; clear c4
   by_cases c5 : (a0_2 != a1_2) = true
   ·rw [if_pos c5] at H
    have c5b0 : (a0_2 != a1_2) = true := c5; (try (have c5b1 : decide (a0_2 = a1_2) = false := by simpa using c5)); (try (have c5b2 : (a0_2 == a1_2) = false := by simpa using c5)); (try (have c5b3 : ¬ (a0_2 = a1_2) := by simpa using c5)); clear c5; obtain rfl := Option.some.inj H
    go_enter Tryd.func128, Tryd.ntmps128
    go_wp2_with (first | ((with_reducible refine gd 2 rfl ?_); refine bx 2 37 (#[.string a0_0, .string a0_1, .bool a0_2]) ?_; intro gb231 hg w6 hbox hb; refine Ya4 (below_step (be HB.out) hb) (hbox) (bs hg (be HB.out)) (bs hg (be HB.out)) ?_; clear HB; intro HB qc GW231 qd; clear hb hbox hg) | ((with_reducible refine gd 3 rfl ?_); refine bx 3 37 (#[.string a1_0, .string a1_1, .bool a1_2]) ?_; intro gb232 hg w7 hbox hb; refine Ya7 (bb qc hb) (below_step (be1 HB.out qd.out) hb) (hbox) (bs hg (be1 HB.out qd.out)) (bs hg (be1 HB.out qd.out)) (bl hg qc) (br hg qc) ?_; clear qc HB; intro qc HB BK232 GW232 GE232 qe qf; clear hb hbox hg; have hnb8 := qe.out; have hnc8 := qf.out; have ⟨hcz9_0, hcz9_1, hcz9_2, hfz9_0, hfz9_1, hfz9_2⟩ := Yc3 qc.out; have ⟨hcz10_0, hcz10_1, hcz10_2, hfz10_0, hfz10_1, hfz10_2⟩ := Yc3 BK232.out))
    go_ret
    exact ⟨Ye2, (by first | exact be2 HB.out qd.out GE232.out | exact be1 HB.out qd.out | exact be HB.out)⟩
   ·rw [if_neg c5] at H
    have c5b0 : (a0_2 != a1_2) = false := by simpa using c5
    (try (have c5b1 : decide (a0_2 = a1_2) = true := by simpa using c5)); (try (have c5b2 : (a0_2 == a1_2) = true := by simpa using c5)); clear c5; obtain rfl := Option.some.inj H
    go_enter Tryd.func128, Tryd.ntmps128
    go_wp2_with (first | ((with_reducible refine gd 2 rfl ?_); refine bx 2 37 (#[.string a0_0, .string a0_1, .bool a0_2]) ?_; intro gb231 hg w11 hbox hb; refine Ya4 (below_step (be HB.out) hb) (hbox) (bs hg (be HB.out)) (bs hg (be HB.out)) ?_; clear HB; intro HB qc GW231 qd; clear hb hbox hg) | ((with_reducible refine gd 3 rfl ?_); refine bx 3 37 (#[.string a1_0, .string a1_1, .bool a1_2]) ?_; intro gb232 hg w12 hbox hb; refine Ya7 (bb qc hb) (below_step (be1 HB.out qd.out) hb) (hbox) (bs hg (be1 HB.out qd.out)) (bs hg (be1 HB.out qd.out)) (bl hg qc) (br hg qc) ?_; clear qc HB; intro qc HB BK232 GW232 GE232 qe qf; clear hb hbox hg; have hnb13 := qe.out; have hnc13 := qf.out; have ⟨hcz14_0, hcz14_1, hcz14_2, hfz14_0, hfz14_1, hfz14_2⟩ := Yc3 qc.out; have ⟨hcz15_0, hcz15_1, hcz15_2, hfz15_0, hfz15_1, hfz15_2⟩ := Yc3 BK232.out))
    go_ret
    exact ⟨Ye2, (by first | exact be2 HB.out qd.out GE232.out | exact be1 HB.out qd.out | exact be HB.out)⟩
  ·rw [if_neg c4] at H
   have c4b0 : (a0_1.toList == a1_1.toList) = false := beq_eq_false_iff_ne.mpr c4; have c4b1 : (a0_1.toList != a1_1.toList) = true := bne_iff_ne.mpr c4; obtain rfl := Option.some.inj H
   go_enter Tryd.func128, Tryd.ntmps128
   go_wp2_with (first | ((with_reducible refine gd 2 rfl ?_); refine bx 2 37 (#[.string a0_0, .string a0_1, .bool a0_2]) ?_; intro gb231 hg w16 hbox hb; refine Ya4 (below_step (be HB.out) hb) (hbox) (bs hg (be HB.out)) (bs hg (be HB.out)) ?_; clear HB; intro HB qc GW231 qd; clear hb hbox hg) | ((with_reducible refine gd 3 rfl ?_); refine bx 3 37 (#[.string a1_0, .string a1_1, .bool a1_2]) ?_; intro gb232 hg w17 hbox hb; refine Ya7 (bb qc hb) (below_step (be1 HB.out qd.out) hb) (hbox) (bs hg (be1 HB.out qd.out)) (bs hg (be1 HB.out qd.out)) (bl hg qc) (br hg qc) ?_; clear qc HB; intro qc HB BK232 GW232 GE232 qe qf; clear hb hbox hg; have hnb18 := qe.out; have hnc18 := qf.out; have ⟨hcz19_0, hcz19_1, hcz19_2, hfz19_0, hfz19_1, hfz19_2⟩ := Yc3 qc.out; have ⟨hcz20_0, hcz20_1, hcz20_2, hfz20_0, hfz20_1, hfz20_2⟩ := Yc3 BK232.out))
   go_ret
   exact ⟨Ye2, (by first | exact be2 HB.out qd.out GE232.out | exact be1 HB.out qd.out | exact be HB.out)⟩
 ·rw [if_neg c3] at H
  have c3b0 : (a0_0.toList == a1_0.toList) = false := beq_eq_false_iff_ne.mpr c3; have c3b1 : (a0_0.toList != a1_0.toList) = true := bne_iff_ne.mpr c3; obtain rfl := Option.some.inj H
  go_enter Tryd.func128, Tryd.ntmps128
  go_wp2_with (first | ((with_reducible refine gd 2 rfl ?_); refine bx 2 37 (#[.string a0_0, .string a0_1, .bool a0_2]) ?_; intro gb231 hg w21 hbox hb; refine Ya4 (below_step (be HB.out) hb) (hbox) (bs hg (be HB.out)) (bs hg (be HB.out)) ?_; clear HB; intro HB qc GW231 qd; clear hb hbox hg) | ((with_reducible refine gd 3 rfl ?_); refine bx 3 37 (#[.string a1_0, .string a1_1, .bool a1_2]) ?_; intro gb232 hg w22 hbox hb; refine Ya7 (bb qc hb) (below_step (be1 HB.out qd.out) hb) (hbox) (bs hg (be1 HB.out qd.out)) (bs hg (be1 HB.out qd.out)) (bl hg qc) (br hg qc) ?_; clear qc HB; intro qc HB BK232 GW232 GE232 qe qf; clear hb hbox hg; have hnb23 := qe.out; have hnc23 := qf.out; have ⟨hcz24_0, hcz24_1, hcz24_2, hfz24_0, hfz24_1, hfz24_2⟩ := Yc3 qc.out; have ⟨hcz25_0, hcz25_1, hcz25_2, hfz25_0, hfz25_1, hfz25_2⟩ := Yc3 BK232.out))
  go_ret
  exact ⟨Ye2, (by first | exact be2 HB.out qd.out GE232.out | exact be1 HB.out qd.out | exact be HB.out)⟩

/-! ### laws_eqEntryS: function 72 -/
def laws_eqEntryS.l0 : Nat → List (S37) → List (S37) → Int → Option (Bool)
 | 0, _, _, _ => none
 | k + 1, x0, x1, x5 => if x5 < (x0.length : Int) then (if 0 ≤ x5 then (if x5 < (x1.length : Int) then ((laws_eqEntry.f ((rd_T37 x0 x5).f0) ((rd_T37 x0 x5).f1) ((rd_T37 x0 x5).f2) ((rd_T37 x1 x5).f0) ((rd_T37 x1 x5).f1) ((rd_T37 x1 x5).f2)).bind fun t235 => (if t235 = true then (laws_eqEntryS.l0 k x0 x1 (wrap64 (x5 + 1))) else (some false))) else (none)) else (none)) else (some true)
def laws_eqEntryS.f (k : Nat) (l0 : List (S37)) (l1 : List (S37)) : Option (Bool) := if (l0.length : Int) = (l1.length : Int) then (laws_eqEntryS.l0 k l0 l1 0) else (some false)
theorem laws_eqEntryS.mono_l : ∀ k, (∀ y0 y1 y2, LeO (laws_eqEntryS.l0 k y0 y1 y2) (laws_eqEntryS.l0 (k + 1) y0 y1 y2))
 | 0 => fun _ _ _ r h => by simp [laws_eqEntryS.l0] at h
 | k + 1 => by
  have ih0 := laws_eqEntryS.mono_l k
  ·intro y0 y1 y2
   unfold laws_eqEntryS.l0
   repeat' first
   | (with_reducible exact ih0 _ _ _)
   | (with_reducible exact LeO.refl _)
   | (with_reducible exact LeO.none _)
   | (with_reducible refine LeO.ite ?_ ?_)
   | (with_reducible refine LeO.bind ?_ (fun _ => ?_))
   | exact ih0 _ _ _
   | exact LeO.none _
   | refine LeO.ite ?_ ?_
   | refine LeO.bind ?_ (fun _ => ?_)
theorem laws_eqEntryS.mono : ∀ a0 a1 k, LeO (laws_eqEntryS.f k a0 a1) (laws_eqEntryS.f (k + 1) a0 a1) := by
 intro a0 a1 k; have ih0 := laws_eqEntryS.mono_l k
 unfold laws_eqEntryS.f
 repeat' first
   | (with_reducible exact ih0 _ _ _)
   | (with_reducible exact LeO.refl _)
   | (with_reducible exact LeO.none _)
   | (with_reducible refine LeO.ite ?_ ?_)
   | (with_reducible refine LeO.bind ?_ (fun _ => ?_))
   | exact ih0 _ _ _
   | exact LeO.none _
   | refine LeO.ite ?_ ?_
   | refine LeO.bind ?_ (fun _ => ?_)
def laws_eqEntryS.T6 : Bool × List (List Nat × List Nat) := (true, [([], []), ([], []), ([0, 1], [0, 1]), ([2], [2]), ([], []), ([], []), ([4, 5], [4, 5]), ([6], [6]), ([3, 7], [3, 7]), ([8], [8])])
def laws_eqEntryS.B6 : List Nat := [0, 0, 3, 7, 0, 0, 48, 112, 255, 511]
theorem laws_eqEntryS.tab6 : rtab .any (opsOf Tryd.f72 6) = laws_eqEntryS.T6 := by kernel_rfl
theorem laws_eqEntryS.bits6 : waitsOk laws_eqEntryS.T6.2 laws_eqEntryS.B6 = true := by kernel_rfl
set_option maxHeartbeats 8000000 in
set_option maxRecDepth 100000 in
theorem laws_eqEntryS.calls (k : Nat) (A0 : Option Addr) (c0 : Nat) (l0 : List (S37)) (A1 : Option Addr) (c1 : Nat) (l1 : List (S37)) (r : Bool) (w : World) (hr0 : Kd.C k37 w A0 l0.length l0) (hc0 : l0.length ≤ c0) (hr1 : Kd.C k37 w A1 l1.length l1) (hc1 : l1.length ≤ c1) (h : laws_eqEntryS.f k l0 l1 = some r) :
  Calls Tryd.prog 72 #[.slice A0 l0.length c0, .slice A1 l1.length c1] w fun e w' => e = .returned (.bool r) ∧ Below w.heap.size w w' := by
 have hu37 := Tryd.underlying37; have HR0 := Aside0.mk hr0; have HC0 := Aside0.mk hc0; clear hr0 hc0; have HR1 := Aside0.mk hr1; have HC1 := Aside0.mk hc1; clear hr1 hc1; have HB := Aside0.mk (Below.refl w.heap.size w); have H : (if (l0.length : Int) = (l1.length : Int) then (laws_eqEntryS.l0 k l0 l1 0) else (some false)) = some r := h; clear h
 by_cases c3 : (l0.length : Int) = (l1.length : Int)
 ·rw [if_pos c3] at H
  have c3b0 : ((l0.length : Int) == (l1.length : Int)) = true := beq_iff_eq.mpr c3; have c3b1 : ((l0.length : Int) != (l1.length : Int)) = false := bne_eq_false_iff_eq.mpr c3
  have c3b2 : (l0.length == l1.length) = true := by first | simpa using c3 | (simp at c3 ⊢; omega)
  clear c3; have H' := Aside0.mk H; clear H
  go_enter Tryd.func72, Tryd.ntmps72
  go_wp2
  go_loopg [5] k (fun kq v5 w' => ∃ (qa : Int), v5 = .int .i64 qa ∧ Aside0 (laws_eqEntryS.l0 kq l0 l1 qa = some r) ∧ Aside0 (kq ≤ k) ∧ Aside0 (Below w.heap.size w w'))
  case atStart => exact ⟨(0), Ye1, H', ⟨Nat.le_refl _⟩, ⟨be HB.out⟩⟩
  case round =>
   clear H'; (try clear c1); (try clear p2); (try clear c3); (try clear c3b0); (try clear c3b1); (try clear c3b2); obtain ⟨qa, rfl, HA, HK1, HB⟩ := hrel
   cases gk with
   | zero => exact absurd HA.out (by simp [laws_eqEntryS.l0])
   | succ k1 =>
    have H := HA.out; clear HA; simp only [laws_eqEntryS.l0] at H
    by_cases c4 : qa < (l0.length : Int)
    ·rw [if_pos c4] at H
     have c4b0 : decide (qa < (l0.length : Int)) = true := decide_eq_true c4; clear c4
     by_cases c5 : 0 ≤ qa
     ·rw [if_pos c5] at H
      have c5b0 : decide (0 ≤ qa) = true := decide_eq_true c5; clear c5
      by_cases c6 : qa < (l1.length : Int)
      ·rw [if_pos c6] at H
       have c6b0 : decide (qa < (l1.length : Int)) = true := decide_eq_true c6; clear c6; replace H := Option.bind_eq_some_iff.mp H; obtain ⟨t235, A70, H⟩ := H; replace H : (if t235 = true then (laws_eqEntryS.l0 k1 l0 l1 (wrap64 (qa + 1))) else (some false)) = some r := H; have A7 := Aside0.mk A70; clear A70
       by_cases c8 : t235 = true
       ·subst c8
        have H1 : (laws_eqEntryS.l0 k1 l0 l1 (wrap64 (qa + 1))) = some r := by rw [if_pos rfl] at H; exact H
        clear H; have H := H1; clear H1; have H' := Aside0.mk H; clear H
        try go_wp2
        refine Ya1 (below_drew1 HB.out) ?_; clear HB; intro HB; have p233 : 0 ≤ (qa : Int) := oda; have q233 : qa < (l0.length : Int) := oda; obtain ⟨ad233, e233, hx233_0, hx233_1, hx233_2⟩ := at_T37 HR0.out qa p233 q233; have hw233_2 := hx233_2; have hw233_1 := hx233_1; have hw233_0 := hx233_0
        cases e233
        replace hx233_0 := pw_cell_below HB.out hx233_0; replace hx233_1 := pw_cell_below HB.out hx233_1; replace hx233_2 := pw_cell_below HB.out hx233_2; replace p233 := eq_true p233; replace q233 := eq_true q233; have p234 : 0 ≤ (qa : Int) := oda; have q234 : qa < (l1.length : Int) := oda; obtain ⟨ad234, e234, hx234_0, hx234_1, hx234_2⟩ := at_T37 HR1.out qa p234 q234; have hw234_2 := hx234_2; have hw234_1 := hx234_1; have hw234_0 := hx234_0
        cases e234
        replace hx234_0 := pw_cell_below HB.out hx234_0; replace hx234_1 := pw_cell_below HB.out hx234_1; replace hx234_2 := pw_cell_below HB.out hx234_2; replace p234 := eq_true p234; replace q234 := eq_true q234; refine start_ (n := 10) (S := fun w' => w'.cell? (ad233.add ((qa).toNat * 3)) = some (.string ((rd_T37 l0 qa).f0)) ∧ w'.cell? ⟨(ad233.add ((qa).toNat * 3)).block, (ad233.add ((qa).toNat * 3)).off + 1, none⟩ = some (.string ((rd_T37 l0 qa).f1)) ∧ w'.cell? ⟨(ad233.add ((qa).toNat * 3)).block, (ad233.add ((qa).toNat * 3)).off + 2, none⟩ = some (.bool ((rd_T37 l0 qa).f2)) ∧ w'.cell? (ad234.add ((qa).toNat * 3)) = some (.string ((rd_T37 l1 qa).f0)) ∧ w'.cell? ⟨(ad234.add ((qa).toNat * 3)).block, (ad234.add ((qa).toNat * 3)).off + 1, none⟩ = some (.string ((rd_T37 l1 qa).f1)) ∧ w'.cell? ⟨(ad234.add ((qa).toNat * 3)).block, (ad234.add ((qa).toNat * 3)).off + 2, none⟩ = some (.bool ((rd_T37 l1 qa).f2))) (ds := []) (fb 10 0) (by kernel_rfl) rfl rfl ⟨(pw_cell_below HB.out hw233_0), (pw_cell_below HB.out hw233_1), (pw_cell_below HB.out hw233_2), (pw_cell_below HB.out hw234_0), (pw_cell_below HB.out hw234_1), (pw_cell_below HB.out hw234_2)⟩ (fun hHeld => ?_); refine with_tabW laws_eqEntryS.tab6 laws_eqEntryS.bits6 (fun HT_ HW_ => ?_); generalize wr.drew = w9 at HB hx233_0 hx233_1 hx233_2 hx234_0 hx234_1 hx234_2 hHeld ⊢; refine pu 0 17 (fb 10 1) HT_ ?_; refine pu 1 18 (fb 10 3) HT_ ?_; refine pu 2 19 (fb 10 7) HT_ ?_; refine pu 4 21 (fb 10 23) HT_ ?_; refine pu 5 22 (fb 10 55) HT_ ?_; refine pu 6 23 (fb 10 119) HT_ ?_; refine tk 3 20 (fb 10 127) HT_ HW_ hHeld ?_; refine tk 7 24 (fb 10 255) HT_ HW_ hHeld ?_; refine one_ (i := 8) (N := some 25) (fb 10 511) rfl rfl (one_of HT_.out (by kernel_rfl)) (by decide) (fun K hK => ?_); refine gs _ (#[.agg #[.string ((rd_T37 l0 qa).f0), .string ((rd_T37 l0 qa).f1), .bool ((rd_T37 l0 qa).f2)], .agg #[.string ((rd_T37 l1 qa).f0), .string ((rd_T37 l1 qa).f1), .bool ((rd_T37 l1 qa).f2)]]) Tryd.func128 ?_; (with_reducible refine (laws_eqEntry.calls ((rd_T37 l0 qa).f0) ((rd_T37 l0 qa).f1) ((rd_T37 l0 qa).f2) ((rd_T37 l1 qa).f0) ((rd_T37 l1 qa).f1) ((rd_T37 l1 qa).f2) true _ A7.out).mono ?_); rintro e w10 ⟨rfl, hb⟩; refine ⟨_, rfl, ?_⟩; refine Ya1 (below_step (be HB.out) hb) ?_; clear HB; intro HB; (try clear hb); (try clear hb2); (try clear hk); (try clear hi); refine hK.out _ _ ⟨(pw_cell_below HB.out hw233_0), (pw_cell_below HB.out hw233_1), (pw_cell_below HB.out hw233_2), (pw_cell_below HB.out hw234_0), (pw_cell_below HB.out hw234_1), (pw_cell_below HB.out hw234_2)⟩ (fun hHeld => ?_); clear hK K; refine norm_ (a' := ?_) ?_ ?_; rotate_left
        ·show Act.put _ (some 25) _ = _
         simp only [Act.put, List.setIfInBounds_toArray, List.set_cons_zero, List.set_cons_succ, i64_w, i32_w]; rfl
        refine pu 9 26 (fb 10 1023) HT_ ?_; refine done_ (done_of HT_.out (by kernel_rfl)) ?_
        try go_wp2
        go_roundg k1
        case measure => have := HK1.out; omega
        case rel => exact ⟨(wrap64 (qa + 1)), Ye1, H', ⟨by have := HK1.out; omega⟩, ⟨be HB.out⟩⟩
       ·replace c8 := Bool.eq_false_iff.mpr c8; subst c8
        have H1 : (some false) = some r := by rw [if_neg (show ¬ (false = true) by decide)] at H; exact H
        clear H; have H := H1; clear H1; obtain rfl := Option.some.inj H
        try go_wp2
        refine Ya1 (below_drew1 HB.out) ?_; clear HB; intro HB; have p233 : 0 ≤ (qa : Int) := oda; have q233 : qa < (l0.length : Int) := oda; obtain ⟨ad233, e233, hx233_0, hx233_1, hx233_2⟩ := at_T37 HR0.out qa p233 q233; have hw233_2 := hx233_2; have hw233_1 := hx233_1; have hw233_0 := hx233_0
        cases e233
        replace hx233_0 := pw_cell_below HB.out hx233_0; replace hx233_1 := pw_cell_below HB.out hx233_1; replace hx233_2 := pw_cell_below HB.out hx233_2; replace p233 := eq_true p233; replace q233 := eq_true q233; have p234 : 0 ≤ (qa : Int) := oda; have q234 : qa < (l1.length : Int) := oda; obtain ⟨ad234, e234, hx234_0, hx234_1, hx234_2⟩ := at_T37 HR1.out qa p234 q234; have hw234_2 := hx234_2; have hw234_1 := hx234_1; have hw234_0 := hx234_0
        cases e234
        replace hx234_0 := pw_cell_below HB.out hx234_0; replace hx234_1 := pw_cell_below HB.out hx234_1; replace hx234_2 := pw_cell_below HB.out hx234_2; replace p234 := eq_true p234; replace q234 := eq_true q234; refine start_ (n := 10) (S := fun w' => w'.cell? (ad233.add ((qa).toNat * 3)) = some (.string ((rd_T37 l0 qa).f0)) ∧ w'.cell? ⟨(ad233.add ((qa).toNat * 3)).block, (ad233.add ((qa).toNat * 3)).off + 1, none⟩ = some (.string ((rd_T37 l0 qa).f1)) ∧ w'.cell? ⟨(ad233.add ((qa).toNat * 3)).block, (ad233.add ((qa).toNat * 3)).off + 2, none⟩ = some (.bool ((rd_T37 l0 qa).f2)) ∧ w'.cell? (ad234.add ((qa).toNat * 3)) = some (.string ((rd_T37 l1 qa).f0)) ∧ w'.cell? ⟨(ad234.add ((qa).toNat * 3)).block, (ad234.add ((qa).toNat * 3)).off + 1, none⟩ = some (.string ((rd_T37 l1 qa).f1)) ∧ w'.cell? ⟨(ad234.add ((qa).toNat * 3)).block, (ad234.add ((qa).toNat * 3)).off + 2, none⟩ = some (.bool ((rd_T37 l1 qa).f2))) (ds := []) (fb 10 0) (by kernel_rfl) rfl rfl ⟨(pw_cell_below HB.out hw233_0), (pw_cell_below HB.out hw233_1), (pw_cell_below HB.out hw233_2), (pw_cell_below HB.out hw234_0), (pw_cell_below HB.out hw234_1), (pw_cell_below HB.out hw234_2)⟩ (fun hHeld => ?_); refine with_tabW laws_eqEntryS.tab6 laws_eqEntryS.bits6 (fun HT_ HW_ => ?_); generalize wr.drew = w11 at HB hx233_0 hx233_1 hx233_2 hx234_0 hx234_1 hx234_2 hHeld ⊢; refine pu 0 17 (fb 10 1) HT_ ?_; refine pu 1 18 (fb 10 3) HT_ ?_; refine pu 2 19 (fb 10 7) HT_ ?_; refine pu 4 21 (fb 10 23) HT_ ?_; refine pu 5 22 (fb 10 55) HT_ ?_; refine pu 6 23 (fb 10 119) HT_ ?_; refine tk 3 20 (fb 10 127) HT_ HW_ hHeld ?_; refine tk 7 24 (fb 10 255) HT_ HW_ hHeld ?_; refine one_ (i := 8) (N := some 25) (fb 10 511) rfl rfl (one_of HT_.out (by kernel_rfl)) (by decide) (fun K hK => ?_); refine gs _ (#[.agg #[.string ((rd_T37 l0 qa).f0), .string ((rd_T37 l0 qa).f1), .bool ((rd_T37 l0 qa).f2)], .agg #[.string ((rd_T37 l1 qa).f0), .string ((rd_T37 l1 qa).f1), .bool ((rd_T37 l1 qa).f2)]]) Tryd.func128 ?_; (with_reducible refine (laws_eqEntry.calls ((rd_T37 l0 qa).f0) ((rd_T37 l0 qa).f1) ((rd_T37 l0 qa).f2) ((rd_T37 l1 qa).f0) ((rd_T37 l1 qa).f1) ((rd_T37 l1 qa).f2) false _ A7.out).mono ?_); rintro e w12 ⟨rfl, hb⟩; refine ⟨_, rfl, ?_⟩; refine Ya1 (below_step (be HB.out) hb) ?_; clear HB; intro HB; (try clear hb); (try clear hb2); (try clear hk); (try clear hi); refine hK.out _ _ ⟨(pw_cell_below HB.out hw233_0), (pw_cell_below HB.out hw233_1), (pw_cell_below HB.out hw233_2), (pw_cell_below HB.out hw234_0), (pw_cell_below HB.out hw234_1), (pw_cell_below HB.out hw234_2)⟩ (fun hHeld => ?_); clear hK K; refine norm_ (a' := ?_) ?_ ?_; rotate_left
        ·show Act.put _ (some 25) _ = _
         simp only [Act.put, List.setIfInBounds_toArray, List.set_cons_zero, List.set_cons_succ, i64_w, i32_w]; rfl
        refine pu 9 26 (fb 10 1023) HT_ ?_; refine done_ (done_of HT_.out (by kernel_rfl)) ?_
        try go_wp2
        go_ret
        exact ⟨Ye2, be HB.out⟩
      ·rw [if_neg c6] at H
       exact absurd H (by simp)
     ·rw [if_neg c5] at H
      exact absurd H (by simp)
    ·rw [if_neg c4] at H
     have c4b0 : decide (qa < (l0.length : Int)) = false := decide_eq_false c4; clear c4; obtain rfl := Option.some.inj H
     go_wp2
     go_ret
     exact ⟨Ye2, be HB.out⟩
 ·rw [if_neg c3] at H
  have c3b0 : ((l0.length : Int) == (l1.length : Int)) = false := beq_eq_false_iff_ne.mpr c3; have c3b1 : ((l0.length : Int) != (l1.length : Int)) = true := bne_iff_ne.mpr c3
  have c3b2 : (l0.length == l1.length) = false := by first | simpa using c3 | (simp at c3 ⊢; omega)
  obtain rfl := Option.some.inj H
  go_enter Tryd.func72, Tryd.ntmps72
  go_wp2
  go_ret
  exact ⟨Ye2, be HB.out⟩

end Go.Proofs.YtgnmledjkamojaaDoor.P


namespace Go.Proofs.YtgnmledjkamojaaDoor.P
open Go.RowKit Go.Proofs.YtgnmledjkamojaaDoorW.PrintWords Go.Proofs.YtgnmledjkamojaaDoorW.PrintLast Go.Proofs.YtgnmledjkamojaaDoorW.PrintMore
attribute [local go_sem] max2_int min2_int max_two min_two max_three min_three max_four min_four
set_option linter.unusedVariables false
set_option linter.unusedSimpArgs false

/-! ### laws_szTree: function 13 -/
def laws_szTree.f (k : Nat) (qa : List (S172)) (a1 : Int) : Option (Int) := (laws_szEntryS.f k qa a1).bind fun t105 => (if t105 < 0 then (some (-1)) else (some t105))
theorem laws_szTree.mono : ∀ a0 a1 k, LeO (laws_szTree.f k a0 a1) (laws_szTree.f (k + 1) a0 a1) := by
 intro a0 a1 k
 unfold laws_szTree.f
 repeat' first
   | (with_reducible exact laws_szEntryS.mono _ _ _)
   | (with_reducible exact LeO.refl _)
   | (with_reducible exact LeO.none _)
   | (with_reducible refine LeO.ite ?_ ?_)
   | (with_reducible refine LeO.bind ?_ (fun _ => ?_))
   | exact laws_szEntryS.mono _ _ _
   | exact LeO.none _
   | refine LeO.ite ?_ ?_
   | refine LeO.bind ?_ (fun _ => ?_)
set_option maxHeartbeats 8000000 in
set_option maxRecDepth 100000 in
theorem laws_szTree.calls (k : Nat) (A0_0 : Option Addr) (c0_0 : Nat) (qa : List (S172)) (a1 : Int) (r : Int) (w : World) (hr0_0 : Kd.C k172 w A0_0 qa.length qa) (hc0_0 : qa.length ≤ c0_0) (h : laws_szTree.f k qa a1 = some r) :
  Calls Tryd.prog 13 #[.agg #[.slice A0_0 qa.length c0_0], .int .i64 a1] w fun e w' => e = .returned (.int .i64 r) ∧ Below w.heap.size w w' := by
 have hu24 := Tryd.underlying24; have HR0_0 := Aside0.mk hr0_0; have HC0_0 := Aside0.mk hc0_0; clear hr0_0 hc0_0; have HB := Aside0.mk (Below.refl w.heap.size w); have H : ((laws_szEntryS.f k qa a1).bind fun t105 => (if t105 < 0 then (some (-1)) else (some t105))) = some r := h; clear h; replace H := Option.bind_eq_some_iff.mp H; obtain ⟨t105, A30, H⟩ := H; replace H : (if t105 < 0 then (some (-1)) else (some t105)) = some r := H; have A3 := Aside0.mk A30; clear A30
 by_cases c4 : t105 < 0
 ·rw [if_pos c4] at H
  have c4b0 : decide (t105 < 0) = true := decide_eq_true c4; clear c4; obtain rfl := Option.some.inj H
  go_enter Tryd.func13, Tryd.ntmps13
  go_wp2_with (first | ((with_reducible refine gd 2 rfl ?_); refine bx 2 24 (#[.slice A0_0 qa.length c0_0]) ?_; intro gb104 hg w5 hbox hb; refine Ya4 (below_step (be HB.out) hb) (hbox) (bs hg (be HB.out)) (bs hg (be HB.out)) ?_; clear HB; intro HB BK104 GW104 GE104; clear hb hbox hg; have ⟨hcz6_0, hfz6_0⟩ := Yc1 BK104.out) | ((with_reducible refine gc 62 rfl ?_); refine gl (some 8) _ (#[.slice A0_0 qa.length c0_0, .int .i64 a1]) Tryd.func62 ?_; (with_reducible refine (laws_szEntryS.calls k _ _ qa a1 t105 _ ?side1 ?side2 A3.out).mono ?_); (case side1 => exact cb (Kd.C_below HR0_0.out HB.out)); (case side2 => exact HC0_0.out); rintro e w7 ⟨rfl, hb⟩; refine ⟨_, rfl, ?_⟩; refine Ya2 (bb BK104 hb) (below_step (be1 HB.out GE104.out) hb) ?_; clear BK104 HB; intro BK104 HB; (try clear hb); (try clear hb2); (try clear hk); (try clear hi)))
  go_ret
  exact ⟨Ye2, (by first | exact be1 HB.out GE104.out | exact be HB.out)⟩
 ·rw [if_neg c4] at H
  have c4b0 : decide (t105 < 0) = false := decide_eq_false c4; clear c4; obtain rfl := Option.some.inj H
  go_enter Tryd.func13, Tryd.ntmps13
  go_wp2_with (first | ((with_reducible refine gd 2 rfl ?_); refine bx 2 24 (#[.slice A0_0 qa.length c0_0]) ?_; intro gb104 hg w8 hbox hb; refine Ya4 (below_step (be HB.out) hb) (hbox) (bs hg (be HB.out)) (bs hg (be HB.out)) ?_; clear HB; intro HB BK104 GW104 GE104; clear hb hbox hg; have ⟨hcz9_0, hfz9_0⟩ := Yc1 BK104.out) | ((with_reducible refine gc 62 rfl ?_); refine gl (some 8) _ (#[.slice A0_0 qa.length c0_0, .int .i64 a1]) Tryd.func62 ?_; (with_reducible refine (laws_szEntryS.calls k _ _ qa a1 t105 _ ?side1 ?side2 A3.out).mono ?_); (case side1 => exact cb (Kd.C_below HR0_0.out HB.out)); (case side2 => exact HC0_0.out); rintro e w10 ⟨rfl, hb⟩; refine ⟨_, rfl, ?_⟩; refine Ya2 (bb BK104 hb) (below_step (be1 HB.out GE104.out) hb) ?_; clear BK104 HB; intro BK104 HB; (try clear hb); (try clear hb2); (try clear hk); (try clear hi)))
  go_ret
  exact ⟨Ye2, (by first | exact be1 HB.out GE104.out | exact be HB.out)⟩

/-! ### laws_toTree: function 15 -/
def laws_toTree.f (k : Nat) (qa : List (S172)) : Option ((List (S37))) := (laws_toEntryS.f k qa).bind fun t189 => (some t189)
theorem laws_toTree.mono : ∀ a0 k, LeO (laws_toTree.f k a0) (laws_toTree.f (k + 1) a0) := by
 intro a0 k
 unfold laws_toTree.f
 repeat' first
   | (with_reducible exact laws_toEntryS.mono _ _)
   | (with_reducible exact LeO.refl _)
   | (with_reducible exact LeO.none _)
   | (with_reducible refine LeO.ite ?_ ?_)
   | (with_reducible refine LeO.bind ?_ (fun _ => ?_))
   | exact laws_toEntryS.mono _ _
   | exact LeO.none _
   | refine LeO.ite ?_ ?_
   | refine LeO.bind ?_ (fun _ => ?_)
set_option maxHeartbeats 8000000 in
set_option maxRecDepth 100000 in
theorem laws_toTree.calls (k : Nat) (A0_0 : Option Addr) (c0_0 : Nat) (qa : List (S172)) (r : List (S37)) (w : World) (hr0_0 : Kd.C k172 w A0_0 qa.length qa) (hc0_0 : qa.length ≤ c0_0) (h : laws_toTree.f k qa = some r) :
  Calls Tryd.prog 15 #[.agg #[.slice A0_0 qa.length c0_0]] w fun e w' => ∃ v0_ : Value, e = .returned (.agg #[v0_]) ∧ Kd.R k37 37 w' w.heap.size (fun _ => True) v0_ r ∧ Below w.heap.size w w' := by
 have hu24 := Tryd.underlying24; have hu28 := Tryd.underlying28; have HR0_0 := Aside0.mk hr0_0; have HC0_0 := Aside0.mk hc0_0; clear hr0_0 hc0_0; have HB := Aside0.mk (Below.refl w.heap.size w); have H : ((laws_toEntryS.f k qa).bind fun t189 => (some t189)) = some r := h; clear h; replace H := Option.bind_eq_some_iff.mp H; obtain ⟨t189, A20, H⟩ := H; replace H : (some t189) = some r := H; have A2 := Aside0.mk A20; clear A20; obtain rfl := Option.some.inj H
 go_enter Tryd.func15, Tryd.ntmps15
 go_wp2_with (first | ((with_reducible refine gd 1 rfl ?_); refine bx 1 24 (#[.slice A0_0 qa.length c0_0]) ?_; intro gb186 hg w3 hbox hb; refine Ya4 (below_step (be HB.out) hb) (hbox) (bs hg (be HB.out)) (bs hg (be HB.out)) ?_; clear HB; intro HB qc GW186 GE186; clear hb hbox hg) | ((with_reducible refine gd 2 rfl ?_); refine bx 2 28 (#[.slice none 0 0]) ?_; intro gb187 hg w4 hbox hb; refine Ya7 (bb qc hb) (below_step (be1 HB.out GE186.out) hb) (hbox) (bs hg (be1 HB.out GE186.out)) (bs hg (be1 HB.out GE186.out)) (bl hg qc) (br hg qc) ?_; clear qc HB; intro qc HB BK187 GW187 GE187 NB186_187 NB187_186; clear hb hbox hg) | ((with_reducible refine gd 3 rfl ?_); refine bx 3 28 (#[.slice none 0 0]) ?_; intro gb188 hg w5 hbox hb; have n0_ := Aside0.mk (bb qc hb); have n1_ := Aside0.mk (bb BK187 hb); have n2_ := Aside0.mk (below_step (be2 HB.out GE186.out GE187.out) hb); have n3_ := Aside0.mk (hbox); have n4_ := Aside0.mk (bs hg (be2 HB.out GE186.out GE187.out)); have n5_ := Aside0.mk (bs hg (be2 HB.out GE186.out GE187.out)); have n6_ := Aside0.mk (bl hg qc); have n7_ := Aside0.mk (br hg qc); have n8_ := Aside0.mk (bl hg BK187); have n9_ := Aside0.mk (br hg BK187); clear qc; clear BK187; clear HB; have qc := n0_; have BK187 := n1_; have HB := n2_; have BK188 := n3_; have GW188 := n4_; have GE188 := n5_; have NB186_188 := n6_; have NB188_186 := n7_; have NB187_188 := n8_; have NB188_187 := n9_; clear n0_ n1_ n2_ n3_ n4_ n5_ n6_ n7_ n8_ n9_; clear hb hbox hg; have hnb6 := NB186_187.out; have hnc6 := NB187_186.out; have hnb7 := NB186_188.out; have hnc7 := NB188_186.out; have ⟨hcz8_0, hfz8_0⟩ := Yc1 qc.out) | ((with_reducible refine gc 66 rfl ?_); refine gl (some 6) _ (#[.slice A0_0 qa.length c0_0]) Tryd.func66 ?_; (with_reducible refine (laws_toEntryS.calls k _ _ qa t189 _ ?side1 ?side2 A2.out).mono ?_); (case side1 => exact cb (Kd.C_below HR0_0.out HB.out)); (case side2 => exact HC0_0.out); rintro e w9 ⟨v190, rfl, ho0, hb⟩; refine ⟨_, rfl, ?_⟩; refine Ya5 (Kd.R_lower ho0 (below_size (be3 HB.out GE186.out GE187.out GE188.out))) (bb qc hb) (bb BK187 hb) (bb BK188 hb) (below_step (be3 HB.out GE186.out GE187.out GE188.out) hb) ?_; clear qc BK187 BK188 HB; intro HO191 qc BK187 BK188 HB; (try clear hb); (try clear hb2); (try clear hk); (try clear hi); (try clear ho0); obtain ⟨Ao10, co10, eo10⟩ := Kd.R_slice HO191.out; subst eo10; have hnb11 := NB188_187.out; have hnc11 := NB187_188.out; have ⟨hcz12_0, hfz12_0⟩ := Yc1 BK188.out; have ⟨hcz13_0, hfz13_0⟩ := Yc1 BK187.out))
 refine bodyPost_ret (results_cell_row rfl _ _ gb187 28 #[.slice Ao10 t189.length co10] (0, 0) _ rfl (by (with_reducible repeat (first | apply blk_drewN | apply blk_drew | apply blk_alloc)); refine blk_put (cs := #[.slice none 0 0]) ?_ 0 _ rfl; (with_reducible repeat (first | apply blk_drewN | apply blk_drew | apply blk_alloc)); refine blk_far ?_ NB187_188.out _; (with_reducible repeat (first | apply blk_drewN | apply blk_drew | apply blk_alloc)); exact BK187.out) Tryd.underlying28 rfl (by kernel_rfl)) rfl ?_; exact ⟨_, Ye2, by (with_reducible repeat (first | apply Kd.R_alloc | apply Kd.R_drewN | apply Kd.R_drew)); exact Kd.R_mono (Kd.R_far (p := ⟨gb187, 0, none⟩) (Kd.R_far (p := ⟨gb188, 0, none⟩) (Kd.R_types (Kd.R_types HO191.out BK188.out (by decide)) BK187.out (by decide)) (fun _ hk => hk.1.2) (.slice Ao10 t189.length co10)) (fun _ hk => hk.2) (.slice Ao10 t189.length co10)) (fun _ hk => trivial), (by first | exact be3 HB.out GE186.out GE187.out GE188.out | exact be2 HB.out GE186.out GE187.out | exact be1 HB.out GE186.out)⟩

/-! ### laws_eqTree: function 17 -/
def laws_eqTree.f (k : Nat) (qa : List (S37)) (l1_0 : List (S37)) : Option (Bool) := (laws_eqEntryS.f k qa l1_0).bind fun t238 => (if t238 = true then (some true) else (some false))
theorem laws_eqTree.mono : ∀ a0 a1 k, LeO (laws_eqTree.f k a0 a1) (laws_eqTree.f (k + 1) a0 a1) := by
 intro a0 a1 k
 unfold laws_eqTree.f
 repeat' first
   | (with_reducible exact laws_eqEntryS.mono _ _ _)
   | (with_reducible exact LeO.refl _)
   | (with_reducible exact LeO.none _)
   | (with_reducible refine LeO.ite ?_ ?_)
   | (with_reducible refine LeO.bind ?_ (fun _ => ?_))
   | exact laws_eqEntryS.mono _ _ _
   | exact LeO.none _
   | refine LeO.ite ?_ ?_
   | refine LeO.bind ?_ (fun _ => ?_)
set_option maxHeartbeats 8000000 in
set_option maxRecDepth 100000 in
theorem laws_eqTree.calls (k : Nat) (A0_0 : Option Addr) (c0_0 : Nat) (qa : List (S37)) (A1_0 : Option Addr) (c1_0 : Nat) (l1_0 : List (S37)) (r : Bool) (w : World) (hr0_0 : Kd.C k37 w A0_0 qa.length qa) (hc0_0 : qa.length ≤ c0_0) (hr1_0 : Kd.C k37 w A1_0 l1_0.length l1_0) (hc1_0 : l1_0.length ≤ c1_0) (h : laws_eqTree.f k qa l1_0 = some r) :
  Calls Tryd.prog 17 #[.agg #[.slice A0_0 qa.length c0_0], .agg #[.slice A1_0 l1_0.length c1_0]] w fun e w' => e = .returned (.bool r) ∧ Below w.heap.size w w' := by
 have hu28 := Tryd.underlying28; have HR0_0 := Aside0.mk hr0_0; have HC0_0 := Aside0.mk hc0_0; clear hr0_0 hc0_0; have HR1_0 := Aside0.mk hr1_0; have HC1_0 := Aside0.mk hc1_0; clear hr1_0 hc1_0; have HB := Aside0.mk (Below.refl w.heap.size w); have H : ((laws_eqEntryS.f k qa l1_0).bind fun t238 => (if t238 = true then (some true) else (some false))) = some r := h; clear h; replace H := Option.bind_eq_some_iff.mp H; obtain ⟨t238, A30, H⟩ := H; replace H : (if t238 = true then (some true) else (some false)) = some r := H; have A3 := Aside0.mk A30; clear A30
 by_cases c4 : t238 = true
 ·subst c4
  have H1 : (some true) = some r := by rw [if_pos rfl] at H; exact H
  clear H; have H := H1; clear H1; obtain rfl := Option.some.inj H
  go_enter Tryd.func17, Tryd.ntmps17
  go_wp2_with (first | ((with_reducible refine gd 2 rfl ?_); refine bx 2 28 (#[.slice A0_0 qa.length c0_0]) ?_; intro gb236 hg w5 hbox hb; refine Ya4 (below_step (be HB.out) hb) (hbox) (bs hg (be HB.out)) (bs hg (be HB.out)) ?_; clear HB; intro HB qb GW236 qd; clear hb hbox hg) | ((with_reducible refine gd 3 rfl ?_); refine bx 3 28 (#[.slice A1_0 l1_0.length c1_0]) ?_; intro gb237 hg w6 hbox hb; refine Ya7 (bb qb hb) (below_step (be1 HB.out qd.out) hb) (hbox) (bs hg (be1 HB.out qd.out)) (bs hg (be1 HB.out qd.out)) (bl hg qb) (br hg qb) ?_; clear qb HB; intro qb HB BK237 GW237 GE237 NB236_237 NB237_236; clear hb hbox hg; have hnb7 := NB236_237.out; have hnc7 := NB237_236.out; have ⟨hcz8_0, hfz8_0⟩ := Yc1 qb.out; have ⟨hcz9_0, hfz9_0⟩ := Yc1 BK237.out) | ((with_reducible refine gc 72 rfl ?_); refine gl (some 9) _ (#[.slice A0_0 qa.length c0_0, .slice A1_0 l1_0.length c1_0]) Tryd.func72 ?_; (with_reducible refine (laws_eqEntryS.calls k _ _ qa _ _ l1_0 true _ ?side1 ?side2 ?side3 ?side4 A3.out).mono ?_); (case side1 => exact cb (Kd.C_below HR0_0.out HB.out)); (case side2 => exact HC0_0.out); (case side3 => exact cb (Kd.C_below HR1_0.out HB.out)); (case side4 => exact HC1_0.out); rintro e w10 ⟨rfl, hb⟩; refine ⟨_, rfl, ?_⟩; refine Ya3 (bb qb hb) (bb BK237 hb) (below_step (be2 HB.out qd.out GE237.out) hb) ?_; clear qb BK237 HB; intro qb BK237 HB; (try clear hb); (try clear hb2); (try clear hk); (try clear hi)))
  go_ret
  exact ⟨Ye2, (by first | exact be2 HB.out qd.out GE237.out | exact be1 HB.out qd.out | exact be HB.out)⟩
 ·replace c4 := Bool.eq_false_iff.mpr c4; subst c4
  have H1 : (some false) = some r := by rw [if_neg (show ¬ (false = true) by decide)] at H; exact H
  clear H; have H := H1; clear H1; obtain rfl := Option.some.inj H
  go_enter Tryd.func17, Tryd.ntmps17
  go_wp2_with (first | ((with_reducible refine gd 2 rfl ?_); refine bx 2 28 (#[.slice A0_0 qa.length c0_0]) ?_; intro gb236 hg w11 hbox hb; refine Ya4 (below_step (be HB.out) hb) (hbox) (bs hg (be HB.out)) (bs hg (be HB.out)) ?_; clear HB; intro HB qb GW236 qd; clear hb hbox hg) | ((with_reducible refine gd 3 rfl ?_); refine bx 3 28 (#[.slice A1_0 l1_0.length c1_0]) ?_; intro gb237 hg w12 hbox hb; refine Ya7 (bb qb hb) (below_step (be1 HB.out qd.out) hb) (hbox) (bs hg (be1 HB.out qd.out)) (bs hg (be1 HB.out qd.out)) (bl hg qb) (br hg qb) ?_; clear qb HB; intro qb HB BK237 GW237 GE237 NB236_237 NB237_236; clear hb hbox hg; have hnb13 := NB236_237.out; have hnc13 := NB237_236.out; have ⟨hcz14_0, hfz14_0⟩ := Yc1 qb.out; have ⟨hcz15_0, hfz15_0⟩ := Yc1 BK237.out) | ((with_reducible refine gc 72 rfl ?_); refine gl (some 9) _ (#[.slice A0_0 qa.length c0_0, .slice A1_0 l1_0.length c1_0]) Tryd.func72 ?_; (with_reducible refine (laws_eqEntryS.calls k _ _ qa _ _ l1_0 false _ ?side1 ?side2 ?side3 ?side4 A3.out).mono ?_); (case side1 => exact cb (Kd.C_below HR0_0.out HB.out)); (case side2 => exact HC0_0.out); (case side3 => exact cb (Kd.C_below HR1_0.out HB.out)); (case side4 => exact HC1_0.out); rintro e w16 ⟨rfl, hb⟩; refine ⟨_, rfl, ?_⟩; refine Ya3 (bb qb hb) (bb BK237 hb) (below_step (be2 HB.out qd.out GE237.out) hb) ?_; clear qb BK237 HB; intro qb BK237 HB; (try clear hb); (try clear hb2); (try clear hk); (try clear hi)))
  go_ret
  exact ⟨Ye2, (by first | exact be2 HB.out qd.out GE237.out | exact be1 HB.out qd.out | exact be HB.out)⟩

end Go.Proofs.YtgnmledjkamojaaDoor.P


namespace Go.Proofs.YtgnmledjkamojaaDoor.P
open Go.RowKit Go.Proofs.YtgnmledjkamojaaDoorW.PrintWords Go.Proofs.YtgnmledjkamojaaDoorW.PrintLast Go.Proofs.YtgnmledjkamojaaDoorW.PrintMore
attribute [local go_sem] max2_int min2_int max_two min_two max_three min_three max_four min_four
set_option linter.unusedVariables false
set_option linter.unusedSimpArgs false

/-! ### stringslite_HasPrefix: function 171 -/
def stringslite_HasPrefix.f (a0 : ByteArray) (a1 : ByteArray) : Option (Bool) := if (a0.size : Int) ≥ (a1.size : Int) then (if 0 ≤ (a1.size : Int) then (if (a1.size : Int) ≤ (a0.size : Int) then (some ((a0.extract 0 ((a1.size : Int) : Int).toNat).toList == a1.toList)) else (none)) else (none)) else (some false)
set_option maxHeartbeats 8000000 in
set_option maxRecDepth 100000 in
theorem stringslite_HasPrefix.calls (a0 : ByteArray) (a1 : ByteArray) (r : Bool) (w : World) (h : stringslite_HasPrefix.f a0 a1 = some r) :
  Calls Tryd.prog 171 #[.string a0, .string a1] w fun e w' => e = .returned (.bool r) ∧ Drawn0 w w' := by
 have H : (if (a0.size : Int) ≥ (a1.size : Int) then (if 0 ≤ (a1.size : Int) then (if (a1.size : Int) ≤ (a0.size : Int) then (some ((a0.extract 0 ((a1.size : Int) : Int).toNat).toList == a1.toList)) else (none)) else (none)) else (some false)) = some r := h; clear h
 by_cases c3 : (a0.size : Int) ≥ (a1.size : Int)
 ·rw [if_pos c3] at H
  have c3b0 : decide ((a1.size : Int) ≤ (a0.size : Int)) = true := decide_eq_true c3; have c3b1 : decide (a1.size ≤ a0.size) = true := decide_eq_true (Int.ofNat_le.mp c3); clear c3
  by_cases c4 : 0 ≤ (a1.size : Int)
  ·rw [if_pos c4] at H
   have c4b0 := eq_true c4; have c4b1 : decide (0 ≤ (a1.size : Int)) = true := decide_eq_true c4; clear c4
   by_cases c5 : (a1.size : Int) ≤ (a0.size : Int)
   ·rw [if_pos c5] at H
    have c5b0 := eq_true c5; have c5b1 : decide ((a1.size : Int) ≤ (a0.size : Int)) = true := decide_eq_true c5; clear c5; obtain rfl := Option.some.inj H
    go_enter Tryd.func171, Tryd.ntmps171
    go_wp2
    go_ret
    exact ⟨Ye1, dz⟩
   ·rw [if_neg c5] at H
    exact absurd H (by simp)
  ·rw [if_neg c4] at H
   exact absurd H (by simp)
 ·rw [if_neg c3] at H
  have c3b0 : decide ((a1.size : Int) ≤ (a0.size : Int)) = false := decide_eq_false c3; have c3b1 : decide (a1.size ≤ a0.size) = false := decide_eq_false (fun h => c3 (Int.ofNat_le.mpr h)); clear c3; obtain rfl := Option.some.inj H
  go_enter Tryd.func171, Tryd.ntmps171
  go_wp2
  go_ret
  exact ⟨Ye1, dz⟩

end Go.Proofs.YtgnmledjkamojaaDoor.P


namespace Go.Proofs.YtgnmledjkamojaaDoor.P
open Go.RowKit Go.Proofs.YtgnmledjkamojaaDoorW.PrintWords Go.Proofs.YtgnmledjkamojaaDoorW.PrintLast Go.Proofs.YtgnmledjkamojaaDoorW.PrintMore
attribute [local go_sem] max2_int min2_int max_two min_two max_three min_three max_four min_four
set_option linter.unusedVariables false
set_option linter.unusedSimpArgs false

/-! ### strings_HasPrefix: function 141 -/
def strings_HasPrefix.f (a0 : ByteArray) (a1 : ByteArray) : Option (Bool) := (stringslite_HasPrefix.f a0 a1).bind fun t192 => (some t192)
set_option maxHeartbeats 8000000 in
set_option maxRecDepth 100000 in
theorem strings_HasPrefix.calls (a0 : ByteArray) (a1 : ByteArray) (r : Bool) (w : World) (h : strings_HasPrefix.f a0 a1 = some r) :
  Calls Tryd.prog 141 #[.string a0, .string a1] w fun e w' => e = .returned (.bool r) ∧ Drawn0 w w' := by
 have H : ((stringslite_HasPrefix.f a0 a1).bind fun t192 => (some t192)) = some r := h; clear h; replace H := Option.bind_eq_some_iff.mp H; obtain ⟨t192, A30, H⟩ := H; replace H : (some t192) = some r := H; have A3 := Aside0.mk A30; clear A30; obtain rfl := Option.some.inj H
 go_enter Tryd.func141, Tryd.ntmps141
 go_wp2_with (first | ((with_reducible refine gc 171 rfl ?_); refine gl (some 7) _ (#[.string a0, .string a1]) Tryd.func171 ?_; (with_reducible refine (stringslite_HasPrefix.calls a0 a1 t192 _ A3.out).mono ?_); rintro e w' ⟨rfl, ⟨nd, rfl⟩⟩; refine ⟨_, rfl, ?_⟩))
 go_ret
 exact ⟨Ye1, dz⟩

end Go.Proofs.YtgnmledjkamojaaDoor.P


namespace Go.Proofs.YtgnmledjkamojaaDoor.P
open Go.RowKit Go.Proofs.YtgnmledjkamojaaDoorW.PrintWords Go.Proofs.YtgnmledjkamojaaDoorW.PrintLast Go.Proofs.YtgnmledjkamojaaDoorW.PrintMore
attribute [local go_sem] max2_int min2_int max_two min_two max_three min_three max_four min_four
set_option linter.unusedVariables false
set_option linter.unusedSimpArgs false

/-! ### impl_over: function 70 -/
def impl_over.f (a0 : ByteArray) (a1 : ByteArray) : Option (Bool) := if a0.size + 1 ≤ 9223372036854775807 then ((strings_HasPrefix.f a1 (a0 ++ (⟨#[47]⟩ : ByteArray))).bind fun t193 => (some t193)) else (none)
set_option maxHeartbeats 8000000 in
set_option maxRecDepth 100000 in
theorem impl_over.calls (a0 : ByteArray) (a1 : ByteArray) (r : Bool) (w : World) (h : impl_over.f a0 a1 = some r) :
  Calls Tryd.prog 70 #[.string a0, .string a1] w fun e w' => e = .returned (.bool r) ∧ Drawn0 w w' := by
 have H : (if a0.size + 1 ≤ 9223372036854775807 then ((strings_HasPrefix.f a1 (a0 ++ (⟨#[47]⟩ : ByteArray))).bind fun t193 => (some t193)) else (none)) = some r := h; clear h
 by_cases c3 : a0.size + 1 ≤ 9223372036854775807
 ·rw [if_pos c3] at H
  have c3b0 := eq_true c3; have c3b1 : decide (a0.size + 1 ≤ 9223372036854775807) = true := decide_eq_true c3
  try have c3b2 : (9223372036854775807 < a0.size + 1) = False := eq_false (Nat.not_lt.2 c3)
  replace H := Option.bind_eq_some_iff.mp H; obtain ⟨t193, A40, H⟩ := H; replace H : (some t193) = some r := H; have A4 := Aside0.mk A40; clear A40; obtain rfl := Option.some.inj H
  go_enter Tryd.func70, Tryd.ntmps70
  go_wp2_with (first | ((with_reducible refine gc 141 rfl ?_); refine gl (some 8) _ (#[.string a1, .string (a0 ++ (⟨#[47]⟩ : ByteArray))]) Tryd.func141 ?_; (with_reducible refine (strings_HasPrefix.calls a1 (a0 ++ (⟨#[47]⟩ : ByteArray)) t193 _ A4.out).mono ?_); rintro e w' ⟨rfl, ⟨nd, rfl⟩⟩; refine ⟨_, rfl, ?_⟩))
  go_ret
  exact ⟨Ye1, dz⟩
 ·rw [if_neg c3] at H
  exact absurd H (by simp)


end Go.Proofs.YtgnmledjkamojaaDoor.P


namespace Go.Proofs.YtgnmledjkamojaaDoor.P
open Go.RowKit Go.Proofs.YtgnmledjkamojaaDoorW.PrintWords Go.Proofs.YtgnmledjkamojaaDoorW.PrintLast Go.Proofs.YtgnmledjkamojaaDoorW.PrintMore
attribute [local go_sem] max2_int min2_int max_two min_two max_three min_three max_four min_four
set_option linter.unusedVariables false
set_option linter.unusedSimpArgs false

/-! ### impl_Entry_68: function 68 -/
/- Walked by hand. -/
/-- One entry is in the other's way, or is it. -/
def wayE (p : ByteArray) (x : S37) : Option Bool := if x.f0.toList = p.toList then some true else (impl_over.f x.f0 p).bind fun b => if b = true then some true else impl_over.f p x.f0
def wayL (p : ByteArray) : List S37 → Option Bool
 | [] => some false
 | x :: r => (wayE p x).bind fun t => if t = true then some true else wayL p r
def impl_Entry_68.f (l0 : List S37) (p _t : ByteArray) (_u : Bool) : Option Bool := if l0.length ≤ 1000000 then wayL p l0 else none
set_option maxHeartbeats 2000000 in
set_option maxRecDepth 100000 in
theorem way_calls (x : S37) (p t : ByteArray) (u r : Bool) (gb : Nat) (w : World) (hb : w.heap[gb]? = some (.cells #[.string p, .string t, .bool u] 37 (0, 0))) (h : wayE p x = some r) :
  Calls Tryd.prog 69 #[.agg #[.string x.f0, .string x.f1, .bool x.f2], .pointer (some ⟨gb, 0, none⟩)] w fun e w' => e = .returned (.bool r) ∧ Below w.heap.size w w' := by
 have hu37 := Tryd.underlying37
 have HX := Aside0.mk hb
 have HB := Aside0.mk (Below.refl w.heap.size w)
 clear hb
 unfold wayE at h
 by_cases h1 : x.f0.toList = p.toList
 ·rw [if_pos h1] at h
  obtain rfl := Option.some.inj h
  clear h
  have t0 : (x.f0.toList == p.toList) = true := beq_iff_eq.mpr h1
  have HXB := Aside0.mk (blk_lt HX.out)
  go_enter Tryd.func69, Tryd.ntmps69
  go_wp2_with ((with_reducible refine gd 2 rfl ?_); refine bx 2 37 (#[.string x.f0, .string x.f1, .bool x.f2]) ?_; intro b1 hg w1 hbox hb; refine Ya3 hbox (below_step (be HB.out) hb) ((hb.block gb HXB.out).trans HX.out) ?_; clear HB HX; intro B1 HB HX; clear hb hbox hg; have ⟨hcz1, hcz2, hcz3, hfz1, hfz2, hfz3⟩ := Yc3 B1.out; have ⟨hdz1, hdz2, hdz3, hez1, hez2, hez3⟩ := Yc3 HX.out)
  go_ret
  exact ⟨rfl, HB.out⟩
 ·rw [if_neg h1] at h
  have t0 : (x.f0.toList == p.toList) = false := beq_eq_false_iff_ne.mpr h1
  obtain ⟨b, hb, h⟩ := Option.bind_eq_some_iff.1 h
  have HO1 := Aside0.mk hb
  clear hb h1
  have HXB := Aside0.mk (blk_lt HX.out)
  cases b with
  | true =>
   rw [if_pos rfl] at h
   obtain rfl := Option.some.inj h
   clear h
   go_enter Tryd.func69, Tryd.ntmps69
   go_wp2_with (first | ((with_reducible refine gd 2 rfl ?_); refine bx 2 37 (#[.string x.f0, .string x.f1, .bool x.f2]) ?_; intro b1 hg w1 hbox hb; refine Ya3 hbox (below_step (be HB.out) hb) ((hb.block gb HXB.out).trans HX.out) ?_; clear HB HX; intro B1 HB HX; clear hb hbox hg; have ⟨hcz1, hcz2, hcz3, hfz1, hfz2, hfz3⟩ := Yc3 B1.out; have ⟨hdz1, hdz2, hdz3, hez1, hez2, hez3⟩ := Yc3 HX.out) | (go_at_call 70; (with_reducible refine (impl_over.calls x.f0 p true _ HO1.out).mono ?_); rintro e w' ⟨rfl, hd⟩; obtain ⟨nd, rfl⟩ := hd))
   go_ret
   exact ⟨rfl, be HB.out⟩
  | false =>
   rw [if_neg (by simp)] at h
   have HO2 := Aside0.mk h
   clear h
   go_enter Tryd.func69, Tryd.ntmps69
   go_wp2_with (first | ((with_reducible refine gd 2 rfl ?_); refine bx 2 37 (#[.string x.f0, .string x.f1, .bool x.f2]) ?_; intro b1 hg w1 hbox hb; refine Ya3 hbox (below_step (be HB.out) hb) ((hb.block gb HXB.out).trans HX.out) ?_; clear HB HX; intro B1 HB HX; clear hb hbox hg; have ⟨hcz1, hcz2, hcz3, hfz1, hfz2, hfz3⟩ := Yc3 B1.out; have ⟨hdz1, hdz2, hdz3, hez1, hez2, hez3⟩ := Yc3 HX.out) | (go_at_call 70; (with_reducible refine (impl_over.calls x.f0 p false _ HO1.out).mono ?_); clear HO1; rintro e w' ⟨rfl, hd⟩; obtain ⟨nd, rfl⟩ := hd) | (go_at_call 70; (with_reducible refine (impl_over.calls p x.f0 r _ HO2.out).mono ?_); rintro e w' ⟨rfl, hd⟩; obtain ⟨nd2, rfl⟩ := hd))
   go_ret
   exact ⟨rfl, be HB.out⟩
set_option maxHeartbeats 2000000 in
set_option maxRecDepth 100000 in
theorem impl_Entry_68.calls (A0 : Option Addr) (c0 : Nat) (l0 : List S37) (a1_0 a1_1 : ByteArray) (a1_2 : Bool) (r : Bool) (gb : Nat) (w : World) (hr0 : Kd.C k37 w A0 l0.length l0) (hc0 : l0.length ≤ c0) (hbx : w.heap[gb]? = some (.cells #[.string a1_0, .string a1_1, .bool a1_2] 37 (0, 0))) (h : impl_Entry_68.f l0 a1_0 a1_1 a1_2 = some r) :
  Calls Tryd.prog 68 #[.slice A0 l0.length c0, .func (.func 69) #[] #[.pointer (some ⟨gb, 0, none⟩)]] w fun e w' => e = .returned (.bool r) ∧ Below w.heap.size w w' := by
 unfold impl_Entry_68.f at h
 have hl62 : l0.length ≤ 1000000 := by
  refine Classical.byContradiction fun hn => ?_
  rw [if_neg hn] at h
  cases h
 rw [if_pos hl62] at h
 have hu37 := Tryd.underlying37
 have H := Aside0.mk h
 have HR := Aside0.mk hr0
 have HX := Aside0.mk hbx
 have HXB := Aside0.mk (blk_lt hbx)
 have HB := Aside0.mk (Below.refl w.heap.size w)
 have HL := Aside0.mk hl62
 clear h hr0 hbx hl62
 go_enter Tryd.func68, Tryd.ntmps68
 go_wp2
 go_loopg [8] (l0.length) (fun kq v8 w' => ∃ i : Nat, v8 = .int .i64 (i : Int) ∧ Aside0 (wayL a1_0 (l0.drop i) = some r) ∧ Aside0 (kq + i = l0.length) ∧ Aside0 (Below w.heap.size w w'))
 case atStart => exact ⟨0, rfl, ⟨by rw [List.drop_zero]; exact H.out⟩, ⟨by omega⟩, HB⟩
 case round =>
  clear H HB
  obtain ⟨i, rfl, HA, HK, HB⟩ := hrel
  have H := HA.out
  have hik := HK.out
  clear HA
  by_cases hi : i < l0.length
  ·have c1 : decide ((i : Int) < (l0.length : Int)) = true := decide_eq_true (by omega)
   have c2 : decide (0 ≤ (i : Int)) = true := decide_eq_true (by omega)
   have c3 : decide (i < l0.length) = true := decide_eq_true hi
   rw [List.drop_eq_getElem_cons hi] at H
   have e0 : wayL a1_0 (l0[i] :: l0.drop (i + 1)) = ((wayE a1_0 l0[i]).bind fun t => if t = true then some true else wayL a1_0 (l0.drop (i + 1))) := rfl
   rw [e0] at H
   clear e0
   obtain ⟨t, ht, H⟩ := Option.bind_eq_some_iff.1 H
   have HT := Aside0.mk ht
   clear ht
   obtain ⟨ad, e1, hx0⟩ := at_T37 (Kd.C_below HR.out HB.out) (i : Int) (by omega) (by omega)
   subst e1
   obtain ⟨hx1, hx2, hx3⟩ := hx0
   have er : rd_T37 l0 (i : Int) = l0[i] := by
    unfold rd_T37
    rw [Int.toNat_natCast, List.getD_eq_getElem?_getD, List.getElem?_eq_getElem hi]
    rfl
   rw [er] at hx1 hx2 hx3
   rw [Int.toNat_natCast] at hx1 hx2 hx3
   clear er
   generalize l0[i] = en at HT hx1 hx2 hx3
   have HY := Aside0.mk ((HB.out.block gb HXB.out).trans HX.out)
   cases t with
   | true =>
    rw [if_pos rfl] at H
    obtain rfl := Option.some.inj H
    clear H
    go_wp2_with (go_at_call 69; refine (way_calls en a1_0 a1_1 a1_2 true gb _ HY.out HT.out).mono ?_; rintro e w2 ⟨rfl, hb2⟩)
    go_ret
    exact ⟨by simp, below_step HB.out hb2⟩
   | false =>
    rw [if_neg (by simp)] at H
    have H' := Aside0.mk H
    clear H
    go_wp2_with (go_at_call 69; refine (way_calls en a1_0 a1_1 a1_2 false gb _ HY.out HT.out).mono ?_; rintro e w2 ⟨rfl, hb2⟩)
    go_roundg (gk - 1)
    case measure => omega
    case rel => exact ⟨i + 1, by rw [show wrap64 ((i : Int) + 1) = ((i + 1 : Nat) : Int) from by have := HL.out; unfold wrap64; omega], H', ⟨by omega⟩, ⟨below_step HB.out hb2⟩⟩
  ·have c1 : decide ((i : Int) < (l0.length : Int)) = false := decide_eq_false (by omega)
   have c3 : decide (i < l0.length) = false := decide_eq_false hi
   rw [List.drop_of_length_le (by omega)] at H
   obtain rfl := Option.some.inj (show some false = some r from H)
   clear H
   go_wp2
   go_ret
   exact ⟨by simp, HB.out⟩


end Go.Proofs.YtgnmledjkamojaaDoor.P


namespace Go.Proofs.YtgnmledjkamojaaDoor.P
open Go.RowKit Go.Proofs.YtgnmledjkamojaaDoorW.PrintWords Go.Proofs.YtgnmledjkamojaaDoorW.PrintLast Go.Proofs.YtgnmledjkamojaaDoorW.PrintMore
attribute [local go_sem] max2_int min2_int max_two min_two max_three min_three max_four min_four
set_option linter.unusedVariables false
set_option linter.unusedSimpArgs false

/-! ### impl_in: function 125 -/
def impl_in.f (a0 : Int) (a1 : Int) (a2 : Int) : Option (Bool) := if a0 ≥ a1 then (some (decide (a0 ≤ a2))) else (some false)
set_option maxHeartbeats 8000000 in
set_option maxRecDepth 100000 in
theorem impl_in.calls (a0 : Int) (a1 : Int) (a2 : Int) (r : Bool) (w : World) (h : impl_in.f a0 a1 a2 = some r) :
  Calls Tryd.prog 125 #[.int .i64 a0, .int .i64 a1, .int .i64 a2] w fun e w' => e = .returned (.bool r) ∧ Drawn0 w w' := by
 have H : (if a0 ≥ a1 then (some (decide (a0 ≤ a2))) else (some false)) = some r := h; clear h
 by_cases c4 : a0 ≥ a1
 ·rw [if_pos c4] at H
  have c4b0 : decide (a1 ≤ a0) = true := decide_eq_true c4; clear c4; obtain rfl := Option.some.inj H
  go_enter Tryd.func125, Tryd.ntmps125
  go_wp2
  go_ret
  exact ⟨Ye1, dz⟩
 ·rw [if_neg c4] at H
  have c4b0 : decide (a1 ≤ a0) = false := decide_eq_false c4; clear c4; obtain rfl := Option.some.inj H
  go_enter Tryd.func125, Tryd.ntmps125
  go_wp2
  go_ret
  exact ⟨Ye1, dz⟩

end Go.Proofs.YtgnmledjkamojaaDoor.P


namespace Go.Proofs.YtgnmledjkamojaaDoor.P
open Go.RowKit Go.Proofs.YtgnmledjkamojaaDoorW.PrintWords Go.Proofs.YtgnmledjkamojaaDoorW.PrintLast Go.Proofs.YtgnmledjkamojaaDoorW.PrintMore
attribute [local go_sem] max2_int min2_int max_two min_two max_three min_three max_four min_four
set_option linter.unusedVariables false
set_option linter.unusedSimpArgs false

/-! ### impl_goodPart: function 161 -/
mutual
def impl_goodPart.j0 : Nat → ByteArray → Bool → Bool → Option (Bool)
 | 0, _, _, _ => none
 | k + 1, x0, x1, x18 => if x18 = true then (some false) else (impl_goodPart.l0 k x0 x1 0)
def impl_goodPart.l0 : Nat → ByteArray → Bool → Int → Option (Bool)
 | 0, _, _, _ => none
 | k + 1, x0, x1, x5 => if x5 < (x0.size : Int) then (if 0 ≤ x5 then (if (bt x0 x5) < 33 then (some false) else (if (bt x0 x5) > 126 then (some false) else (if (bt x0 x5) = 34 then (some false) else (if (bt x0 x5) = 47 then (some false) else (if x1 = true then (impl_goodPart.l0 k x0 x1 (wrap64 (x5 + 1))) else (if (bt x0 x5) = 42 then (some false) else (if (bt x0 x5) = 63 then (some false) else (impl_goodPart.l0 k x0 x1 (wrap64 (x5 + 1)))))))))) else (none)) else (some true)
end
def impl_goodPart.f (k : Nat) (a0 : ByteArray) (a1 : Bool) : Option (Bool) := (impl_in.f (a0.size : Int) 1 20).bind fun t196 => (if t196 = true then (if a0.toList = ([46] : List UInt8) then (impl_goodPart.j0 k a0 a1 true) else (impl_goodPart.j0 k a0 a1 (a0.toList == ([46, 46] : List UInt8)))) else (impl_goodPart.j0 k a0 a1 true))
theorem impl_goodPart.mono_l : ∀ k, (∀ y0 y1 y2, LeO (impl_goodPart.j0 k y0 y1 y2) (impl_goodPart.j0 (k + 1) y0 y1 y2)) ∧ (∀ y0 y1 y2, LeO (impl_goodPart.l0 k y0 y1 y2) (impl_goodPart.l0 (k + 1) y0 y1 y2))
 | 0 => ⟨fun _ _ _ r h => by simp [impl_goodPart.j0] at h, fun _ _ _ r h => by simp [impl_goodPart.l0] at h⟩
 | k + 1 => by
  obtain ⟨ih0, ih1⟩ := impl_goodPart.mono_l k; refine ⟨?_, ?_⟩
  ·intro y0 y1 y2
   unfold impl_goodPart.j0
   repeat' first
   | (with_reducible exact ih0 _ _ _)
   | (with_reducible exact ih1 _ _ _)
   | (with_reducible exact LeO.refl _)
   | (with_reducible exact LeO.none _)
   | (with_reducible refine LeO.ite ?_ ?_)
   | (with_reducible refine LeO.bind ?_ (fun _ => ?_))
   | exact ih0 _ _ _
   | exact ih1 _ _ _
   | exact LeO.none _
   | refine LeO.ite ?_ ?_
   | refine LeO.bind ?_ (fun _ => ?_)
  ·intro y0 y1 y2
   unfold impl_goodPart.l0
   repeat' first
   | (with_reducible exact ih0 _ _ _)
   | (with_reducible exact ih1 _ _ _)
   | (with_reducible exact LeO.refl _)
   | (with_reducible exact LeO.none _)
   | (with_reducible refine LeO.ite ?_ ?_)
   | (with_reducible refine LeO.bind ?_ (fun _ => ?_))
   | exact ih0 _ _ _
   | exact ih1 _ _ _
   | exact LeO.none _
   | refine LeO.ite ?_ ?_
   | refine LeO.bind ?_ (fun _ => ?_)
theorem impl_goodPart.mono : ∀ a0 a1 k, LeO (impl_goodPart.f k a0 a1) (impl_goodPart.f (k + 1) a0 a1) := by
 intro a0 a1 k; obtain ⟨ih0, ih1⟩ := impl_goodPart.mono_l k
 unfold impl_goodPart.f
 repeat' first
   | (with_reducible exact ih0 _ _ _)
   | (with_reducible exact ih1 _ _ _)
   | (with_reducible exact LeO.refl _)
   | (with_reducible exact LeO.none _)
   | (with_reducible refine LeO.ite ?_ ?_)
   | (with_reducible refine LeO.bind ?_ (fun _ => ?_))
   | exact ih0 _ _ _
   | exact ih1 _ _ _
   | exact LeO.none _
   | refine LeO.ite ?_ ?_
   | refine LeO.bind ?_ (fun _ => ?_)
set_option maxHeartbeats 8000000 in
set_option maxRecDepth 100000 in
theorem impl_goodPart.calls (k : Nat) (a0 : ByteArray) (a1 : Bool) (r : Bool) (w : World) (h : impl_goodPart.f k a0 a1 = some r) :
  Calls Tryd.prog 161 #[.string a0, .bool a1] w fun e w' => e = .returned (.bool r) ∧ Drawn0 w w' := by
 have H : ((impl_in.f (a0.size : Int) 1 20).bind fun t196 => (if t196 = true then (if a0.toList = ([46] : List UInt8) then (impl_goodPart.j0 k a0 a1 true) else (impl_goodPart.j0 k a0 a1 (a0.toList == ([46, 46] : List UInt8)))) else (impl_goodPart.j0 k a0 a1 true))) = some r := h; clear h; have HC3 := Aside0.mk H; clear H
 go_enter Tryd.func161, Tryd.ntmps161
 go_upto_region 1 with (fail)
 go_cut [18] (fun v18 wc => ∃ (kq : Nat) (x18_2 : Bool), v18 = .bool x18_2 ∧ Aside0 (impl_goodPart.j0 kq a0 a1 x18_2 = some r) ∧ Aside0 (kq ≤ k) ∧ Drawn0 w wc)
 case first =>
  have H := HC3.out; clear HC3; replace H := Option.bind_eq_some_iff.mp H; obtain ⟨t196, A40, H⟩ := H; replace H : (if t196 = true then (if a0.toList = ([46] : List UInt8) then (impl_goodPart.j0 k a0 a1 true) else (impl_goodPart.j0 k a0 a1 (a0.toList == ([46, 46] : List UInt8)))) else (impl_goodPart.j0 k a0 a1 true)) = some r := H; have A4 := Aside0.mk A40; clear A40
  by_cases c5 : t196 = true
  ·subst c5
   have H1 : (if a0.toList = ([46] : List UInt8) then (impl_goodPart.j0 k a0 a1 true) else (impl_goodPart.j0 k a0 a1 (a0.toList == ([46, 46] : List UInt8)))) = some r := by rw [if_pos rfl] at H; exact H
   clear H; have H := H1; clear H1
   by_cases c6 : a0.toList = ([46] : List UInt8)
   ·rw [if_pos c6] at H
    have c6b0 : (a0.toList == ([46] : List UInt8)) = true := beq_iff_eq.mpr c6; have c6b1 : (a0.toList != ([46] : List UInt8)) = false := bne_eq_false_iff_eq.mpr c6; clear c6; (first | rw [c6b0] | (simp only [i64_w, i32_w]; rw [c6b0]) | skip); have H' := Aside0.mk H; clear H
    go_wp2_with (first | ((with_reducible refine gc 125 rfl ?_); refine gl (some 9) _ (#[.int .i64 (a0.size : Int), .int .i64 1, .int .i64 20]) Tryd.func125 ?_; (with_reducible refine (impl_in.calls (a0.size : Int) 1 20 true _ A4.out).mono ?_); rintro e w' ⟨rfl, ⟨nd, rfl⟩⟩; refine ⟨_, rfl, ?_⟩))
    go_meet
    case rel => exact ⟨_, (true), Ye1, H', ⟨by first | omega | exact Nat.le_refl _⟩, dz⟩
   ·rw [if_neg c6] at H
    have c6b0 : (a0.toList == ([46] : List UInt8)) = false := beq_eq_false_iff_ne.mpr c6; have c6b1 : (a0.toList != ([46] : List UInt8)) = true := bne_iff_ne.mpr c6; (first | rw [c6b0] | (simp only [i64_w, i32_w]; rw [c6b0]) | skip); have H' := Aside0.mk H; clear H
    go_wp2_with (first | ((with_reducible refine gc 125 rfl ?_); refine gl (some 9) _ (#[.int .i64 (a0.size : Int), .int .i64 1, .int .i64 20]) Tryd.func125 ?_; (with_reducible refine (impl_in.calls (a0.size : Int) 1 20 true _ A4.out).mono ?_); rintro e w' ⟨rfl, ⟨nd, rfl⟩⟩; refine ⟨_, rfl, ?_⟩))
    go_meet
    case rel => exact ⟨_, ((a0.toList == ([46, 46] : List UInt8))), Ye1, H', ⟨by first | omega | exact Nat.le_refl _⟩, dz⟩
  ·replace c5 := Bool.eq_false_iff.mpr c5; subst c5
   have H1 : (impl_goodPart.j0 k a0 a1 true) = some r := by rw [if_neg (show ¬ (false = true) by decide)] at H; exact H
   clear H; have H := H1; clear H1; have H' := Aside0.mk H; clear H
   go_wp2_with (first | ((with_reducible refine gc 125 rfl ?_); refine gl (some 9) _ (#[.int .i64 (a0.size : Int), .int .i64 1, .int .i64 20]) Tryd.func125 ?_; (with_reducible refine (impl_in.calls (a0.size : Int) 1 20 false _ A4.out).mono ?_); rintro e w' ⟨rfl, ⟨nd, rfl⟩⟩; refine ⟨_, rfl, ?_⟩))
   go_meet
   case rel => exact ⟨_, (true), Ye1, H', ⟨by first | omega | exact Nat.le_refl _⟩, dz⟩
 case rest =>
  clear HC3; (try clear c1); (try clear p2); (try clear c5); (try clear c6); (try clear c6b0); (try clear c6b1); obtain ⟨kq, x18_2, rfl, HA, HJ2, ⟨mc2, rfl⟩⟩ := hcut
  cases kq with
  | zero => exact absurd HA.out (by simp [impl_goodPart.j0])
  | succ kj2 =>
   have H := HA.out; clear HA; simp only [impl_goodPart.j0] at H
   by_cases c7 : x18_2 = true
   ·subst c7
    have H1 : (some false) = some r := by rw [if_pos rfl] at H; exact H
    clear H; have H := H1; clear H1; obtain rfl := Option.some.inj H
    go_wp2
    go_ret
    exact ⟨Ye1, dz⟩
   ·replace c7 := Bool.eq_false_iff.mpr c7; subst c7
    have H1 : (impl_goodPart.l0 kj2 a0 a1 0) = some r := by rw [if_neg (show ¬ (false = true) by decide)] at H; exact H
    clear H; have H := H1; clear H1; have H' := Aside0.mk H; clear H
    go_wp2
    go_loopg [5] kj2 (fun kq v5 w' => ∃ (qa : Int), v5 = .int .i64 qa ∧ Aside0 (impl_goodPart.l0 kq a0 a1 qa = some r) ∧ Aside0 (kq ≤ kj2) ∧ Drawn0 w w')
    case atStart => exact ⟨(0), Ye1, H', ⟨Nat.le_refl _⟩, dz⟩
    case round =>
     clear H'; (try clear c1); (try clear c2); (try clear p2); (try clear c5); (try clear c6); (try clear c6b0); (try clear c6b1); (try clear c7); (try clear p2); obtain ⟨qa, rfl, HA, HK2, ⟨m2, rfl⟩⟩ := hrel
     cases gk with
     | zero => exact absurd HA.out (by simp [impl_goodPart.l0])
     | succ k2 =>
      have H := HA.out; clear HA; simp only [impl_goodPart.l0] at H
      by_cases c8 : qa < (a0.size : Int)
      ·rw [if_pos c8] at H
       have c8b0 : decide (qa < (a0.size : Int)) = true := decide_eq_true c8; clear c8
       by_cases c9 : 0 ≤ qa
       ·rw [if_pos c9] at H
        have c9b0 : decide (0 ≤ qa) = true := decide_eq_true c9; clear c9
        by_cases c11 : (bt a0 qa) < 33
        ·rw [if_pos c11] at H
         have c11b0 : decide ((bt a0 qa) < 33) = true := decide_eq_true c11; clear c11; obtain rfl := Option.some.inj H; have p10 : 0 ≤ (qa : Int) := oda; have q10 : qa < (a0.size : Int) := oda; have hx10 := bt_at a0 qa; replace p10 := eq_true p10; replace q10 := eq_true q10
         go_wp2
         go_ret
         exact ⟨Ye1, dz⟩
        ·rw [if_neg c11] at H
         have c11b0 : decide ((bt a0 qa) < 33) = false := decide_eq_false c11; clear c11
         by_cases c12 : (bt a0 qa) > 126
         ·rw [if_pos c12] at H
          have c12b0 : decide (126 < (bt a0 qa)) = true := decide_eq_true c12; clear c12; obtain rfl := Option.some.inj H; have p10 : 0 ≤ (qa : Int) := oda; have q10 : qa < (a0.size : Int) := oda; have hx10 := bt_at a0 qa; replace p10 := eq_true p10; replace q10 := eq_true q10
          go_wp2
          go_ret
          exact ⟨Ye1, dz⟩
         ·rw [if_neg c12] at H
          have c12b0 : decide (126 < (bt a0 qa)) = false := decide_eq_false c12; clear c12
          by_cases c13 : (bt a0 qa) = 34
          ·rw [if_pos c13] at H
           have c13b0 : ((bt a0 qa) == 34) = true := beq_iff_eq.mpr c13; have c13b1 : ((bt a0 qa) != 34) = false := bne_eq_false_iff_eq.mpr c13; clear c13; obtain rfl := Option.some.inj H; have p10 : 0 ≤ (qa : Int) := oda; have q10 : qa < (a0.size : Int) := oda; have hx10 := bt_at a0 qa; replace p10 := eq_true p10; replace q10 := eq_true q10
           go_wp2
           go_ret
           exact ⟨Ye1, dz⟩
          ·rw [if_neg c13] at H
           have c13b0 : ((bt a0 qa) == 34) = false := beq_eq_false_iff_ne.mpr c13; have c13b1 : ((bt a0 qa) != 34) = true := bne_iff_ne.mpr c13
           by_cases c14 : (bt a0 qa) = 47
           ·rw [if_pos c14] at H
            have c14b0 : ((bt a0 qa) == 47) = true := beq_iff_eq.mpr c14; have c14b1 : ((bt a0 qa) != 47) = false := bne_eq_false_iff_eq.mpr c14; clear c14; obtain rfl := Option.some.inj H; have p10 : 0 ≤ (qa : Int) := oda; have q10 : qa < (a0.size : Int) := oda; have hx10 := bt_at a0 qa; replace p10 := eq_true p10; replace q10 := eq_true q10
            go_wp2
            go_ret
            exact ⟨Ye1, dz⟩
           ·rw [if_neg c14] at H
            have c14b0 : ((bt a0 qa) == 47) = false := beq_eq_false_iff_ne.mpr c14; have c14b1 : ((bt a0 qa) != 47) = true := bne_iff_ne.mpr c14
            by_cases c15 : a1 = true
            ·subst c15
             have H1 : (impl_goodPart.l0 k2 a0 true (wrap64 (qa + 1))) = some r := by rw [if_pos rfl] at H; exact H
             clear H; have H := H1; clear H1; have H' := Aside0.mk H; clear H; have p10 : 0 ≤ (qa : Int) := oda; have q10 : qa < (a0.size : Int) := oda; have hx10 := bt_at a0 qa; replace p10 := eq_true p10; replace q10 := eq_true q10
             go_wp2
             go_roundg k2
             case measure => have := HJ2.out; have := HK2.out; omega
             case rel => exact ⟨(wrap64 (qa + 1)), Ye1, H', ⟨by have := HJ2.out; have := HK2.out; omega⟩, dz⟩
            ·replace c15 := Bool.eq_false_iff.mpr c15; subst c15
             have H1 : (if (bt a0 qa) = 42 then (some false) else (if (bt a0 qa) = 63 then (some false) else (impl_goodPart.l0 k2 a0 false (wrap64 (qa + 1))))) = some r := by rw [if_neg (show ¬ (false = true) by decide)] at H; exact H
             clear H; have H := H1; clear H1
             by_cases c16 : (bt a0 qa) = 42
             ·rw [if_pos c16] at H
              have c16b0 : ((bt a0 qa) == 42) = true := beq_iff_eq.mpr c16; have c16b1 : ((bt a0 qa) != 42) = false := bne_eq_false_iff_eq.mpr c16; clear c16; obtain rfl := Option.some.inj H; have p10 : 0 ≤ (qa : Int) := oda; have q10 : qa < (a0.size : Int) := oda; have hx10 := bt_at a0 qa; replace p10 := eq_true p10; replace q10 := eq_true q10
              go_wp2
              go_ret
              exact ⟨Ye1, dz⟩
             ·rw [if_neg c16] at H
              have c16b0 : ((bt a0 qa) == 42) = false := beq_eq_false_iff_ne.mpr c16; have c16b1 : ((bt a0 qa) != 42) = true := bne_iff_ne.mpr c16
              by_cases c17 : (bt a0 qa) = 63
              ·rw [if_pos c17] at H
               have c17b0 : ((bt a0 qa) == 63) = true := beq_iff_eq.mpr c17; have c17b1 : ((bt a0 qa) != 63) = false := bne_eq_false_iff_eq.mpr c17; clear c17; obtain rfl := Option.some.inj H; have p10 : 0 ≤ (qa : Int) := oda; have q10 : qa < (a0.size : Int) := oda; have hx10 := bt_at a0 qa; replace p10 := eq_true p10; replace q10 := eq_true q10
               go_wp2
               go_ret
               exact ⟨Ye1, dz⟩
              ·rw [if_neg c17] at H
               have c17b0 : ((bt a0 qa) == 63) = false := beq_eq_false_iff_ne.mpr c17; have c17b1 : ((bt a0 qa) != 63) = true := bne_iff_ne.mpr c17; have H' := Aside0.mk H; clear H; have p10 : 0 ≤ (qa : Int) := oda; have q10 : qa < (a0.size : Int) := oda; have hx10 := bt_at a0 qa; replace p10 := eq_true p10; replace q10 := eq_true q10
               go_wp2
               go_roundg k2
               case measure => have := HJ2.out; have := HK2.out; omega
               case rel => exact ⟨(wrap64 (qa + 1)), Ye1, H', ⟨by have := HJ2.out; have := HK2.out; omega⟩, dz⟩
       ·rw [if_neg c9] at H
        exact absurd H (by simp)
      ·rw [if_neg c8] at H
       have c8b0 : decide (qa < (a0.size : Int)) = false := decide_eq_false c8; clear c8; obtain rfl := Option.some.inj H
       go_wp2
       go_ret
       exact ⟨Ye1, dz⟩

end Go.Proofs.YtgnmledjkamojaaDoor.P


namespace Go.Proofs.YtgnmledjkamojaaDoor.P
open Go.RowKit Go.Proofs.YtgnmledjkamojaaDoorW.PrintWords Go.Proofs.YtgnmledjkamojaaDoorW.PrintLast Go.Proofs.YtgnmledjkamojaaDoorW.PrintMore
attribute [local go_sem] max2_int min2_int max_two min_two max_three min_three max_four min_four
set_option linter.unusedVariables false
set_option linter.unusedSimpArgs false

/-! ### strings_Split: function 91 -/
def strings_Split.f (a0 a1 : ByteArray) : Option (List ByteArray) := if a0.size < 4294967281 then (if 1 ≤ a1.size then some (Go.Lib.splitB a1 0 (Go.Lib.countB a0 a1) a0) else none) else none
theorem strings_Split.calls (a0 a1 : ByteArray) (r : List ByteArray) (w : World) (hg : GOK w) (h : strings_Split.f a0 a1 = some r) :
  Calls Tryd.prog 91 #[.string a0, .string a1] w fun e w' => ∃ v0_ : Value, e = .returned (v0_) ∧ Kd.R Kd.string 9 w' w.heap.size (fun _ => True) v0_ r ∧ Below w.heap.size w w' := by
 unfold strings_Split.f at h
 split at h
 ·rename_i hs
  split at h
  ·rename_i h1
   obtain rfl := Option.some.inj h; obtain ⟨m, hm⟩ := hg; have hle := Go.Lib.countB_le a1 h1 a0.size a0 (Nat.le_refl _); have hlen := Go.Lib.splitB_all a1 h1 0 (Go.Lib.countB a0 a1) a0 rfl
   refine (Tryd.strings_Split a0 a1 m w hs hm h1).mono fun e w' ⟨he, hw⟩ => ?_
   subst hw; refine ⟨_, he, ?_, below_alloc (Below.refl _ _) _⟩
   rw [← hlen]
   exact Ow.R_new_block Value.string (fun _ => rfl) _ w _ (by rw [hlen]; unfold maxLen; omega)
  ·cases h
 ·cases h


end Go.Proofs.YtgnmledjkamojaaDoor.P


namespace Go.Proofs.YtgnmledjkamojaaDoor.P
open Go.RowKit Go.Proofs.YtgnmledjkamojaaDoorW.PrintWords Go.Proofs.YtgnmledjkamojaaDoorW.PrintLast Go.Proofs.YtgnmledjkamojaaDoorW.PrintMore
attribute [local go_sem] max2_int min2_int max_two min_two max_three min_three max_four min_four
set_option linter.unusedVariables false
set_option linter.unusedSimpArgs false

/-! ### impl_parts: function 148 -/
def impl_parts.l0 : Nat → Bool → List ByteArray → Int → Int → Option (Bool)
 | 0, _, _, _, _ => none
 | k + 1, x1, x13, x14, x15 => if x15 < x14 then (if 0 ≤ x15 then (if x15 < (x13.length : Int) then ((impl_goodPart.f k (rdOf ByteArray.empty x13 x15) x1).bind fun t201 => (if t201 = true then (impl_parts.l0 k x1 x13 x14 (wrap64 (x15 + 1))) else (some false))) else (none)) else (none)) else (some true)
def impl_parts.f (k : Nat) (a0 : ByteArray) (a1 : Bool) : Option (Bool) := (strings_Split.f a0 (⟨#[47]⟩ : ByteArray)).bind fun t197 => (if (t197.length : Int) > 6 then (some false) else (impl_parts.l0 k a1 t197 (t197.length : Int) 0))
theorem impl_parts.mono_l : ∀ k, (∀ y0 y1 y2 y3, LeO (impl_parts.l0 k y0 y1 y2 y3) (impl_parts.l0 (k + 1) y0 y1 y2 y3))
 | 0 => fun _ _ _ _ r h => by simp [impl_parts.l0] at h
 | k + 1 => by
  have ih0 := impl_parts.mono_l k
  ·intro y0 y1 y2 y3
   unfold impl_parts.l0
   repeat' first
   | (with_reducible exact ih0 _ _ _ _)
   | (with_reducible exact impl_goodPart.mono _ _ _)
   | (with_reducible exact LeO.refl _)
   | (with_reducible exact LeO.none _)
   | (with_reducible refine LeO.ite ?_ ?_)
   | (with_reducible refine LeO.bind ?_ (fun _ => ?_))
   | exact ih0 _ _ _ _
   | exact impl_goodPart.mono _ _ _
   | exact LeO.none _
   | refine LeO.ite ?_ ?_
   | refine LeO.bind ?_ (fun _ => ?_)
theorem impl_parts.mono : ∀ a0 a1 k, LeO (impl_parts.f k a0 a1) (impl_parts.f (k + 1) a0 a1) := by
 intro a0 a1 k; have ih0 := impl_parts.mono_l k
 unfold impl_parts.f
 repeat' first
   | (with_reducible exact ih0 _ _ _ _)
   | (with_reducible exact impl_goodPart.mono _ _ _)
   | (with_reducible exact LeO.refl _)
   | (with_reducible exact LeO.none _)
   | (with_reducible refine LeO.ite ?_ ?_)
   | (with_reducible refine LeO.bind ?_ (fun _ => ?_))
   | exact ih0 _ _ _ _
   | exact impl_goodPart.mono _ _ _
   | exact LeO.none _
   | refine LeO.ite ?_ ?_
   | refine LeO.bind ?_ (fun _ => ?_)
set_option maxHeartbeats 8000000 in
set_option maxRecDepth 100000 in
theorem impl_parts.calls (k : Nat) (a0 : ByteArray) (a1 : Bool) (r : Bool) (w : World) (hg : GOK w) (h : impl_parts.f k a0 a1 = some r) :
  Calls Tryd.prog 148 #[.string a0, .bool a1] w fun e w' => e = .returned (.bool r) ∧ Below w.heap.size w w' := by
 have HG := Aside0.mk hg; clear hg; have HB := Aside0.mk (Below.refl w.heap.size w); have H : ((strings_Split.f a0 (⟨#[47]⟩ : ByteArray)).bind fun t197 => (if (t197.length : Int) > 6 then (some false) else (impl_parts.l0 k a1 t197 (t197.length : Int) 0))) = some r := h; clear h; replace H := Option.bind_eq_some_iff.mp H; obtain ⟨t197, A30, H⟩ := H; replace H : (if (t197.length : Int) > 6 then (some false) else (impl_parts.l0 k a1 t197 (t197.length : Int) 0)) = some r := H; have A3 := Aside0.mk A30; clear A30
 by_cases c4 : (t197.length : Int) > 6
 ·rw [if_pos c4] at H
  have c4b0 : decide (6 < (t197.length : Int)) = true := decide_eq_true c4; have c4b1 : decide (6 < t197.length) = true := decide_eq_true (by omega); clear c4; obtain rfl := Option.some.inj H
  go_enter Tryd.func148, Tryd.ntmps148
  go_wp2_with (first | ((with_reducible refine gc 91 rfl ?_); refine gl (some 9) _ (#[.string a0, .string (⟨#[47]⟩ : ByteArray)]) Tryd.func91 ?_; (with_reducible refine (strings_Split.calls a0 (⟨#[47]⟩ : ByteArray) t197 _ ?sideG A3.out).mono ?_); (case sideG => exact gk HG.out HB.out); rintro e w5 ⟨v198, rfl, ho0, hb⟩; refine ⟨_, rfl, ?_⟩; refine Ya2 (Kd.R_lower ho0 (below_size (be HB.out))) (below_step (be HB.out) hb) ?_; clear HB; intro HO199 HB; (try clear hb); (try clear hb2); (try clear hk); (try clear hi); (try clear ho0); obtain ⟨Ao6, co6, eo6⟩ := Kd.R_slice HO199.out; subst eo6))
  go_ret
  exact ⟨Ye2, be HB.out⟩
 ·rw [if_neg c4] at H
  have c4b0 : decide (6 < (t197.length : Int)) = false := decide_eq_false c4; have c4b1 : decide (6 < t197.length) = false := decide_eq_false (by omega); clear c4; have H' := Aside0.mk H; clear H
  go_enter Tryd.func148, Tryd.ntmps148
  go_wp2_with (first | ((with_reducible refine gc 91 rfl ?_); refine gl (some 9) _ (#[.string a0, .string (⟨#[47]⟩ : ByteArray)]) Tryd.func91 ?_; (with_reducible refine (strings_Split.calls a0 (⟨#[47]⟩ : ByteArray) t197 _ ?sideG A3.out).mono ?_); (case sideG => exact gk HG.out HB.out); rintro e w7 ⟨v198, rfl, ho0, hb⟩; refine ⟨_, rfl, ?_⟩; refine Ya2 (Kd.R_lower ho0 (below_size (be HB.out))) (below_step (be HB.out) hb) ?_; clear HB; intro HO199 HB; (try clear hb); (try clear hb2); (try clear hk); (try clear hi); (try clear ho0); obtain ⟨Ao8, co8, eo8⟩ := Kd.R_slice HO199.out; subst eo8))
  go_loopg [15] k (fun kq v15 w' => ∃ (qa : Int), v15 = .int .i64 qa ∧ Aside0 (impl_parts.l0 kq a1 t197 (t197.length : Int) qa = some r) ∧ Aside0 (kq ≤ k) ∧ Aside0 (Kd.R Kd.string 9 w' w.heap.size (fun _ => True) (.slice Ao8 t197.length co8) t197) ∧ Aside0 (Below w.heap.size w w'))
  case atStart => exact ⟨(0), Ye1, H', ⟨Nat.le_refl _⟩, ⟨kr HO199.out⟩, ⟨be HB.out⟩⟩
  case round =>
   clear H'; (try clear c1); (try clear p2); (try clear c4); (try clear c4b0); (try clear c4b1); obtain ⟨qa, rfl, HA, HK1, HO_13, HB⟩ := hrel
   cases gk with
   | zero => exact absurd HA.out (by simp [impl_parts.l0])
   | succ k1 =>
    have H := HA.out; clear HA; simp only [impl_parts.l0] at H
    by_cases c9 : qa < (t197.length : Int)
    ·rw [if_pos c9] at H
     have c9b0 : decide (qa < (t197.length : Int)) = true := decide_eq_true c9; clear c9
     by_cases c10 : 0 ≤ qa
     ·rw [if_pos c10] at H
      have c10b0 : decide (0 ≤ qa) = true := decide_eq_true c10; clear c10
      by_cases c11 : qa < (t197.length : Int)
      ·rw [if_pos c11] at H
       have c11b0 : decide (qa < (t197.length : Int)) = true := decide_eq_true c11; clear c11; replace H := Option.bind_eq_some_iff.mp H; obtain ⟨t201, A120, H⟩ := H; replace H : (if t201 = true then (impl_parts.l0 k1 a1 t197 (t197.length : Int) (wrap64 (qa + 1))) else (some false)) = some r := H; have A12 := Aside0.mk A120; clear A120
       by_cases c13 : t201 = true
       ·subst c13
        have H1 : (impl_parts.l0 k1 a1 t197 (t197.length : Int) (wrap64 (qa + 1))) = some r := by rw [if_pos rfl] at H; exact H
        clear H; have H := H1; clear H1; have H' := Aside0.mk H; clear H; have p200 : 0 ≤ (qa : Int) := oda; have q200 : qa < (t197.length : Int) := oda; obtain ⟨ad200, e200, hx200_0⟩ := Kd.at_string (Kd.R_reads' HO_13.out).2.2 qa p200 q200
        cases e200
        replace p200 := eq_true p200; replace q200 := eq_true q200
        go_wp2_with (first | ((with_reducible refine gc 161 rfl ?_); refine gl (some 21) _ (#[.string (rdOf ByteArray.empty t197 qa), .bool a1]) Tryd.func161 ?_; (with_reducible refine (impl_goodPart.calls k1 (rdOf ByteArray.empty t197 qa) a1 true _ A12.out).mono ?_); rintro e w' ⟨rfl, ⟨nd, rfl⟩⟩; refine ⟨_, rfl, ?_⟩))
        go_roundg k1
        case measure => have := HK1.out; omega
        case rel => exact ⟨(wrap64 (qa + 1)), Ye1, H', ⟨by have := HK1.out; omega⟩, ⟨kr HO_13.out⟩, ⟨be HB.out⟩⟩
       ·replace c13 := Bool.eq_false_iff.mpr c13; subst c13
        have H1 : (some false) = some r := by rw [if_neg (show ¬ (false = true) by decide)] at H; exact H
        clear H; have H := H1; clear H1; obtain rfl := Option.some.inj H; have p200 : 0 ≤ (qa : Int) := oda; have q200 : qa < (t197.length : Int) := oda; obtain ⟨ad200, e200, hx200_0⟩ := Kd.at_string (Kd.R_reads' HO_13.out).2.2 qa p200 q200
        cases e200
        replace p200 := eq_true p200; replace q200 := eq_true q200
        go_wp2_with (first | ((with_reducible refine gc 161 rfl ?_); refine gl (some 21) _ (#[.string (rdOf ByteArray.empty t197 qa), .bool a1]) Tryd.func161 ?_; (with_reducible refine (impl_goodPart.calls k1 (rdOf ByteArray.empty t197 qa) a1 false _ A12.out).mono ?_); rintro e w' ⟨rfl, ⟨nd, rfl⟩⟩; refine ⟨_, rfl, ?_⟩))
        go_ret
        exact ⟨Ye2, be HB.out⟩
      ·rw [if_neg c11] at H
       exact absurd H (by simp)
     ·rw [if_neg c10] at H
      exact absurd H (by simp)
    ·rw [if_neg c9] at H
     have c9b0 : decide (qa < (t197.length : Int)) = false := decide_eq_false c9; clear c9; obtain rfl := Option.some.inj H
     go_wp2
     go_ret
     exact ⟨Ye2, be HB.out⟩

end Go.Proofs.YtgnmledjkamojaaDoor.P


namespace Go.Proofs.YtgnmledjkamojaaDoor.P
open Go.RowKit Go.Proofs.YtgnmledjkamojaaDoorW.PrintWords Go.Proofs.YtgnmledjkamojaaDoorW.PrintLast Go.Proofs.YtgnmledjkamojaaDoorW.PrintMore
attribute [local go_sem] max2_int min2_int max_two min_two max_three min_three max_four min_four
set_option linter.unusedVariables false
set_option linter.unusedSimpArgs false

/-! ### impl_ValidPath: function 89 -/
def impl_ValidPath.f (k : Nat) (a0 : ByteArray) : Option (Bool) := (impl_parts.f k a0 false).bind fun t202 => (some t202)
theorem impl_ValidPath.mono : ∀ a0 k, LeO (impl_ValidPath.f k a0) (impl_ValidPath.f (k + 1) a0) := by
 intro a0 k
 unfold impl_ValidPath.f
 repeat' first
   | (with_reducible exact impl_parts.mono _ _ _)
   | (with_reducible exact LeO.refl _)
   | (with_reducible exact LeO.none _)
   | (with_reducible refine LeO.ite ?_ ?_)
   | (with_reducible refine LeO.bind ?_ (fun _ => ?_))
   | exact impl_parts.mono _ _ _
   | exact LeO.none _
   | refine LeO.ite ?_ ?_
   | refine LeO.bind ?_ (fun _ => ?_)
set_option maxHeartbeats 8000000 in
set_option maxRecDepth 100000 in
theorem impl_ValidPath.calls (k : Nat) (a0 : ByteArray) (r : Bool) (w : World) (hg : GOK w) (h : impl_ValidPath.f k a0 = some r) :
  Calls Tryd.prog 89 #[.string a0] w fun e w' => e = .returned (.bool r) ∧ Below w.heap.size w w' := by
 have HG := Aside0.mk hg; clear hg; have HB := Aside0.mk (Below.refl w.heap.size w); have H : ((impl_parts.f k a0 false).bind fun t202 => (some t202)) = some r := h; clear h; replace H := Option.bind_eq_some_iff.mp H; obtain ⟨t202, A20, H⟩ := H; replace H : (some t202) = some r := H; have A2 := Aside0.mk A20; clear A20; obtain rfl := Option.some.inj H
 go_enter Tryd.func89, Tryd.ntmps89
 go_wp2_with (first | ((with_reducible refine gc 148 rfl ?_); refine gl (some 4) _ (#[.string a0, .bool false]) Tryd.func148 ?_; (with_reducible refine (impl_parts.calls k a0 false t202 _ ?sideG A2.out).mono ?_); (case sideG => exact gk HG.out HB.out); rintro e w3 ⟨rfl, hb⟩; refine ⟨_, rfl, ?_⟩; refine Ya1 (below_step (be HB.out) hb) ?_; clear HB; intro HB; (try clear hb); (try clear hb2); (try clear hk); (try clear hi)))
 go_ret
 exact ⟨Ye2, be HB.out⟩

end Go.Proofs.YtgnmledjkamojaaDoor.P


namespace Go.Proofs.YtgnmledjkamojaaDoor.P
open Go.RowKit Go.Proofs.YtgnmledjkamojaaDoorW.PrintWords Go.Proofs.YtgnmledjkamojaaDoorW.PrintLast Go.Proofs.YtgnmledjkamojaaDoorW.PrintMore
attribute [local go_sem] max2_int min2_int max_two min_two max_three min_three max_four min_four
set_option linter.unusedVariables false
set_option linter.unusedSimpArgs false

/-! ### impl_goodEntry: function 82 -/
def impl_goodEntry.f (k : Nat) (a0_0 : ByteArray) (a0_1 : ByteArray) (a0_2 : Bool) : Option (Bool) := (impl_ValidPath.f k a0_0).bind fun t204 => (if t204 = true then (some (decide ((a0_1.size : Int) ≤ 1500))) else (some false))
theorem impl_goodEntry.mono : ∀ a0 a1 a2 k, LeO (impl_goodEntry.f k a0 a1 a2) (impl_goodEntry.f (k + 1) a0 a1 a2) := by
 intro a0 a1 a2 k
 unfold impl_goodEntry.f
 repeat' first
   | (with_reducible exact impl_ValidPath.mono _ _)
   | (with_reducible exact LeO.refl _)
   | (with_reducible exact LeO.none _)
   | (with_reducible refine LeO.ite ?_ ?_)
   | (with_reducible refine LeO.bind ?_ (fun _ => ?_))
   | exact impl_ValidPath.mono _ _
   | exact LeO.none _
   | refine LeO.ite ?_ ?_
   | refine LeO.bind ?_ (fun _ => ?_)
set_option maxHeartbeats 8000000 in
set_option maxRecDepth 100000 in
theorem impl_goodEntry.calls (k : Nat) (a0_0 : ByteArray) (a0_1 : ByteArray) (a0_2 : Bool) (r : Bool) (w : World) (hg : GOK w) (h : impl_goodEntry.f k a0_0 a0_1 a0_2 = some r) :
  Calls Tryd.prog 82 #[.agg #[.string a0_0, .string a0_1, .bool a0_2]] w fun e w' => e = .returned (.bool r) ∧ Below w.heap.size w w' := by
 have HG := Aside0.mk hg; clear hg; have hu37 := Tryd.underlying37; have HB := Aside0.mk (Below.refl w.heap.size w); have H : ((impl_ValidPath.f k a0_0).bind fun t204 => (if t204 = true then (some (decide ((a0_1.size : Int) ≤ 1500))) else (some false))) = some r := h; clear h; replace H := Option.bind_eq_some_iff.mp H; obtain ⟨t204, A20, H⟩ := H; replace H : (if t204 = true then (some (decide ((a0_1.size : Int) ≤ 1500))) else (some false)) = some r := H; have A2 := Aside0.mk A20; clear A20
 by_cases c3 : t204 = true
 ·subst c3
  have H1 : (some (decide ((a0_1.size : Int) ≤ 1500))) = some r := by rw [if_pos rfl] at H; exact H
  clear H; have H := H1; clear H1; obtain rfl := Option.some.inj H
  go_enter Tryd.func82, Tryd.ntmps82
  go_wp2_with (first | ((with_reducible refine gd 1 rfl ?_); (try (refine gate_guard (by rfl) ?_; dsimp only)); refine bx 1 37 (#[.string a0_0, .string a0_1, .bool a0_2]) ?_; intro gb203 hg w4 hbox hb; refine Ya4 (below_step (be HB.out) hb) (hbox) (bs hg (be HB.out)) (bs hg (be HB.out)) ?_; clear HB; intro HB BK203 GW203 GE203; clear hb hbox hg; have ⟨hcz5_0, hcz5_1, hcz5_2, hfz5_0, hfz5_1, hfz5_2⟩ := Yc3 BK203.out) | ((with_reducible refine gc 89 rfl ?_); refine gl (some 5) _ (#[.string a0_0]) Tryd.func89 ?_; (with_reducible refine (impl_ValidPath.calls k a0_0 true _ ?sideG A2.out).mono ?_); (case sideG => exact gk1 HG.out HB.out GE203.out); rintro e w6 ⟨rfl, hb⟩; refine ⟨_, rfl, ?_⟩; refine Ya2 (bb BK203 hb) (below_step (be1 HB.out GE203.out) hb) ?_; clear BK203 HB; intro BK203 HB; (try clear hb); (try clear hb2); (try clear hk); (try clear hi); have ⟨hcz7_0, hcz7_1, hcz7_2, hfz7_0, hfz7_1, hfz7_2⟩ := Yc3 BK203.out))
  go_ret
  exact ⟨Ye2, (by first | exact be1 HB.out GE203.out | exact be HB.out)⟩
 ·replace c3 := Bool.eq_false_iff.mpr c3; subst c3
  have H1 : (some false) = some r := by rw [if_neg (show ¬ (false = true) by decide)] at H; exact H
  clear H; have H := H1; clear H1; obtain rfl := Option.some.inj H
  go_enter Tryd.func82, Tryd.ntmps82
  go_wp2_with (first | ((with_reducible refine gd 1 rfl ?_); (try (refine gate_guard (by rfl) ?_; dsimp only)); refine bx 1 37 (#[.string a0_0, .string a0_1, .bool a0_2]) ?_; intro gb203 hg w8 hbox hb; refine Ya4 (below_step (be HB.out) hb) (hbox) (bs hg (be HB.out)) (bs hg (be HB.out)) ?_; clear HB; intro HB BK203 GW203 GE203; clear hb hbox hg; have ⟨hcz9_0, hcz9_1, hcz9_2, hfz9_0, hfz9_1, hfz9_2⟩ := Yc3 BK203.out) | ((with_reducible refine gc 89 rfl ?_); refine gl (some 5) _ (#[.string a0_0]) Tryd.func89 ?_; (with_reducible refine (impl_ValidPath.calls k a0_0 false _ ?sideG A2.out).mono ?_); (case sideG => exact gk1 HG.out HB.out GE203.out); rintro e w10 ⟨rfl, hb⟩; refine ⟨_, rfl, ?_⟩; refine Ya2 (bb BK203 hb) (below_step (be1 HB.out GE203.out) hb) ?_; clear BK203 HB; intro BK203 HB; (try clear hb); (try clear hb2); (try clear hk); (try clear hi)))
  go_ret
  exact ⟨Ye2, (by first | exact be1 HB.out GE203.out | exact be HB.out)⟩

end Go.Proofs.YtgnmledjkamojaaDoor.P


namespace Go.Proofs.YtgnmledjkamojaaDoor.P
open Go.RowKit Go.Proofs.YtgnmledjkamojaaDoorW.PrintWords Go.Proofs.YtgnmledjkamojaaDoorW.PrintLast Go.Proofs.YtgnmledjkamojaaDoorW.PrintMore
attribute [local go_sem] max2_int min2_int max_two min_two max_three min_three max_four min_four
set_option linter.unusedVariables false
set_option linter.unusedSimpArgs false

/-! ### impl_ValidTree: function 25 -/
mutual
def impl_ValidTree.l0 : Nat → List (S37) → Int → Int → List (S37) → Option (Bool)
 | 0, _, _, _, _ => none
 | k + 1, x11, x12, x13, x206000 => if x13 < x12 then (if 0 ≤ x13 then (if x13 < (x11.length : Int) then ((impl_goodEntry.f k ((rd_T37 x11 x13).f0) ((rd_T37 x11 x13).f1) ((rd_T37 x11 x13).f2)).bind fun t208 => (if t208 = true then (if x13 > 0 then (if 0 ≤ (wrap64 (x13 - 1)) then (if (wrap64 (x13 - 1)) < (x206000.length : Int) then (impl_ValidTree.j1 k x13 x11 x12 x13 (!(Op.bytesLess (((rd_T37 x206000 (wrap64 (x13 - 1))).f0).toList) (((rd_T37 x11 x13).f0).toList))) x206000 ((rd_T37 x11 x13).f0) ((rd_T37 x11 x13).f1) ((rd_T37 x11 x13).f2)) else (none)) else (none)) else (impl_ValidTree.j1 k x13 x11 x12 x13 false x206000 ((rd_T37 x11 x13).f0) ((rd_T37 x11 x13).f1) ((rd_T37 x11 x13).f2))) else (impl_ValidTree.j1 k x13 x11 x12 x13 true x206000 ((rd_T37 x11 x13).f0) ((rd_T37 x11 x13).f1) ((rd_T37 x11 x13).f2)))) else (none)) else (none)) else (some true)
def impl_ValidTree.j1 : Nat → Int → List (S37) → Int → Int → Bool → List (S37) → ByteArray → ByteArray → Bool → Option (Bool)
 | 0, _, _, _, _, _, _, _, _, _ => none
 | k + 1, x3, x11, x12, x13, x36, x206000, x208000, x208001, x208002 => if x36 = true then (some false) else (impl_ValidTree.l1 k x3 0 x11 x12 x13 x206000 x208000 x208001 x208002)
def impl_ValidTree.l1 : Nat → Int → Int → List (S37) → Int → Int → List (S37) → ByteArray → ByteArray → Bool → Option (Bool)
 | 0, _, _, _, _, _, _, _, _, _ => none
 | k + 1, x3, x5, x11, x12, x13, x206000, x208000, x208001, x208002 => if x5 < x3 then (if 0 ≤ x5 then (if x5 < (x206000.length : Int) then ((impl_over.f ((rd_T37 x206000 x5).f0) x208000).bind fun t211 => (if t211 = true then (some false) else (impl_ValidTree.l1 k x3 (wrap64 (x5 + 1)) x11 x12 x13 x206000 x208000 x208001 x208002))) else (none)) else (none)) else (impl_ValidTree.l0 k x11 x12 (wrap64 (x13 + 1)) x206000)
end
def impl_ValidTree.f (k : Nat) (qa : List (S37)) : Option (Bool) := if (qa.length : Int) > 100 then (some false) else (impl_ValidTree.l0 k qa (qa.length : Int) 0 qa)
theorem impl_ValidTree.mono_l : ∀ k, (∀ y0 y1 y2 y3, LeO (impl_ValidTree.l0 k y0 y1 y2 y3) (impl_ValidTree.l0 (k + 1) y0 y1 y2 y3)) ∧ (∀ y0 y1 y2 y3 y4 y5 y6 y7 y8, LeO (impl_ValidTree.j1 k y0 y1 y2 y3 y4 y5 y6 y7 y8) (impl_ValidTree.j1 (k + 1) y0 y1 y2 y3 y4 y5 y6 y7 y8)) ∧ (∀ y0 y1 y2 y3 y4 y5 y6 y7 y8, LeO (impl_ValidTree.l1 k y0 y1 y2 y3 y4 y5 y6 y7 y8) (impl_ValidTree.l1 (k + 1) y0 y1 y2 y3 y4 y5 y6 y7 y8))
 | 0 => ⟨fun _ _ _ _ r h => by simp [impl_ValidTree.l0] at h, fun _ _ _ _ _ _ _ _ _ r h => by simp [impl_ValidTree.j1] at h, fun _ _ _ _ _ _ _ _ _ r h => by simp [impl_ValidTree.l1] at h⟩
 | k + 1 => by
  obtain ⟨ih0, ih1, ih2⟩ := impl_ValidTree.mono_l k; refine ⟨?_, ?_, ?_⟩
  ·intro y0 y1 y2 y3
   unfold impl_ValidTree.l0
   repeat' first
   | (with_reducible exact ih0 _ _ _ _)
   | (with_reducible exact ih1 _ _ _ _ _ _ _ _ _)
   | (with_reducible exact ih2 _ _ _ _ _ _ _ _ _)
   | (with_reducible exact impl_goodEntry.mono _ _ _ _)
   | (with_reducible exact LeO.refl _)
   | (with_reducible exact LeO.none _)
   | (with_reducible refine LeO.ite ?_ ?_)
   | (with_reducible refine LeO.bind ?_ (fun _ => ?_))
   | exact ih0 _ _ _ _
   | exact ih1 _ _ _ _ _ _ _ _ _
   | exact ih2 _ _ _ _ _ _ _ _ _
   | exact impl_goodEntry.mono _ _ _ _
   | exact LeO.none _
   | refine LeO.ite ?_ ?_
   | refine LeO.bind ?_ (fun _ => ?_)
  ·intro y0 y1 y2 y3 y4 y5 y6 y7 y8
   unfold impl_ValidTree.j1
   repeat' first
   | (with_reducible exact ih0 _ _ _ _)
   | (with_reducible exact ih1 _ _ _ _ _ _ _ _ _)
   | (with_reducible exact ih2 _ _ _ _ _ _ _ _ _)
   | (with_reducible exact impl_goodEntry.mono _ _ _ _)
   | (with_reducible exact LeO.refl _)
   | (with_reducible exact LeO.none _)
   | (with_reducible refine LeO.ite ?_ ?_)
   | (with_reducible refine LeO.bind ?_ (fun _ => ?_))
   | exact ih0 _ _ _ _
   | exact ih1 _ _ _ _ _ _ _ _ _
   | exact ih2 _ _ _ _ _ _ _ _ _
   | exact impl_goodEntry.mono _ _ _ _
   | exact LeO.none _
   | refine LeO.ite ?_ ?_
   | refine LeO.bind ?_ (fun _ => ?_)
  ·intro y0 y1 y2 y3 y4 y5 y6 y7 y8
   unfold impl_ValidTree.l1
   repeat' first
   | (with_reducible exact ih0 _ _ _ _)
   | (with_reducible exact ih1 _ _ _ _ _ _ _ _ _)
   | (with_reducible exact ih2 _ _ _ _ _ _ _ _ _)
   | (with_reducible exact impl_goodEntry.mono _ _ _ _)
   | (with_reducible exact LeO.refl _)
   | (with_reducible exact LeO.none _)
   | (with_reducible refine LeO.ite ?_ ?_)
   | (with_reducible refine LeO.bind ?_ (fun _ => ?_))
   | exact ih0 _ _ _ _
   | exact ih1 _ _ _ _ _ _ _ _ _
   | exact ih2 _ _ _ _ _ _ _ _ _
   | exact impl_goodEntry.mono _ _ _ _
   | exact LeO.none _
   | refine LeO.ite ?_ ?_
   | refine LeO.bind ?_ (fun _ => ?_)
theorem impl_ValidTree.mono : ∀ a0 k, LeO (impl_ValidTree.f k a0) (impl_ValidTree.f (k + 1) a0) := by
 intro a0 k; obtain ⟨ih0, ih1, ih2⟩ := impl_ValidTree.mono_l k
 unfold impl_ValidTree.f
 repeat' first
   | (with_reducible exact ih0 _ _ _ _)
   | (with_reducible exact ih1 _ _ _ _ _ _ _ _ _)
   | (with_reducible exact ih2 _ _ _ _ _ _ _ _ _)
   | (with_reducible exact impl_goodEntry.mono _ _ _ _)
   | (with_reducible exact LeO.refl _)
   | (with_reducible exact LeO.none _)
   | (with_reducible refine LeO.ite ?_ ?_)
   | (with_reducible refine LeO.bind ?_ (fun _ => ?_))
   | exact ih0 _ _ _ _
   | exact ih1 _ _ _ _ _ _ _ _ _
   | exact ih2 _ _ _ _ _ _ _ _ _
   | exact impl_goodEntry.mono _ _ _ _
   | exact LeO.none _
   | refine LeO.ite ?_ ?_
   | refine LeO.bind ?_ (fun _ => ?_)
def impl_ValidTree.T6 : Bool × List (List Nat × List Nat) := (true, [([], []), ([0], [0]), ([1], [1]), ([2, 1], [2]), ([3], [3]), ([4, 3], [3, 4]), ([5, 3, 3], [3, 5]), ([6], [6]), ([7, 6], [6, 7]), ([6], [6]), ([9, 6], [6, 9]), ([8, 10, 6], [6, 8, 10]), ([11, 6], [6, 11]), ([12, 6], [6, 12]), ([6], [6]), ([14, 6], [6, 14]), ([13, 15, 6], [6, 13, 15]), ([6, 16, 3], [3, 6, 16]), ([3, 17], [3, 17])])
def impl_ValidTree.B6 : List Nat := [0, 1, 3, 7, 15, 31, 63, 127, 255, 127, 639, 2047, 4095, 8191, 127, 16511, 65535, 131071, 262143]
theorem impl_ValidTree.tab6 : rtab .any (opsOf Tryd.f25 6) = impl_ValidTree.T6 := by kernel_rfl
theorem impl_ValidTree.bits6 : waitsOk impl_ValidTree.T6.2 impl_ValidTree.B6 = true := by kernel_rfl
def impl_ValidTree.T11 : Bool × List (List Nat × List Nat) := (true, [([], []), ([0], [0]), ([], []), ([1, 2], [1, 2]), ([3], [3]), ([4], [4]), ([], []), ([6], [6]), ([5, 7], [5, 7])])
def impl_ValidTree.B11 : List Nat := [0, 1, 0, 7, 15, 31, 0, 64, 255]
theorem impl_ValidTree.tab11 : rtab .any (opsOf Tryd.f25 11) = impl_ValidTree.T11 := by kernel_rfl
theorem impl_ValidTree.bits11 : waitsOk impl_ValidTree.T11.2 impl_ValidTree.B11 = true := by kernel_rfl
set_option maxHeartbeats 8000000 in
set_option maxRecDepth 100000 in
theorem impl_ValidTree.calls (k : Nat) (A0_0 : Option Addr) (c0_0 : Nat) (qa : List (S37)) (r : Bool) (w : World) (hg : GOK w) (hr0_0 : Kd.C k37 w A0_0 qa.length qa) (hc0_0 : qa.length ≤ c0_0) (h : impl_ValidTree.f k qa = some r) :
  Calls Tryd.prog 25 #[.agg #[.slice A0_0 qa.length c0_0]] w fun e w' => e = .returned (.bool r) ∧ Below w.heap.size w w' := by
 have HG := Aside0.mk hg; clear hg; have hu28 := Tryd.underlying28; have hu37 := Tryd.underlying37; have HR0_0 := Aside0.mk hr0_0; have HC0_0 := Aside0.mk hc0_0; clear hr0_0 hc0_0; have HB := Aside0.mk (Below.refl w.heap.size w); have H : (if (qa.length : Int) > 100 then (some false) else (impl_ValidTree.l0 k qa (qa.length : Int) 0 qa)) = some r := h; clear h
 by_cases c2 : (qa.length : Int) > 100
 ·rw [if_pos c2] at H
  have c2b0 : decide (100 < (qa.length : Int)) = true := decide_eq_true c2; have c2b1 : decide (100 < qa.length) = true := decide_eq_true (by omega); clear c2; obtain rfl := Option.some.inj H
  go_enter Tryd.func25, Tryd.ntmps25
  go_wp2_with (first | ((with_reducible refine gd 1 rfl ?_); refine bx 1 28 (#[.slice A0_0 qa.length c0_0]) ?_; intro gb205 hg w3 hbox hb; refine Ya4 (below_step (be HB.out) hb) (hbox) (bs hg (be HB.out)) (bs hg (be HB.out)) ?_; clear HB; intro HB qd GW205 qg; clear hb hbox hg; have ⟨hcz4_0, hfz4_0⟩ := Yc1 qd.out))
  go_ret
  exact ⟨Ye2, (by first | exact be1 HB.out qg.out | exact be HB.out)⟩
 ·rw [if_neg c2] at H
  have c2b0 : decide (100 < (qa.length : Int)) = false := decide_eq_false c2; have c2b1 : decide (100 < qa.length) = false := decide_eq_false (by omega); clear c2; have H' := Aside0.mk H; clear H
  go_enter Tryd.func25, Tryd.ntmps25
  go_wp2_with (first | ((with_reducible refine gd 1 rfl ?_); refine bx 1 28 (#[.slice A0_0 qa.length c0_0]) ?_; intro gb205 hg w5 hbox hb; refine Ya4 (below_step (be HB.out) hb) (hbox) (bs hg (be HB.out)) (bs hg (be HB.out)) ?_; clear HB; intro HB qd GW205 qg; clear hb hbox hg; have ⟨hcz6_0, hfz6_0⟩ := Yc1 qd.out))
  go_loopg [13] k (fun kq v13 w' => ∃ (qb : Int), v13 = .int .i64 qb ∧ Aside0 (impl_ValidTree.l0 kq qa (qa.length : Int) qb qa = some r) ∧ Aside0 (kq ≤ k) ∧ Aside0 (w'.heap[gb205]? = some (.cells #[(.slice A0_0 qa.length c0_0)] 28 (0, 0))) ∧ Aside0 (Below w.heap.size w w'))
  case atStart => exact ⟨(0), Ye1, H', ⟨Nat.le_refl _⟩, ⟨bk qd.out⟩, ⟨be1 HB.out qg.out⟩⟩
  case round =>
   clear H'; (try clear c2); (try clear c2b0); (try clear c2b1); (try clear p2); (try clear hcz4_0); (try clear hcz6_0); (try clear hfz4_0); (try clear hfz6_0); obtain ⟨qb, rfl, HA, HK1, qd, HB⟩ := hrel
   cases gk with
   | zero => exact absurd HA.out (by simp [impl_ValidTree.l0])
   | succ k1 =>
    have H := HA.out; clear HA; simp only [impl_ValidTree.l0] at H
    by_cases c7 : qb < (qa.length : Int)
    ·rw [if_pos c7] at H
     have c7b0 : decide (qb < (qa.length : Int)) = true := decide_eq_true c7; clear c7
     by_cases c8 : 0 ≤ qb
     ·rw [if_pos c8] at H
      have c8b0 : decide (0 ≤ qb) = true := decide_eq_true c8; clear c8
      by_cases c9 : qb < (qa.length : Int)
      ·rw [if_pos c9] at H
       have c9b0 : decide (qb < (qa.length : Int)) = true := decide_eq_true c9; clear c9; have HC10 := Aside0.mk H; clear H; have p206 : 0 ≤ (qb : Int) := oda; have q206 : qb < (qa.length : Int) := oda; obtain ⟨ad206, e206, hx206_0, hx206_1, hx206_2⟩ := at_T37 (Kd.C_below HR0_0.out HB.out) qb p206 q206
       cases e206
       replace p206 := eq_true p206; replace q206 := eq_true q206
       go_upto_region 6 with (first | ((with_reducible refine gd 4 rfl ?_); refine bx 4 37 (#[.string (⟨#[]⟩ : ByteArray), .string (⟨#[]⟩ : ByteArray), .bool false]) ?_; intro qe hg w11 hbox hb; refine Ya7 (bb qd hb) (below_step (be1 HB.out qg.out) hb) (hbox) (bs hg (be1 HB.out qg.out)) (bs hg (be1 HB.out qg.out)) (bl hg qd) (br hg qd) ?_; clear qd HB; intro qd HB qc GW207 qi NB205_207 NB207_205; clear hb hbox hg; have hnb12 := NB207_205.out; have hnc12 := NB205_207.out; have ⟨hcz13_0, hcz13_1, hcz13_2, hfz13_0, hfz13_1, hfz13_2⟩ := Yc3 qc.out))
       (try simp only [Act.put, List.setIfInBounds_toArray, List.set_cons_zero, List.set_cons_succ])
       go_cut [36] (fun v36 wc => ∃ (kq : Nat) (x36_9 : Bool), v36 = .bool x36_9 ∧ Aside0 (impl_ValidTree.j1 kq qb qa (qa.length : Int) qb x36_9 qa ((rd_T37 qa qb).f0) ((rd_T37 qa qb).f1) ((rd_T37 qa qb).f2) = some r) ∧ Aside0 (kq ≤ k1) ∧ Aside0 (wc.heap[gb205]? = some (.cells #[(.slice (some ad206) qa.length c0_0)] 28 (0, 0))) ∧ Aside0 (wc.heap[qe]? = some (.cells #[.string ((rd_T37 qa qb).f0), .string ((rd_T37 qa qb).f1), .bool ((rd_T37 qa qb).f2)] 37 (0, 0))) ∧ Aside0 (Below w.heap.size w wc))
       case first =>
        have H := HC10.out; clear HC10; replace H := Option.bind_eq_some_iff.mp H; obtain ⟨t208, A140, H⟩ := H; replace H : (if t208 = true then (if qb > 0 then (if 0 ≤ (wrap64 (qb - 1)) then (if (wrap64 (qb - 1)) < (qa.length : Int) then (impl_ValidTree.j1 k1 qb qa (qa.length : Int) qb (!(Op.bytesLess (((rd_T37 qa (wrap64 (qb - 1))).f0).toList) (((rd_T37 qa qb).f0).toList))) qa ((rd_T37 qa qb).f0) ((rd_T37 qa qb).f1) ((rd_T37 qa qb).f2)) else (none)) else (none)) else (impl_ValidTree.j1 k1 qb qa (qa.length : Int) qb false qa ((rd_T37 qa qb).f0) ((rd_T37 qa qb).f1) ((rd_T37 qa qb).f2))) else (impl_ValidTree.j1 k1 qb qa (qa.length : Int) qb true qa ((rd_T37 qa qb).f0) ((rd_T37 qa qb).f1) ((rd_T37 qa qb).f2))) = some r := H; have A14 := Aside0.mk A140; clear A140
        by_cases c15 : t208 = true
        ·subst c15
         have H1 : (if qb > 0 then (if 0 ≤ (wrap64 (qb - 1)) then (if (wrap64 (qb - 1)) < (qa.length : Int) then (impl_ValidTree.j1 k1 qb qa (qa.length : Int) qb (!(Op.bytesLess (((rd_T37 qa (wrap64 (qb - 1))).f0).toList) (((rd_T37 qa qb).f0).toList))) qa ((rd_T37 qa qb).f0) ((rd_T37 qa qb).f1) ((rd_T37 qa qb).f2)) else (none)) else (none)) else (impl_ValidTree.j1 k1 qb qa (qa.length : Int) qb false qa ((rd_T37 qa qb).f0) ((rd_T37 qa qb).f1) ((rd_T37 qa qb).f2))) = some r := by rw [if_pos rfl] at H; exact H
         clear H; have H := H1; clear H1
         by_cases c16 : qb > 0
         ·rw [if_pos c16] at H
          have c16b0 : decide (0 < qb) = true := decide_eq_true c16; clear c16; (first | rw [c16b0] | (simp only [i64_w, i32_w]; rw [c16b0]) | skip)
          obtain ⟨qh, hji17⟩ : ∃ j_ : Int, (wrap64 (qb - 1)) = j_ := ⟨_, rfl⟩
          replace H : (if 0 ≤ (qh) then (if (qh) < (qa.length : Int) then (impl_ValidTree.j1 k1 qb qa (qa.length : Int) qb (!(Op.bytesLess (((rd_T37 qa (qh)).f0).toList) (((rd_T37 qa qb).f0).toList))) qa ((rd_T37 qa qb).f0) ((rd_T37 qa qb).f1) ((rd_T37 qa qb).f2)) else (none)) else (none)) = some r := by first | (rw [hji17] at H; exact H) | (simp only [hji17] at H ⊢; exact H)
          (try rw [hji17] at A14); have hji17w : (IntKind.i64.wrap (qb - 1)) = qh := (i64_w _).trans hji17
          by_cases c18 : 0 ≤ (qh)
          ·rw [if_pos c18] at H
           have c18b0 : decide (0 ≤ (qh)) = true := decide_eq_true c18; clear c18
           by_cases c19 : (qh) < (qa.length : Int)
           ·rw [if_pos c19] at H
            have c19b0 : decide ((qh) < (qa.length : Int)) = true := decide_eq_true c19; clear c19; have H' := Aside0.mk H; clear H
            try go_wp2
            have n0_ : Aside0 ((((w11.setCell ⟨qe, 0, none⟩ (.string ((rd_T37 qa qb).f0))).setCell ⟨qe, 1, none⟩ (.string ((rd_T37 qa qb).f1))).setCell ⟨qe, 2, none⟩ (.bool ((rd_T37 qa qb).f2))).heap[gb205]? = some (.cells #[.slice (some ad206) qa.length c0_0] 28 (0, 0))) := ⟨bkf qd.out NB205_207.out⟩
            have n1_ : Aside0 ((((w11.setCell ⟨qe, 0, none⟩ (.string ((rd_T37 qa qb).f0))).setCell ⟨qe, 1, none⟩ (.string ((rd_T37 qa qb).f1))).setCell ⟨qe, 2, none⟩ (.bool ((rd_T37 qa qb).f2))).heap[qe]? = some (.cells #[.string ((rd_T37 qa qb).f0), .string ((rd_T37 qa qb).f1), .bool ((rd_T37 qa qb).f2)] 37 (0, 0))) := ⟨by (with_reducible repeat (first | apply blk_drewN | apply blk_drew | apply blk_alloc)); refine blk_put (cs := #[.string ((rd_T37 qa qb).f0), .string ((rd_T37 qa qb).f1), .bool false]) ?_ 2 _ rfl; (with_reducible repeat (first | apply blk_drewN | apply blk_drew | apply blk_alloc)); refine blk_put (cs := #[.string ((rd_T37 qa qb).f0), .string (⟨#[]⟩ : ByteArray), .bool false]) ?_ 1 _ rfl; (with_reducible repeat (first | apply blk_drewN | apply blk_drew | apply blk_alloc)); refine blk_put (cs := #[.string (⟨#[]⟩ : ByteArray), .string (⟨#[]⟩ : ByteArray), .bool false]) ?_ 0 _ rfl; (with_reducible repeat (first | apply blk_drewN | apply blk_drew | apply blk_alloc)); exact qc.out⟩
            have n2_ : Aside0 (Below w.heap.size w (((w11.setCell ⟨qe, 0, none⟩ (.string ((rd_T37 qa qb).f0))).setCell ⟨qe, 1, none⟩ (.string ((rd_T37 qa qb).f1))).setCell ⟨qe, 2, none⟩ (.bool ((rd_T37 qa qb).f2)))) := ⟨be2 HB.out qg.out qi.out⟩
            (try clear qd); (try clear qc); (try clear HB); generalize (((w11.setCell ⟨qe, 0, none⟩ (.string ((rd_T37 qa qb).f0))).setCell ⟨qe, 1, none⟩ (.string ((rd_T37 qa qb).f1))).setCell ⟨qe, 2, none⟩ (.bool ((rd_T37 qa qb).f2))) = w20 at n0_ n1_ n2_ ⊢; have qd := n0_; have qc := n1_; have HB := n2_; clear n0_ n1_ n2_; refine Ya3 (blk_drew qd.out) (blk_drew qc.out) (below_drew1 HB.out) ?_; clear qd qc HB; intro qd qc HB; have p209 : 0 ≤ ((qh) : Int) := oda; have q209 : (qh) < (qa.length : Int) := oda; obtain ⟨ad209, e209, hx209_0, hx209_1, hx209_2⟩ := at_T37 HR0_0.out (qh) p209 q209; have hw209_2 := hx209_2; have hw209_1 := hx209_1; have hw209_0 := hx209_0
            obtain rfl : ad206 = ad209 := (by injection e209)
            replace hx209_0 := pw_cell_below HB.out hx209_0; replace hx209_1 := pw_cell_below HB.out hx209_1; replace hx209_2 := pw_cell_below HB.out hx209_2; replace p209 := eq_true p209; replace q209 := eq_true q209; refine start_ (n := 19) (S := fun w' => w'.cell? ⟨qe, 0, none⟩ = some (.string ((rd_T37 qa qb).f0)) ∧ w'.cell? ⟨qe, 1, none⟩ = some (.string ((rd_T37 qa qb).f1)) ∧ w'.cell? ⟨qe, 2, none⟩ = some (.bool ((rd_T37 qa qb).f2)) ∧ w'.cell? ⟨gb205, 0, none⟩ = some (.slice (some ad206) qa.length c0_0) ∧ w'.cell? (ad206.add (((qh)).toNat * 3)) = some (.string ((rd_T37 qa (qh)).f0)) ∧ w'.cell? ⟨(ad206.add (((qh)).toNat * 3)).block, (ad206.add (((qh)).toNat * 3)).off + 1, none⟩ = some (.string ((rd_T37 qa (qh)).f1)) ∧ w'.cell? ⟨(ad206.add (((qh)).toNat * 3)).block, (ad206.add (((qh)).toNat * 3)).off + 2, none⟩ = some (.bool ((rd_T37 qa (qh)).f2))) (ds := []) (fb 19 0) (by kernel_rfl) rfl rfl ⟨(blk_cell qc.out 0).trans rfl, (blk_cell qc.out 1).trans rfl, (blk_cell qc.out 2).trans rfl, (blk_cell qd.out 0).trans rfl, (pw_cell_below HB.out hw209_0), (pw_cell_below HB.out hw209_1), (pw_cell_below HB.out hw209_2)⟩ (fun hHeld => ?_); refine with_tabW impl_ValidTree.tab6 impl_ValidTree.bits6 (fun HT_ HW_ => ?_); generalize w20.drew = w21 at qd qc HB hx209_0 hx209_1 hx209_2 hHeld ⊢; refine tk 0 18 (fb 19 1) HT_ HW_ hHeld ?_; refine one_ (i := 1) (N := some 19) (fb 19 3) rfl rfl (one_of HT_.out (by kernel_rfl)) (by decide) (fun K hK => ?_); refine gs _ (#[.agg #[.string ((rd_T37 qa qb).f0), .string ((rd_T37 qa qb).f1), .bool ((rd_T37 qa qb).f2)]]) Tryd.func82 ?_; (with_reducible refine (impl_goodEntry.calls k1 ((rd_T37 qa qb).f0) ((rd_T37 qa qb).f1) ((rd_T37 qa qb).f2) true _ ?sideG A14.out).mono ?_; (case sideG => exact gk2 HG.out HB.out qg.out qi.out)); rintro e w22 ⟨rfl, hb⟩; refine ⟨_, rfl, ?_⟩; refine Ya3 (bb qd hb) (bb qc hb) (below_step (be2 HB.out qg.out qi.out) hb) ?_; clear qd qc HB; intro qd qc HB; (try clear hb); (try clear hb2); (try clear hk); (try clear hi); refine hK.out _ _ ⟨(blk_cell qc.out 0).trans rfl, (blk_cell qc.out 1).trans rfl, (blk_cell qc.out 2).trans rfl, (blk_cell qd.out 0).trans rfl, (pw_cell_below HB.out hw209_0), (pw_cell_below HB.out hw209_1), (pw_cell_below HB.out hw209_2)⟩ (fun hHeld => ?_); clear hK K; refine norm_ (a' := ?_) ?_ ?_; rotate_left
            ·show Act.put _ (some 19) _ = _
             simp only [Act.put, List.setIfInBounds_toArray, List.set_cons_zero, List.set_cons_succ, i64_w, i32_w]; rfl
            refine pu 2 20 (fb 19 7) HT_ ?_; refine pu 3 21 (fb 19 15) HT_ ?_; refine pu 4 22 (fb 19 31) HT_ ?_; refine pu 5 23 (fb 19 63) HT_ ?_; refine pu 6 24 (fb 19 127) HT_ ?_; refine pu 7 25 (fb 19 255) HT_ ?_; refine pu 9 27 (fb 19 767) HT_ ?_; refine pu 10 28 (fb 19 1791) HT_ ?_; refine pu 14 32 (fb 19 18175) HT_ ?_; refine tk 8 26 (fb 19 18431) HT_ HW_ hHeld ?_; refine pu 11 29 (fb 19 20479) HT_ ?_; refine pu 12 30 (fb 19 24575) HT_ ?_; refine tk 13 31 (fb 19 32767) HT_ HW_ hHeld ?_; refine tk 15 33 (fb 19 65535) HT_ HW_ hHeld ?_; refine pu 16 34 (fb 19 131071) HT_ ?_; refine pu 17 35 (fb 19 262143) HT_ ?_; refine pu 18 36 (fb 19 524287) HT_ ?_; refine done_ (done_of HT_.out (by kernel_rfl)) ?_
            try go_wp2
            go_meet
            case rel => exact ⟨_, (!(Op.bytesLess (((rd_T37 qa (qh)).f0).toList) (((rd_T37 qa qb).f0).toList))), (by first | rfl | (simp; done) | (simp only [← hji17] <;> (first | rfl | simp)) | (simp [*]; done)), (by first | exact H' | (subst hji17; exact H') | (simp only [← hji17] at H' ⊢; exact H')), ⟨by have := HK1.out; first | omega | exact Nat.le_refl _⟩, ⟨bk qd.out⟩, ⟨bk qc.out⟩, ⟨be2 HB.out qg.out qi.out⟩⟩
           ·rw [if_neg c19] at H
            exact absurd H (by simp)
          ·rw [if_neg c18] at H
           exact absurd H (by simp)
         ·rw [if_neg c16] at H
          have c16b0 : decide (0 < qb) = false := decide_eq_false c16; clear c16; (first | rw [c16b0] | (simp only [i64_w, i32_w]; rw [c16b0]) | skip); have H' := Aside0.mk H; clear H
          try go_wp2
          have n0_ : Aside0 ((((w11.setCell ⟨qe, 0, none⟩ (.string ((rd_T37 qa qb).f0))).setCell ⟨qe, 1, none⟩ (.string ((rd_T37 qa qb).f1))).setCell ⟨qe, 2, none⟩ (.bool ((rd_T37 qa qb).f2))).heap[gb205]? = some (.cells #[.slice (some ad206) qa.length c0_0] 28 (0, 0))) := ⟨bkf qd.out NB205_207.out⟩
          have n1_ : Aside0 ((((w11.setCell ⟨qe, 0, none⟩ (.string ((rd_T37 qa qb).f0))).setCell ⟨qe, 1, none⟩ (.string ((rd_T37 qa qb).f1))).setCell ⟨qe, 2, none⟩ (.bool ((rd_T37 qa qb).f2))).heap[qe]? = some (.cells #[.string ((rd_T37 qa qb).f0), .string ((rd_T37 qa qb).f1), .bool ((rd_T37 qa qb).f2)] 37 (0, 0))) := ⟨by (with_reducible repeat (first | apply blk_drewN | apply blk_drew | apply blk_alloc)); refine blk_put (cs := #[.string ((rd_T37 qa qb).f0), .string ((rd_T37 qa qb).f1), .bool false]) ?_ 2 _ rfl; (with_reducible repeat (first | apply blk_drewN | apply blk_drew | apply blk_alloc)); refine blk_put (cs := #[.string ((rd_T37 qa qb).f0), .string (⟨#[]⟩ : ByteArray), .bool false]) ?_ 1 _ rfl; (with_reducible repeat (first | apply blk_drewN | apply blk_drew | apply blk_alloc)); refine blk_put (cs := #[.string (⟨#[]⟩ : ByteArray), .string (⟨#[]⟩ : ByteArray), .bool false]) ?_ 0 _ rfl; (with_reducible repeat (first | apply blk_drewN | apply blk_drew | apply blk_alloc)); exact qc.out⟩
          have n2_ : Aside0 (Below w.heap.size w (((w11.setCell ⟨qe, 0, none⟩ (.string ((rd_T37 qa qb).f0))).setCell ⟨qe, 1, none⟩ (.string ((rd_T37 qa qb).f1))).setCell ⟨qe, 2, none⟩ (.bool ((rd_T37 qa qb).f2)))) := ⟨be2 HB.out qg.out qi.out⟩
          (try clear qd); (try clear qc); (try clear HB); generalize (((w11.setCell ⟨qe, 0, none⟩ (.string ((rd_T37 qa qb).f0))).setCell ⟨qe, 1, none⟩ (.string ((rd_T37 qa qb).f1))).setCell ⟨qe, 2, none⟩ (.bool ((rd_T37 qa qb).f2))) = w23 at n0_ n1_ n2_ ⊢; have qd := n0_; have qc := n1_; have HB := n2_; clear n0_ n1_ n2_; refine Ya3 (blk_drew qd.out) (blk_drew qc.out) (below_drew1 HB.out) ?_; clear qd qc HB; intro qd qc HB; refine start_ (n := 19) (S := fun w' => w'.cell? ⟨qe, 0, none⟩ = some (.string ((rd_T37 qa qb).f0)) ∧ w'.cell? ⟨qe, 1, none⟩ = some (.string ((rd_T37 qa qb).f1)) ∧ w'.cell? ⟨qe, 2, none⟩ = some (.bool ((rd_T37 qa qb).f2))) (ds := []) (fb 19 0) (by kernel_rfl) rfl rfl ⟨(blk_cell qc.out 0).trans rfl, (blk_cell qc.out 1).trans rfl, (blk_cell qc.out 2).trans rfl⟩ (fun hHeld => ?_); refine with_tabW impl_ValidTree.tab6 impl_ValidTree.bits6 (fun HT_ HW_ => ?_); generalize w23.drew = w24 at qd qc HB hHeld ⊢; refine tk 0 18 (fb 19 1) HT_ HW_ hHeld ?_; refine one_ (i := 1) (N := some 19) (fb 19 3) rfl rfl (one_of HT_.out (by kernel_rfl)) (by decide) (fun K hK => ?_); refine gs _ (#[.agg #[.string ((rd_T37 qa qb).f0), .string ((rd_T37 qa qb).f1), .bool ((rd_T37 qa qb).f2)]]) Tryd.func82 ?_; (with_reducible refine (impl_goodEntry.calls k1 ((rd_T37 qa qb).f0) ((rd_T37 qa qb).f1) ((rd_T37 qa qb).f2) true _ ?sideG A14.out).mono ?_; (case sideG => exact gk2 HG.out HB.out qg.out qi.out)); rintro e w25 ⟨rfl, hb⟩; refine ⟨_, rfl, ?_⟩; refine Ya3 (bb qd hb) (bb qc hb) (below_step (be2 HB.out qg.out qi.out) hb) ?_; clear qd qc HB; intro qd qc HB; (try clear hb); (try clear hb2); (try clear hk); (try clear hi); refine hK.out _ _ ⟨(blk_cell qc.out 0).trans rfl, (blk_cell qc.out 1).trans rfl, (blk_cell qc.out 2).trans rfl⟩ (fun hHeld => ?_); clear hK K; refine norm_ (a' := ?_) ?_ ?_; rotate_left
          ·show Act.put _ (some 19) _ = _
           simp only [Act.put, List.setIfInBounds_toArray, List.set_cons_zero, List.set_cons_succ, i64_w, i32_w]; rfl
          refine pu 2 20 (fb 19 7) HT_ ?_; refine pu 3 21 (fb 19 15) HT_ ?_; refine pu 4 22 (fb 19 31) HT_ ?_; refine pu 5 23 (fb 19 63) HT_ ?_; refine pu 6 24 (fb 19 127) HT_ ?_; refine pn 7 25 (fb 19 255) HT_ ?_; refine pn 8 26 (fb 19 511) HT_ ?_; refine pn 9 27 (fb 19 1023) HT_ ?_; refine pn 10 28 (fb 19 2047) HT_ ?_; refine pn 11 29 (fb 19 4095) HT_ ?_; refine pn 12 30 (fb 19 8191) HT_ ?_; refine pn 13 31 (fb 19 16383) HT_ ?_; refine pn 14 32 (fb 19 32767) HT_ ?_; refine pn 15 33 (fb 19 65535) HT_ ?_; refine pn 16 34 (fb 19 131071) HT_ ?_; refine pu 17 35 (fb 19 262143) HT_ ?_; refine pu 18 36 (fb 19 524287) HT_ ?_; refine done_ (done_of HT_.out (by kernel_rfl)) ?_
          try go_wp2
          go_meet
          case rel => exact ⟨_, (false), Ye1, H', ⟨by have := HK1.out; first | omega | exact Nat.le_refl _⟩, ⟨bk qd.out⟩, ⟨bk qc.out⟩, ⟨be2 HB.out qg.out qi.out⟩⟩
        ·replace c15 := Bool.eq_false_iff.mpr c15; subst c15
         have H1 : (impl_ValidTree.j1 k1 qb qa (qa.length : Int) qb true qa ((rd_T37 qa qb).f0) ((rd_T37 qa qb).f1) ((rd_T37 qa qb).f2)) = some r := by rw [if_neg (show ¬ (false = true) by decide)] at H; exact H
         clear H; have H := H1; clear H1; have H' := Aside0.mk H; clear H
         try go_wp2
         have n0_ : Aside0 ((((w11.setCell ⟨qe, 0, none⟩ (.string ((rd_T37 qa qb).f0))).setCell ⟨qe, 1, none⟩ (.string ((rd_T37 qa qb).f1))).setCell ⟨qe, 2, none⟩ (.bool ((rd_T37 qa qb).f2))).heap[gb205]? = some (.cells #[.slice (some ad206) qa.length c0_0] 28 (0, 0))) := ⟨bkf qd.out NB205_207.out⟩
         have n1_ : Aside0 ((((w11.setCell ⟨qe, 0, none⟩ (.string ((rd_T37 qa qb).f0))).setCell ⟨qe, 1, none⟩ (.string ((rd_T37 qa qb).f1))).setCell ⟨qe, 2, none⟩ (.bool ((rd_T37 qa qb).f2))).heap[qe]? = some (.cells #[.string ((rd_T37 qa qb).f0), .string ((rd_T37 qa qb).f1), .bool ((rd_T37 qa qb).f2)] 37 (0, 0))) := ⟨by (with_reducible repeat (first | apply blk_drewN | apply blk_drew | apply blk_alloc)); refine blk_put (cs := #[.string ((rd_T37 qa qb).f0), .string ((rd_T37 qa qb).f1), .bool false]) ?_ 2 _ rfl; (with_reducible repeat (first | apply blk_drewN | apply blk_drew | apply blk_alloc)); refine blk_put (cs := #[.string ((rd_T37 qa qb).f0), .string (⟨#[]⟩ : ByteArray), .bool false]) ?_ 1 _ rfl; (with_reducible repeat (first | apply blk_drewN | apply blk_drew | apply blk_alloc)); refine blk_put (cs := #[.string (⟨#[]⟩ : ByteArray), .string (⟨#[]⟩ : ByteArray), .bool false]) ?_ 0 _ rfl; (with_reducible repeat (first | apply blk_drewN | apply blk_drew | apply blk_alloc)); exact qc.out⟩
         have n2_ : Aside0 (Below w.heap.size w (((w11.setCell ⟨qe, 0, none⟩ (.string ((rd_T37 qa qb).f0))).setCell ⟨qe, 1, none⟩ (.string ((rd_T37 qa qb).f1))).setCell ⟨qe, 2, none⟩ (.bool ((rd_T37 qa qb).f2)))) := ⟨be2 HB.out qg.out qi.out⟩
         (try clear qd); (try clear qc); (try clear HB); generalize (((w11.setCell ⟨qe, 0, none⟩ (.string ((rd_T37 qa qb).f0))).setCell ⟨qe, 1, none⟩ (.string ((rd_T37 qa qb).f1))).setCell ⟨qe, 2, none⟩ (.bool ((rd_T37 qa qb).f2))) = w26 at n0_ n1_ n2_ ⊢; have qd := n0_; have qc := n1_; have HB := n2_; clear n0_ n1_ n2_; refine Ya3 (blk_drew qd.out) (blk_drew qc.out) (below_drew1 HB.out) ?_; clear qd qc HB; intro qd qc HB; refine start_ (n := 19) (S := fun w' => w'.cell? ⟨qe, 0, none⟩ = some (.string ((rd_T37 qa qb).f0)) ∧ w'.cell? ⟨qe, 1, none⟩ = some (.string ((rd_T37 qa qb).f1)) ∧ w'.cell? ⟨qe, 2, none⟩ = some (.bool ((rd_T37 qa qb).f2))) (ds := []) (fb 19 0) (by kernel_rfl) rfl rfl ⟨(blk_cell qc.out 0).trans rfl, (blk_cell qc.out 1).trans rfl, (blk_cell qc.out 2).trans rfl⟩ (fun hHeld => ?_); refine with_tabW impl_ValidTree.tab6 impl_ValidTree.bits6 (fun HT_ HW_ => ?_); generalize w26.drew = w27 at qd qc HB hHeld ⊢; refine tk 0 18 (fb 19 1) HT_ HW_ hHeld ?_; refine one_ (i := 1) (N := some 19) (fb 19 3) rfl rfl (one_of HT_.out (by kernel_rfl)) (by decide) (fun K hK => ?_); refine gs _ (#[.agg #[.string ((rd_T37 qa qb).f0), .string ((rd_T37 qa qb).f1), .bool ((rd_T37 qa qb).f2)]]) Tryd.func82 ?_; (with_reducible refine (impl_goodEntry.calls k1 ((rd_T37 qa qb).f0) ((rd_T37 qa qb).f1) ((rd_T37 qa qb).f2) false _ ?sideG A14.out).mono ?_; (case sideG => exact gk2 HG.out HB.out qg.out qi.out)); rintro e w28 ⟨rfl, hb⟩; refine ⟨_, rfl, ?_⟩; refine Ya3 (bb qd hb) (bb qc hb) (below_step (be2 HB.out qg.out qi.out) hb) ?_; clear qd qc HB; intro qd qc HB; (try clear hb); (try clear hb2); (try clear hk); (try clear hi); refine hK.out _ _ ⟨(blk_cell qc.out 0).trans rfl, (blk_cell qc.out 1).trans rfl, (blk_cell qc.out 2).trans rfl⟩ (fun hHeld => ?_); clear hK K; refine norm_ (a' := ?_) ?_ ?_; rotate_left
         ·show Act.put _ (some 19) _ = _
          simp only [Act.put, List.setIfInBounds_toArray, List.set_cons_zero, List.set_cons_succ, i64_w, i32_w]; rfl
         refine pu 2 20 (fb 19 7) HT_ ?_; refine pu 3 21 (fb 19 15) HT_ ?_; refine pn 4 22 (fb 19 31) HT_ ?_; refine pn 5 23 (fb 19 63) HT_ ?_; refine pn 6 24 (fb 19 127) HT_ ?_; refine pn 7 25 (fb 19 255) HT_ ?_; refine pn 8 26 (fb 19 511) HT_ ?_; refine pn 9 27 (fb 19 1023) HT_ ?_; refine pn 10 28 (fb 19 2047) HT_ ?_; refine pn 11 29 (fb 19 4095) HT_ ?_; refine pn 12 30 (fb 19 8191) HT_ ?_; refine pn 13 31 (fb 19 16383) HT_ ?_; refine pn 14 32 (fb 19 32767) HT_ ?_; refine pn 15 33 (fb 19 65535) HT_ ?_; refine pn 16 34 (fb 19 131071) HT_ ?_; refine pn 17 35 (fb 19 262143) HT_ ?_; refine pu 18 36 (fb 19 524287) HT_ ?_; refine done_ (done_of HT_.out (by kernel_rfl)) ?_
         try go_wp2
         go_meet
         case rel => exact ⟨_, (true), Ye1, H', ⟨by have := HK1.out; first | omega | exact Nat.le_refl _⟩, ⟨bk qd.out⟩, ⟨bk qc.out⟩, ⟨be2 HB.out qg.out qi.out⟩⟩
       case rest =>
        clear HC10; (try clear c1); (try clear p2); (try clear q2); (try clear hx2); (try clear p6); (try clear c7); (try clear c7b0); (try clear c8); (try clear c8b0); (try clear c9); (try clear c9b0); (try clear c12); (try clear c15); (try clear c16); (try clear c16b0); (try clear c18); (try clear c18b0); (try clear c19); (try clear c19b0); (try clear p20); (try clear q20); (try clear hx20); (try clear hcz13_0); (try clear hcz13_1); (try clear hcz13_2); (try clear hcz4_0); (try clear hcz6_0); (try clear hfz13_0); (try clear hfz13_1); (try clear hfz13_2); (try clear hfz4_0); (try clear hfz6_0); (try clear hx206_0); (try clear hx206_1); (try clear hx206_2); (try clear hx209_0); (try clear hx209_1); (try clear hx209_2); (try clear p206); (try clear p209); (try clear q206); (try clear q209); obtain ⟨kq, x36_9, rfl, HA, HJ9, qd, qc, HB⟩ := hcut
        cases kq with
        | zero => exact absurd HA.out (by simp [impl_ValidTree.j1])
        | succ kj9 =>
         have H := HA.out; clear HA; simp only [impl_ValidTree.j1] at H
         by_cases c29 : x36_9 = true
         ·subst c29
          have H1 : (some false) = some r := by rw [if_pos rfl] at H; exact H
          clear H; have H := H1; clear H1; obtain rfl := Option.some.inj H
          go_wp2
          go_ret
          exact ⟨Ye2, (by first | exact be2 HB.out qg.out qi.out | exact be1 HB.out qg.out | exact be HB.out)⟩
         ·replace c29 := Bool.eq_false_iff.mpr c29; subst c29
          have H1 : (impl_ValidTree.l1 kj9 qb 0 qa (qa.length : Int) qb qa ((rd_T37 qa qb).f0) ((rd_T37 qa qb).f1) ((rd_T37 qa qb).f2)) = some r := by rw [if_neg (show ¬ (false = true) by decide)] at H; exact H
          clear H; have H := H1; clear H1; have H' := Aside0.mk H; clear H
          go_wp2
          go_loopg [5] kj9 (fun kq v5 w' => ∃ (qf : Int), v5 = .int .i64 qf ∧ Aside0 (impl_ValidTree.l1 kq qb qf qa (qa.length : Int) qb qa ((rd_T37 qa qb).f0) ((rd_T37 qa qb).f1) ((rd_T37 qa qb).f2) = some r) ∧ Aside0 (kq ≤ kj9) ∧ Aside0 (w'.heap[gb205]? = some (.cells #[(.slice (some ad206) qa.length c0_0)] 28 (0, 0))) ∧ Aside0 (w'.heap[qe]? = some (.cells #[.string ((rd_T37 qa qb).f0), .string ((rd_T37 qa qb).f1), .bool ((rd_T37 qa qb).f2)] 37 (0, 0))) ∧ Aside0 (Below w.heap.size w w'))
          case atStart => exact ⟨(0), Ye1, H', ⟨Nat.le_refl _⟩, ⟨bk qd.out⟩, ⟨bk qc.out⟩, ⟨be2 HB.out qg.out qi.out⟩⟩
          case round =>
           clear H'; (try clear c1); (try clear c2); (try clear p2); (try clear q2); (try clear hx2); (try clear p6); (try clear c7); (try clear c7b0); (try clear c8); (try clear c8b0); (try clear c9); (try clear c9b0); (try clear c12); (try clear c15); (try clear c16); (try clear c16b0); (try clear c18); (try clear c18b0); (try clear c19); (try clear c19b0); (try clear p20); (try clear q20); (try clear hx20); (try clear c29); (try clear hcz13_0); (try clear hcz13_1); (try clear hcz13_2); (try clear hcz4_0); (try clear hcz6_0); (try clear hfz13_0); (try clear hfz13_1); (try clear hfz13_2); (try clear hfz4_0); (try clear hfz6_0); (try clear hx206_0); (try clear hx206_1); (try clear hx206_2); (try clear hx209_0); (try clear hx209_1); (try clear hx209_2); (try clear p2); (try clear p20); (try clear p206); (try clear p209); (try clear p6); (try clear q2); (try clear q20); (try clear q206); (try clear q209); obtain ⟨qf, rfl, HA, HK3, qd, qc, HB⟩ := hrel
           cases gk with
           | zero => exact absurd HA.out (by simp [impl_ValidTree.l1])
           | succ k3 =>
            have H := HA.out; clear HA; simp only [impl_ValidTree.l1] at H
            by_cases c30 : qf < qb
            ·rw [if_pos c30] at H
             have c30b0 : decide (qf < qb) = true := decide_eq_true c30; clear c30
             by_cases c31 : 0 ≤ qf
             ·rw [if_pos c31] at H
              have c31b0 : decide (0 ≤ qf) = true := decide_eq_true c31; clear c31
              by_cases c32 : qf < (qa.length : Int)
              ·rw [if_pos c32] at H
               have c32b0 : decide (qf < (qa.length : Int)) = true := decide_eq_true c32; clear c32; replace H := Option.bind_eq_some_iff.mp H; obtain ⟨t211, A330, H⟩ := H; replace H : (if t211 = true then (some false) else (impl_ValidTree.l1 k3 qb (wrap64 (qf + 1)) qa (qa.length : Int) qb qa ((rd_T37 qa qb).f0) ((rd_T37 qa qb).f1) ((rd_T37 qa qb).f2))) = some r := H; have A33 := Aside0.mk A330; clear A330
               by_cases c34 : t211 = true
               ·subst c34
                have H1 : (some false) = some r := by rw [if_pos rfl] at H; exact H
                clear H; have H := H1; clear H1; obtain rfl := Option.some.inj H
                try go_wp2
                refine Ya3 (blk_drew qd.out) (blk_drew qc.out) (below_drew1 HB.out) ?_; clear qd qc HB; intro qd qc HB; have p210 : 0 ≤ (qf : Int) := oda; have q210 : qf < (qa.length : Int) := oda; obtain ⟨ad210, e210, hx210_0, hx210_1, hx210_2⟩ := at_T37 HR0_0.out qf p210 q210; have hw210_2 := hx210_2; have hw210_1 := hx210_1; have hw210_0 := hx210_0
                obtain rfl : ad206 = ad210 := (by injection e210)
                replace hx210_0 := pw_cell_below HB.out hx210_0; replace hx210_1 := pw_cell_below HB.out hx210_1; replace hx210_2 := pw_cell_below HB.out hx210_2; replace p210 := eq_true p210; replace q210 := eq_true q210; refine start_ (n := 9) (S := fun w' => w'.cell? ⟨gb205, 0, none⟩ = some (.slice (some ad206) qa.length c0_0) ∧ w'.cell? ⟨qe, 0, none⟩ = some (.string ((rd_T37 qa qb).f0)) ∧ w'.cell? ⟨qe, 1, none⟩ = some (.string ((rd_T37 qa qb).f1)) ∧ w'.cell? ⟨qe, 2, none⟩ = some (.bool ((rd_T37 qa qb).f2)) ∧ w'.cell? (ad206.add ((qf).toNat * 3)) = some (.string ((rd_T37 qa qf).f0)) ∧ w'.cell? ⟨(ad206.add ((qf).toNat * 3)).block, (ad206.add ((qf).toNat * 3)).off + 1, none⟩ = some (.string ((rd_T37 qa qf).f1)) ∧ w'.cell? ⟨(ad206.add ((qf).toNat * 3)).block, (ad206.add ((qf).toNat * 3)).off + 2, none⟩ = some (.bool ((rd_T37 qa qf).f2))) (ds := []) (fb 9 0) (by kernel_rfl) rfl rfl ⟨(blk_cell qd.out 0).trans rfl, (blk_cell qc.out 0).trans rfl, (blk_cell qc.out 1).trans rfl, (blk_cell qc.out 2).trans rfl, (pw_cell_below HB.out hw210_0), (pw_cell_below HB.out hw210_1), (pw_cell_below HB.out hw210_2)⟩ (fun hHeld => ?_); refine with_tabW impl_ValidTree.tab11 impl_ValidTree.bits11 (fun HT_ HW_ => ?_); generalize wr.drew = w35 at qd qc HB hx210_0 hx210_1 hx210_2 hHeld ⊢; refine pu 0 42 (fb 9 1) HT_ ?_; refine pu 2 44 (fb 9 5) HT_ ?_; refine pu 6 48 (fb 9 69) HT_ ?_; refine tk 1 43 (fb 9 71) HT_ HW_ hHeld ?_; refine pu 3 45 (fb 9 79) HT_ ?_; refine pu 4 46 (fb 9 95) HT_ ?_; refine tk 5 47 (fb 9 127) HT_ HW_ hHeld ?_; refine tk 7 49 (fb 9 255) HT_ HW_ hHeld ?_; refine one_ (i := 8) (N := some 50) (fb 9 511) rfl rfl (one_of HT_.out (by kernel_rfl)) (by decide) (fun K hK => ?_); refine gs _ (#[.string ((rd_T37 qa qf).f0), .string ((rd_T37 qa qb).f0)]) Tryd.func70 ?_; (with_reducible refine (impl_over.calls ((rd_T37 qa qf).f0) ((rd_T37 qa qb).f0) true _ A33.out).mono ?_); rintro e w' ⟨rfl, ⟨nd, rfl⟩⟩; refine ⟨_, rfl, ?_⟩; refine hK.out _ _ ⟨(blk_cell qd.out 0).trans rfl, (blk_cell qc.out 0).trans rfl, (blk_cell qc.out 1).trans rfl, (blk_cell qc.out 2).trans rfl, (pw_cell_below HB.out hw210_0), (pw_cell_below HB.out hw210_1), (pw_cell_below HB.out hw210_2)⟩ (fun hHeld => ?_); clear hK K; refine norm_ (a' := ?_) ?_ ?_; rotate_left
                ·show Act.put _ (some 50) _ = _
                 simp only [Act.put, List.setIfInBounds_toArray, List.set_cons_zero, List.set_cons_succ, i64_w, i32_w]; rfl
                refine done_ (done_of HT_.out (by kernel_rfl)) ?_
                try go_wp2
                go_ret
                exact ⟨Ye2, (by first | exact be2 HB.out qg.out qi.out | exact be1 HB.out qg.out | exact be HB.out)⟩
               ·replace c34 := Bool.eq_false_iff.mpr c34; subst c34
                have H1 : (impl_ValidTree.l1 k3 qb (wrap64 (qf + 1)) qa (qa.length : Int) qb qa ((rd_T37 qa qb).f0) ((rd_T37 qa qb).f1) ((rd_T37 qa qb).f2)) = some r := by rw [if_neg (show ¬ (false = true) by decide)] at H; exact H
                clear H; have H := H1; clear H1; have H' := Aside0.mk H; clear H
                try go_wp2
                refine Ya3 (blk_drew qd.out) (blk_drew qc.out) (below_drew1 HB.out) ?_; clear qd qc HB; intro qd qc HB; have p210 : 0 ≤ (qf : Int) := oda; have q210 : qf < (qa.length : Int) := oda; obtain ⟨ad210, e210, hx210_0, hx210_1, hx210_2⟩ := at_T37 HR0_0.out qf p210 q210; have hw210_2 := hx210_2; have hw210_1 := hx210_1; have hw210_0 := hx210_0
                obtain rfl : ad206 = ad210 := (by injection e210)
                replace hx210_0 := pw_cell_below HB.out hx210_0; replace hx210_1 := pw_cell_below HB.out hx210_1; replace hx210_2 := pw_cell_below HB.out hx210_2; replace p210 := eq_true p210; replace q210 := eq_true q210; refine start_ (n := 9) (S := fun w' => w'.cell? ⟨gb205, 0, none⟩ = some (.slice (some ad206) qa.length c0_0) ∧ w'.cell? ⟨qe, 0, none⟩ = some (.string ((rd_T37 qa qb).f0)) ∧ w'.cell? ⟨qe, 1, none⟩ = some (.string ((rd_T37 qa qb).f1)) ∧ w'.cell? ⟨qe, 2, none⟩ = some (.bool ((rd_T37 qa qb).f2)) ∧ w'.cell? (ad206.add ((qf).toNat * 3)) = some (.string ((rd_T37 qa qf).f0)) ∧ w'.cell? ⟨(ad206.add ((qf).toNat * 3)).block, (ad206.add ((qf).toNat * 3)).off + 1, none⟩ = some (.string ((rd_T37 qa qf).f1)) ∧ w'.cell? ⟨(ad206.add ((qf).toNat * 3)).block, (ad206.add ((qf).toNat * 3)).off + 2, none⟩ = some (.bool ((rd_T37 qa qf).f2))) (ds := []) (fb 9 0) (by kernel_rfl) rfl rfl ⟨(blk_cell qd.out 0).trans rfl, (blk_cell qc.out 0).trans rfl, (blk_cell qc.out 1).trans rfl, (blk_cell qc.out 2).trans rfl, (pw_cell_below HB.out hw210_0), (pw_cell_below HB.out hw210_1), (pw_cell_below HB.out hw210_2)⟩ (fun hHeld => ?_); refine with_tabW impl_ValidTree.tab11 impl_ValidTree.bits11 (fun HT_ HW_ => ?_); generalize wr.drew = w36 at qd qc HB hx210_0 hx210_1 hx210_2 hHeld ⊢; refine pu 0 42 (fb 9 1) HT_ ?_; refine pu 2 44 (fb 9 5) HT_ ?_; refine pu 6 48 (fb 9 69) HT_ ?_; refine tk 1 43 (fb 9 71) HT_ HW_ hHeld ?_; refine pu 3 45 (fb 9 79) HT_ ?_; refine pu 4 46 (fb 9 95) HT_ ?_; refine tk 5 47 (fb 9 127) HT_ HW_ hHeld ?_; refine tk 7 49 (fb 9 255) HT_ HW_ hHeld ?_; refine one_ (i := 8) (N := some 50) (fb 9 511) rfl rfl (one_of HT_.out (by kernel_rfl)) (by decide) (fun K hK => ?_); refine gs _ (#[.string ((rd_T37 qa qf).f0), .string ((rd_T37 qa qb).f0)]) Tryd.func70 ?_; (with_reducible refine (impl_over.calls ((rd_T37 qa qf).f0) ((rd_T37 qa qb).f0) false _ A33.out).mono ?_); rintro e w' ⟨rfl, ⟨nd, rfl⟩⟩; refine ⟨_, rfl, ?_⟩; refine hK.out _ _ ⟨(blk_cell qd.out 0).trans rfl, (blk_cell qc.out 0).trans rfl, (blk_cell qc.out 1).trans rfl, (blk_cell qc.out 2).trans rfl, (pw_cell_below HB.out hw210_0), (pw_cell_below HB.out hw210_1), (pw_cell_below HB.out hw210_2)⟩ (fun hHeld => ?_); clear hK K; refine norm_ (a' := ?_) ?_ ?_; rotate_left
                ·show Act.put _ (some 50) _ = _
                 simp only [Act.put, List.setIfInBounds_toArray, List.set_cons_zero, List.set_cons_succ, i64_w, i32_w]; rfl
                refine done_ (done_of HT_.out (by kernel_rfl)) ?_
                try go_wp2
                go_roundg k3
                case measure => have := HK1.out; have := HJ9.out; have := HK3.out; omega
                case rel => exact ⟨(wrap64 (qf + 1)), Ye1, H', ⟨by have := HK1.out; have := HJ9.out; have := HK3.out; omega⟩, ⟨bk qd.out⟩, ⟨bk qc.out⟩, ⟨be2 HB.out qg.out qi.out⟩⟩
              ·rw [if_neg c32] at H
               exact absurd H (by simp)
             ·rw [if_neg c31] at H
              exact absurd H (by simp)
            ·rw [if_neg c30] at H
             have c30b0 : decide (qf < qb) = false := decide_eq_false c30; clear c30; have H' := Aside0.mk H; clear H
             go_wp2
             go_roundg k3
             case measure => have := HK1.out; have := HJ9.out; have := HK3.out; omega
             case rel => exact ⟨(wrap64 (qb + 1)), Ye1, H', ⟨by have := HK1.out; have := HJ9.out; have := HK3.out; omega⟩, ⟨bk qd.out⟩, ⟨be2 HB.out qg.out qi.out⟩⟩
      ·rw [if_neg c9] at H
       exact absurd H (by simp)
     ·rw [if_neg c8] at H
      exact absurd H (by simp)
    ·rw [if_neg c7] at H
     have c7b0 : decide (qb < (qa.length : Int)) = false := decide_eq_false c7; clear c7; obtain rfl := Option.some.inj H
     go_wp2
     go_ret
     exact ⟨Ye2, (by first | exact be1 HB.out qg.out | exact be HB.out)⟩

end Go.Proofs.YtgnmledjkamojaaDoor.P


namespace Go.Proofs.YtgnmledjkamojaaDoor.P
open Go.RowKit Go.Proofs.YtgnmledjkamojaaDoorW.PrintWords Go.Proofs.YtgnmledjkamojaaDoorW.PrintLast Go.Proofs.YtgnmledjkamojaaDoorW.PrintMore
attribute [local go_sem] max2_int min2_int max_two min_two max_three min_three max_four min_four
set_option linter.unusedVariables false
set_option linter.unusedSimpArgs false

/-! ### laws_markText: function 144 -/
def laws_markText.l0 : Nat → Int → ByteArray → Option (ByteArray)
 | 0, _, _ => none
 | k + 1, x0, x3 => if x0 > 0 then ((some (([(wrap64 (48 + (Int.tmod x0 10))) % 256] : List Int) : List Int)).bind fun y239 => (if (strOfNums y239).size + x3.size ≤ 9223372036854775807 then (laws_markText.l0 k (wrap64 (Int.tdiv x0 10)) ((strOfNums y239) ++ x3)) else (none))) else (if 1 + x3.size ≤ 9223372036854775807 then (some ((⟨#[109]⟩ : ByteArray) ++ x3)) else (none))
def laws_markText.f (k : Nat) (a0 : Int) : Option (ByteArray) := if a0 ≤ 0 then (some (⟨#[109, 48]⟩ : ByteArray)) else (laws_markText.l0 k a0 (⟨#[]⟩ : ByteArray))
theorem laws_markText.mono_l : ∀ k, (∀ y0 y1, LeO (laws_markText.l0 k y0 y1) (laws_markText.l0 (k + 1) y0 y1))
 | 0 => fun _ _ r h => by simp [laws_markText.l0] at h
 | k + 1 => by
  have ih0 := laws_markText.mono_l k
  ·intro y0 y1
   unfold laws_markText.l0
   repeat' first
   | (with_reducible exact ih0 _ _)
   | (with_reducible exact LeO.refl _)
   | (with_reducible exact LeO.none _)
   | (with_reducible refine LeO.ite ?_ ?_)
   | (with_reducible refine LeO.bind ?_ (fun _ => ?_))
   | exact ih0 _ _
   | exact LeO.none _
   | refine LeO.ite ?_ ?_
   | refine LeO.bind ?_ (fun _ => ?_)
theorem laws_markText.mono : ∀ a0 k, LeO (laws_markText.f k a0) (laws_markText.f (k + 1) a0) := by
 intro a0 k; have ih0 := laws_markText.mono_l k
 unfold laws_markText.f
 repeat' first
   | (with_reducible exact ih0 _ _)
   | (with_reducible exact LeO.refl _)
   | (with_reducible exact LeO.none _)
   | (with_reducible refine LeO.ite ?_ ?_)
   | (with_reducible refine LeO.bind ?_ (fun _ => ?_))
   | exact ih0 _ _
   | exact LeO.none _
   | refine LeO.ite ?_ ?_
   | refine LeO.bind ?_ (fun _ => ?_)
set_option maxHeartbeats 8000000 in
set_option maxRecDepth 100000 in
theorem laws_markText.calls (k : Nat) (a0 : Int) (r : ByteArray) (w : World) (h : laws_markText.f k a0 = some r) :
  Calls Tryd.prog 144 #[.int .i64 a0] w fun e w' => e = .returned (.string r) ∧ Below w.heap.size w w' := by
 have HB := Aside0.mk (Below.refl w.heap.size w); have H : (if a0 ≤ 0 then (some (⟨#[109, 48]⟩ : ByteArray)) else (laws_markText.l0 k a0 (⟨#[]⟩ : ByteArray))) = some r := h; clear h
 by_cases c2 : a0 ≤ 0
 ·rw [if_pos c2] at H
  have c2b0 : decide (a0 ≤ 0) = true := decide_eq_true c2; clear c2; obtain rfl := Option.some.inj H
  go_enter Tryd.func144, Tryd.ntmps144
  go_wp2
  go_ret
  exact ⟨Ye2, be HB.out⟩
 ·rw [if_neg c2] at H
  have c2b0 : decide (a0 ≤ 0) = false := decide_eq_false c2; clear c2; have H' := Aside0.mk H; clear H
  go_enter Tryd.func144, Tryd.ntmps144
  go_wp2
  go_loopg [0, 3] k (fun kq v0 v3 w' => ∃ (x0_1 : Int) (x3_1 : ByteArray), v0 = .int .i64 x0_1 ∧ v3 = .string x3_1 ∧ Aside0 (laws_markText.l0 kq x0_1 x3_1 = some r) ∧ Aside0 (kq ≤ k) ∧ Aside0 (Below w.heap.size w w'))
  case atStart => exact ⟨(a0), ((⟨#[]⟩ : ByteArray)), Ye1, Ye1, H', ⟨Nat.le_refl _⟩, ⟨be HB.out⟩⟩
  case round =>
   clear H'; (try clear c1); (try clear c2); (try clear c2b0); (try clear p2); obtain ⟨x0_1, x3_1, rfl, rfl, HA, HK1, HB⟩ := hrel
   cases gk with
   | zero => exact absurd HA.out (by simp [laws_markText.l0])
   | succ k1 =>
    have H := HA.out; clear HA; simp only [laws_markText.l0] at H
    by_cases c3 : x0_1 > 0
    ·rw [if_pos c3] at H
     have c3b0 : decide (0 < x0_1) = true := decide_eq_true c3; clear c3
     obtain ⟨y239, hy239⟩ : ∃ y_ : List Int, y_ = (([(wrap64 (48 + (Int.tmod x0_1 10))) % 256] : List Int)) := ⟨_, rfl⟩
     replace H : (if (strOfNums y239).size + x3_1.size ≤ 9223372036854775807 then (laws_markText.l0 k1 (wrap64 (Int.tdiv x0_1 10)) ((strOfNums y239) ++ x3_1)) else (none)) = some r := by first | (rw [hy239]; with_reducible exact H) | (have H2_ := (Option.bind_some _ _).symm.trans H; rw [hy239]; with_reducible exact H2_) | (have H2_ := (Option.bind_some _ _).symm.trans H; with_reducible exact H2_) | with_reducible exact H | (rw [hy239]; exact H) | exact H
     have Ny239 := Aside0.mk hy239; clear hy239
     by_cases c4 : (strOfNums y239).size + x3_1.size ≤ 9223372036854775807
     ·rw [if_pos c4] at H
      have c4b0 := eq_true c4; have c4b1 : decide ((strOfNums y239).size + x3_1.size ≤ 9223372036854775807) = true := decide_eq_true c4
      try have c4b2 : (9223372036854775807 < (strOfNums y239).size + x3_1.size) = False := eq_false (Nat.not_lt.2 c4)
      have H' := Aside0.mk H; clear H
      go_wp2_with (first | ((with_reducible refine gd 12 rfl ?_); refine Kd.R_lit (Kd.int .u8) _ 5 ?hg (N := 12) ?hd (xs := ([(wrap64 (48 + (Int.tmod x0_1 10))) % 256] : List Int)) (inner := [.int .u8 ((wrap64 (48 + (Int.tmod x0_1 10))) % 256)]) (ok := fun _ => True) (okp := fun _ => True) ?hr ?hp (fun _ hk => hk) trivial (Below.refl _ _) (Nat.le_refl _) (by simp) ?_; (case hd => rfl); (case hg => rfl); (case hr => first | (go_simp; done) | (go_simp; rfl)); (case hp => exact (Reps.one (show Kd.M (Kd.int .u8) _ _ _ ((wrap64 (48 + (Int.tmod x0_1 10))) % 256) [.int .u8 ((wrap64 (48 + (Int.tmod x0_1 10))) % 256)] from rfl) (Reps.none _ _))); intro v240 w5 ho6 hb hg_ hnew_; clear hg_ hnew_; (first | rw [← Ny239.out] at ho6 | (simp only [Int.reduceToNat] at ho6; rw [← Ny239.out] at ho6)); refine Ya2 (Kd.R_lower ho6 (below_size (be HB.out))) (below_step (be HB.out) hb) ?_; clear HB; intro HO241 HB; clear hb ho6; have hcv7 := own_string (P := Tryd.prog) Tryd.underlying35 Tryd.underlying5 Tryd.underlying9 (Kd.own_of_R HO241.out)))
      go_roundg k1
      case measure => have := HK1.out; omega
      case rel => exact ⟨(wrap64 (Int.tdiv x0_1 10)), ((strOfNums y239) ++ x3_1), Ye1, Ye1, H', ⟨by have := HK1.out; omega⟩, ⟨be HB.out⟩⟩
     ·rw [if_neg c4] at H
      exact absurd H (by simp)
    ·rw [if_neg c3] at H
     have c3b0 : decide (0 < x0_1) = false := decide_eq_false c3; clear c3
     by_cases c8 : 1 + x3_1.size ≤ 9223372036854775807
     ·rw [if_pos c8] at H
      have c8b0 := eq_true c8; have c8b1 : decide (1 + x3_1.size ≤ 9223372036854775807) = true := decide_eq_true c8
      try have c8b2 : (9223372036854775807 < 1 + x3_1.size) = False := eq_false (Nat.not_lt.2 c8)
      obtain rfl := Option.some.inj H
      go_wp2
      go_ret
      exact ⟨Ye2, be HB.out⟩
     ·rw [if_neg c8] at H
      exact absurd H (by simp)

end Go.Proofs.YtgnmledjkamojaaDoor.P


namespace Go.Proofs.YtgnmledjkamojaaDoor.P
open Go.RowKit Go.Proofs.YtgnmledjkamojaaDoorW.PrintWords Go.Proofs.YtgnmledjkamojaaDoorW.PrintLast Go.Proofs.YtgnmledjkamojaaDoorW.PrintMore
attribute [local go_sem] max2_int min2_int max_two min_two max_three min_three max_four min_four
set_option linter.unusedVariables false
set_option linter.unusedSimpArgs false

/-! ### laws_heldEntryS: function 74 -/
def laws_heldEntryS.l0 : Nat → List (S37) → Int → Int → Option (Int)
 | 0, _, _, _ => none
 | k + 1, x0, x1, x5 => if x5 < (x0.length : Int) then (if 0 ≤ x5 then ((laws_markText.f k x1).bind fun t251 => (if ((rd_T37 x0 x5).f0).toList = t251.toList then ((laws_markText.f k (wrap64 (x1 + 1))).bind fun t253 => (if ((rd_T37 x0 x5).f1).toList = t253.toList then (if (((rd_T37 x0 x5).f2) != ((Int.tmod (wrap64 ((wrap64 (x1 + 1)) + 1)) 3) == 0)) = true then (some (-1)) else (laws_heldEntryS.l0 k x0 (wrap64 ((wrap64 ((wrap64 (x1 + 1)) + 1)) + 1)) (wrap64 (x5 + 1)))) else (some (-1)))) else (some (-1)))) else (none)) else (some x1)
def laws_heldEntryS.f (k : Nat) (l0 : List (S37)) (a1 : Int) : Option (Int) := laws_heldEntryS.l0 k l0 a1 0
theorem laws_heldEntryS.mono_l : ∀ k, (∀ y0 y1 y2, LeO (laws_heldEntryS.l0 k y0 y1 y2) (laws_heldEntryS.l0 (k + 1) y0 y1 y2))
 | 0 => fun _ _ _ r h => by simp [laws_heldEntryS.l0] at h
 | k + 1 => by
  have ih0 := laws_heldEntryS.mono_l k
  ·intro y0 y1 y2
   unfold laws_heldEntryS.l0
   repeat' first
   | (with_reducible exact ih0 _ _ _)
   | (with_reducible exact laws_markText.mono _ _)
   | (with_reducible exact LeO.refl _)
   | (with_reducible exact LeO.none _)
   | (with_reducible refine LeO.ite ?_ ?_)
   | (with_reducible refine LeO.bind ?_ (fun _ => ?_))
   | exact ih0 _ _ _
   | exact laws_markText.mono _ _
   | exact LeO.none _
   | refine LeO.ite ?_ ?_
   | refine LeO.bind ?_ (fun _ => ?_)
theorem laws_heldEntryS.mono : ∀ a0 a1 k, LeO (laws_heldEntryS.f k a0 a1) (laws_heldEntryS.f (k + 1) a0 a1) := by
 intro a0 a1 k; have ih0 := laws_heldEntryS.mono_l k
 unfold laws_heldEntryS.f
 repeat' first
   | (with_reducible exact ih0 _ _ _)
   | (with_reducible exact laws_markText.mono _ _)
   | (with_reducible exact LeO.refl _)
   | (with_reducible exact LeO.none _)
   | (with_reducible refine LeO.ite ?_ ?_)
   | (with_reducible refine LeO.bind ?_ (fun _ => ?_))
   | exact ih0 _ _ _
   | exact laws_markText.mono _ _
   | exact LeO.none _
   | refine LeO.ite ?_ ?_
   | refine LeO.bind ?_ (fun _ => ?_)
def laws_heldEntryS.T4 : Bool × List (List Nat × List Nat) := (true, [([], []), ([], []), ([0, 1], [0, 1]), ([2], [2]), ([3], [3]), ([], []), ([5], [5]), ([4, 6], [4, 6])])
def laws_heldEntryS.B4 : List Nat := [0, 0, 3, 7, 15, 0, 32, 127]
theorem laws_heldEntryS.tab4 : rtab .any (opsOf Tryd.f74 4) = laws_heldEntryS.T4 := by kernel_rfl
theorem laws_heldEntryS.bits4 : waitsOk laws_heldEntryS.T4.2 laws_heldEntryS.B4 = true := by kernel_rfl
def laws_heldEntryS.T7 : Bool × List (List Nat × List Nat) := (true, [([], []), ([], []), ([0, 1], [0, 1]), ([2], [2]), ([3], [3]), ([], []), ([5], [5]), ([4, 6], [4, 6])])
def laws_heldEntryS.B7 : List Nat := [0, 0, 3, 7, 15, 0, 32, 127]
theorem laws_heldEntryS.tab7 : rtab .any (opsOf Tryd.f74 7) = laws_heldEntryS.T7 := by kernel_rfl
theorem laws_heldEntryS.bits7 : waitsOk laws_heldEntryS.T7.2 laws_heldEntryS.B7 = true := by kernel_rfl
set_option maxHeartbeats 8000000 in
set_option maxRecDepth 100000 in
theorem laws_heldEntryS.calls (k : Nat) (A0 : Option Addr) (c0 : Nat) (l0 : List (S37)) (a1 : Int) (r : Int) (w : World) (hr0 : Kd.C k37 w A0 l0.length l0) (hc0 : l0.length ≤ c0) (h : laws_heldEntryS.f k l0 a1 = some r) :
  Calls Tryd.prog 74 #[.slice A0 l0.length c0, .int .i64 a1] w fun e w' => e = .returned (.int .i64 r) ∧ Below w.heap.size w w' := by
 have HR0 := Aside0.mk hr0; have HC0 := Aside0.mk hc0; clear hr0 hc0; have HB := Aside0.mk (Below.refl w.heap.size w); have H : (laws_heldEntryS.l0 k l0 a1 0) = some r := h; clear h; have H' := Aside0.mk H; clear H
 go_enter Tryd.func74, Tryd.ntmps74
 go_wp2
 go_loopg [1, 5] k (fun kq v1 v5 w' => ∃ (qb : Int) (qa : Int), v1 = .int .i64 qb ∧ v5 = .int .i64 qa ∧ Aside0 (laws_heldEntryS.l0 kq l0 qb qa = some r) ∧ Aside0 (kq ≤ k) ∧ Aside0 (Below w.heap.size w w'))
 case atStart => exact ⟨(a1), (0), Ye1, Ye1, H', ⟨Nat.le_refl _⟩, ⟨be HB.out⟩⟩
 case round =>
  clear H'; (try clear p2); obtain ⟨qb, qa, rfl, rfl, HA, HK1, HB⟩ := hrel
  cases gk with
  | zero => exact absurd HA.out (by simp [laws_heldEntryS.l0])
  | succ k1 =>
   have H := HA.out; clear HA; simp only [laws_heldEntryS.l0] at H
   by_cases c3 : qa < (l0.length : Int)
   ·rw [if_pos c3] at H
    have c3b0 : decide (qa < (l0.length : Int)) = true := decide_eq_true c3; clear c3
    by_cases c4 : 0 ≤ qa
    ·rw [if_pos c4] at H
     have c4b0 : decide (0 ≤ qa) = true := decide_eq_true c4; clear c4; replace H := Option.bind_eq_some_iff.mp H; obtain ⟨t251, A50, H⟩ := H; replace H : (if ((rd_T37 l0 qa).f0).toList = t251.toList then ((laws_markText.f k1 (wrap64 (qb + 1))).bind fun t253 => (if ((rd_T37 l0 qa).f1).toList = t253.toList then (if (((rd_T37 l0 qa).f2) != ((Int.tmod (wrap64 ((wrap64 (qb + 1)) + 1)) 3) == 0)) = true then (some (-1)) else (laws_heldEntryS.l0 k1 l0 (wrap64 ((wrap64 ((wrap64 (qb + 1)) + 1)) + 1)) (wrap64 (qa + 1)))) else (some (-1)))) else (some (-1))) = some r := H; have A5 := Aside0.mk A50; clear A50
     by_cases c6 : ((rd_T37 l0 qa).f0).toList = t251.toList
     ·rw [if_pos c6] at H
      have c6b0 : (((rd_T37 l0 qa).f0).toList == t251.toList) = true := beq_iff_eq.mpr c6; have c6b1 : (((rd_T37 l0 qa).f0).toList != t251.toList) = false := bne_eq_false_iff_eq.mpr c6; clear c6; replace H := Option.bind_eq_some_iff.mp H; obtain ⟨t253, A70, H⟩ := H; replace H : (if ((rd_T37 l0 qa).f1).toList = t253.toList then (if (((rd_T37 l0 qa).f2) != ((Int.tmod (wrap64 ((wrap64 (qb + 1)) + 1)) 3) == 0)) = true then (some (-1)) else (laws_heldEntryS.l0 k1 l0 (wrap64 ((wrap64 ((wrap64 (qb + 1)) + 1)) + 1)) (wrap64 (qa + 1)))) else (some (-1))) = some r := H; have A7 := Aside0.mk A70; clear A70
      by_cases c8 : ((rd_T37 l0 qa).f1).toList = t253.toList
      ·rw [if_pos c8] at H
       have c8b0 : (((rd_T37 l0 qa).f1).toList == t253.toList) = true := beq_iff_eq.mpr c8; have c8b1 : (((rd_T37 l0 qa).f1).toList != t253.toList) = false := bne_eq_false_iff_eq.mpr c8; clear c8
       by_cases c9 : (((rd_T37 l0 qa).f2) != ((Int.tmod (wrap64 ((wrap64 (qb + 1)) + 1)) 3) == 0)) = true
       ·rw [if_pos c9] at H
        have c9b0 : (((rd_T37 l0 qa).f2) != ((Int.tmod (wrap64 ((wrap64 (qb + 1)) + 1)) 3) == 0)) = true := c9; (try (have c9b1 : decide (((rd_T37 l0 qa).f2) = ((Int.tmod (wrap64 ((wrap64 (qb + 1)) + 1)) 3) == 0)) = false := by simpa using c9)); (try (have c9b2 : (((rd_T37 l0 qa).f2) == ((Int.tmod (wrap64 ((wrap64 (qb + 1)) + 1)) 3) == 0)) = false := by simpa using c9)); (try (have c9b3 : ¬ (((rd_T37 l0 qa).f2) = ((Int.tmod (wrap64 ((wrap64 (qb + 1)) + 1)) 3) == 0)) := by simpa using c9)); clear c9; obtain rfl := Option.some.inj H
        try go_wp2
        refine Ya1 (below_drew1 HB.out) ?_; clear HB; intro HB; have p250 : 0 ≤ (qa : Int) := oda; have q250 : qa < (l0.length : Int) := oda; obtain ⟨ad250, e250, hx250_0, hx250_1, hx250_2⟩ := at_T37 HR0.out qa p250 q250; have hw250_2 := hx250_2; have hw250_1 := hx250_1; have hw250_0 := hx250_0
        cases e250
        replace hx250_0 := pw_cell_below HB.out hx250_0; replace hx250_1 := pw_cell_below HB.out hx250_1; replace hx250_2 := pw_cell_below HB.out hx250_2; replace p250 := eq_true p250; replace q250 := eq_true q250; refine start_ (n := 8) (S := fun w' => w'.cell? (ad250.add ((qa).toNat * 3)) = some (.string ((rd_T37 l0 qa).f0)) ∧ w'.cell? ⟨(ad250.add ((qa).toNat * 3)).block, (ad250.add ((qa).toNat * 3)).off + 1, none⟩ = some (.string ((rd_T37 l0 qa).f1)) ∧ w'.cell? ⟨(ad250.add ((qa).toNat * 3)).block, (ad250.add ((qa).toNat * 3)).off + 2, none⟩ = some (.bool ((rd_T37 l0 qa).f2))) (ds := []) (fb 8 0) (by kernel_rfl) rfl rfl ⟨(pw_cell_below HB.out hw250_0), (pw_cell_below HB.out hw250_1), (pw_cell_below HB.out hw250_2)⟩ (fun hHeld => ?_); refine with_tabW laws_heldEntryS.tab4 laws_heldEntryS.bits4 (fun HT_ HW_ => ?_); generalize wr.drew = w10 at HB hx250_0 hx250_1 hx250_2 hHeld ⊢; refine pu 0 12 (fb 8 1) HT_ ?_; refine pu 1 13 (fb 8 3) HT_ ?_; refine pu 2 14 (fb 8 7) HT_ ?_; refine pu 3 15 (fb 8 15) HT_ ?_; refine pu 5 17 (fb 8 47) HT_ ?_; refine tk 4 16 (fb 8 63) HT_ HW_ hHeld ?_; refine one_ (i := 6) (N := some 18) (fb 8 127) rfl rfl (one_of HT_.out (by kernel_rfl)) (by decide) (fun K hK => ?_); refine gs _ (#[.int .i64 qb]) Tryd.func144 ?_; (with_reducible refine (laws_markText.calls k1 qb t251 _ A5.out).mono ?_); rintro e w11 ⟨rfl, hb⟩; refine ⟨_, rfl, ?_⟩; refine Ya1 (below_step (be HB.out) hb) ?_; clear HB; intro HB; (try clear hb); (try clear hb2); (try clear hk); (try clear hi); refine hK.out _ _ ⟨(pw_cell_below HB.out hw250_0), (pw_cell_below HB.out hw250_1), (pw_cell_below HB.out hw250_2)⟩ (fun hHeld => ?_); clear hK K; refine norm_ (a' := ?_) ?_ ?_; rotate_left
        ·show Act.put _ (some 18) _ = _
         simp only [Act.put, List.setIfInBounds_toArray, List.set_cons_zero, List.set_cons_succ, i64_w, i32_w]; rfl
        refine pu 7 19 (fb 8 255) HT_ ?_; refine done_ (done_of HT_.out (by kernel_rfl)) ?_
        try go_wp2
        refine Ya1 (below_drew1 HB.out) ?_; clear HB; intro HB; have p252 : 0 ≤ (qa : Int) := oda; have q252 : qa < (l0.length : Int) := oda; obtain ⟨ad252, e252, hx252_0, hx252_1, hx252_2⟩ := at_T37 HR0.out qa p252 q252; have hw252_2 := hx252_2; have hw252_1 := hx252_1; have hw252_0 := hx252_0
        obtain rfl : ad250 = ad252 := (by injection e252)
        replace hx252_0 := pw_cell_below HB.out hx252_0; replace hx252_1 := pw_cell_below HB.out hx252_1; replace hx252_2 := pw_cell_below HB.out hx252_2; replace p252 := eq_true p252; replace q252 := eq_true q252; refine start_ (n := 8) (S := fun w' => w'.cell? (ad250.add ((qa).toNat * 3)) = some (.string ((rd_T37 l0 qa).f0)) ∧ w'.cell? ⟨(ad250.add ((qa).toNat * 3)).block, (ad250.add ((qa).toNat * 3)).off + 1, none⟩ = some (.string ((rd_T37 l0 qa).f1)) ∧ w'.cell? ⟨(ad250.add ((qa).toNat * 3)).block, (ad250.add ((qa).toNat * 3)).off + 2, none⟩ = some (.bool ((rd_T37 l0 qa).f2))) (ds := []) (fb 8 0) (by kernel_rfl) rfl rfl ⟨(pw_cell_below HB.out hw252_0), (pw_cell_below HB.out hw252_1), (pw_cell_below HB.out hw252_2)⟩ (fun hHeld => ?_); refine with_tabW laws_heldEntryS.tab7 laws_heldEntryS.bits7 (fun HT_ HW_ => ?_); generalize w11.drew = w12 at HB hx252_0 hx252_1 hx252_2 hHeld ⊢; refine pu 0 22 (fb 8 1) HT_ ?_; refine pu 1 23 (fb 8 3) HT_ ?_; refine pu 2 24 (fb 8 7) HT_ ?_; refine pu 3 25 (fb 8 15) HT_ ?_; refine pu 5 27 (fb 8 47) HT_ ?_; refine tk 4 26 (fb 8 63) HT_ HW_ hHeld ?_; refine one_ (i := 6) (N := some 28) (fb 8 127) rfl rfl (one_of HT_.out (by kernel_rfl)) (by decide) (fun K hK => ?_); refine gs _ (#[.int .i64 (wrap64 (qb + 1))]) Tryd.func144 ?_; (with_reducible refine (laws_markText.calls k1 (wrap64 (qb + 1)) t253 _ A7.out).mono ?_); rintro e w13 ⟨rfl, hb⟩; refine ⟨_, rfl, ?_⟩; refine Ya1 (below_step (be HB.out) hb) ?_; clear HB; intro HB; (try clear hb); (try clear hb2); (try clear hk); (try clear hi); refine hK.out _ _ ⟨(pw_cell_below HB.out hw252_0), (pw_cell_below HB.out hw252_1), (pw_cell_below HB.out hw252_2)⟩ (fun hHeld => ?_); clear hK K; refine norm_ (a' := ?_) ?_ ?_; rotate_left
        ·show Act.put _ (some 28) _ = _
         simp only [Act.put, List.setIfInBounds_toArray, List.set_cons_zero, List.set_cons_succ, i64_w, i32_w]; rfl
        refine pu 7 29 (fb 8 255) HT_ ?_; refine done_ (done_of HT_.out (by kernel_rfl)) ?_; have p254 : 0 ≤ (qa : Int) := oda; have q254 : qa < (l0.length : Int) := oda; obtain ⟨ad254, e254, hx254_0, hx254_1, hx254_2⟩ := at_T37 HR0.out qa p254 q254
        obtain rfl : ad250 = ad254 := (by injection e254)
        replace hx254_0 := pw_cell_below HB.out hx254_0; replace hx254_1 := pw_cell_below HB.out hx254_1; replace hx254_2 := pw_cell_below HB.out hx254_2; replace p254 := eq_true p254; replace q254 := eq_true q254
        try go_wp2
        go_ret
        exact ⟨Ye2, be HB.out⟩
       ·rw [if_neg c9] at H
        have c9b0 : (((rd_T37 l0 qa).f2) != ((Int.tmod (wrap64 ((wrap64 (qb + 1)) + 1)) 3) == 0)) = false := by simpa using c9
        (try (have c9b1 : decide (((rd_T37 l0 qa).f2) = ((Int.tmod (wrap64 ((wrap64 (qb + 1)) + 1)) 3) == 0)) = true := by simpa using c9)); (try (have c9b2 : (((rd_T37 l0 qa).f2) == ((Int.tmod (wrap64 ((wrap64 (qb + 1)) + 1)) 3) == 0)) = true := by simpa using c9)); clear c9; have H' := Aside0.mk H; clear H
        try go_wp2
        refine Ya1 (below_drew1 HB.out) ?_; clear HB; intro HB; have p250 : 0 ≤ (qa : Int) := oda; have q250 : qa < (l0.length : Int) := oda; obtain ⟨ad250, e250, hx250_0, hx250_1, hx250_2⟩ := at_T37 HR0.out qa p250 q250; have hw250_2 := hx250_2; have hw250_1 := hx250_1; have hw250_0 := hx250_0
        cases e250
        replace hx250_0 := pw_cell_below HB.out hx250_0; replace hx250_1 := pw_cell_below HB.out hx250_1; replace hx250_2 := pw_cell_below HB.out hx250_2; replace p250 := eq_true p250; replace q250 := eq_true q250; refine start_ (n := 8) (S := fun w' => w'.cell? (ad250.add ((qa).toNat * 3)) = some (.string ((rd_T37 l0 qa).f0)) ∧ w'.cell? ⟨(ad250.add ((qa).toNat * 3)).block, (ad250.add ((qa).toNat * 3)).off + 1, none⟩ = some (.string ((rd_T37 l0 qa).f1)) ∧ w'.cell? ⟨(ad250.add ((qa).toNat * 3)).block, (ad250.add ((qa).toNat * 3)).off + 2, none⟩ = some (.bool ((rd_T37 l0 qa).f2))) (ds := []) (fb 8 0) (by kernel_rfl) rfl rfl ⟨(pw_cell_below HB.out hw250_0), (pw_cell_below HB.out hw250_1), (pw_cell_below HB.out hw250_2)⟩ (fun hHeld => ?_); refine with_tabW laws_heldEntryS.tab4 laws_heldEntryS.bits4 (fun HT_ HW_ => ?_); generalize wr.drew = w14 at HB hx250_0 hx250_1 hx250_2 hHeld ⊢; refine pu 0 12 (fb 8 1) HT_ ?_; refine pu 1 13 (fb 8 3) HT_ ?_; refine pu 2 14 (fb 8 7) HT_ ?_; refine pu 3 15 (fb 8 15) HT_ ?_; refine pu 5 17 (fb 8 47) HT_ ?_; refine tk 4 16 (fb 8 63) HT_ HW_ hHeld ?_; refine one_ (i := 6) (N := some 18) (fb 8 127) rfl rfl (one_of HT_.out (by kernel_rfl)) (by decide) (fun K hK => ?_); refine gs _ (#[.int .i64 qb]) Tryd.func144 ?_; (with_reducible refine (laws_markText.calls k1 qb t251 _ A5.out).mono ?_); rintro e w15 ⟨rfl, hb⟩; refine ⟨_, rfl, ?_⟩; refine Ya1 (below_step (be HB.out) hb) ?_; clear HB; intro HB; (try clear hb); (try clear hb2); (try clear hk); (try clear hi); refine hK.out _ _ ⟨(pw_cell_below HB.out hw250_0), (pw_cell_below HB.out hw250_1), (pw_cell_below HB.out hw250_2)⟩ (fun hHeld => ?_); clear hK K; refine norm_ (a' := ?_) ?_ ?_; rotate_left
        ·show Act.put _ (some 18) _ = _
         simp only [Act.put, List.setIfInBounds_toArray, List.set_cons_zero, List.set_cons_succ, i64_w, i32_w]; rfl
        refine pu 7 19 (fb 8 255) HT_ ?_; refine done_ (done_of HT_.out (by kernel_rfl)) ?_
        try go_wp2
        refine Ya1 (below_drew1 HB.out) ?_; clear HB; intro HB; have p252 : 0 ≤ (qa : Int) := oda; have q252 : qa < (l0.length : Int) := oda; obtain ⟨ad252, e252, hx252_0, hx252_1, hx252_2⟩ := at_T37 HR0.out qa p252 q252; have hw252_2 := hx252_2; have hw252_1 := hx252_1; have hw252_0 := hx252_0
        obtain rfl : ad250 = ad252 := (by injection e252)
        replace hx252_0 := pw_cell_below HB.out hx252_0; replace hx252_1 := pw_cell_below HB.out hx252_1; replace hx252_2 := pw_cell_below HB.out hx252_2; replace p252 := eq_true p252; replace q252 := eq_true q252; refine start_ (n := 8) (S := fun w' => w'.cell? (ad250.add ((qa).toNat * 3)) = some (.string ((rd_T37 l0 qa).f0)) ∧ w'.cell? ⟨(ad250.add ((qa).toNat * 3)).block, (ad250.add ((qa).toNat * 3)).off + 1, none⟩ = some (.string ((rd_T37 l0 qa).f1)) ∧ w'.cell? ⟨(ad250.add ((qa).toNat * 3)).block, (ad250.add ((qa).toNat * 3)).off + 2, none⟩ = some (.bool ((rd_T37 l0 qa).f2))) (ds := []) (fb 8 0) (by kernel_rfl) rfl rfl ⟨(pw_cell_below HB.out hw252_0), (pw_cell_below HB.out hw252_1), (pw_cell_below HB.out hw252_2)⟩ (fun hHeld => ?_); refine with_tabW laws_heldEntryS.tab7 laws_heldEntryS.bits7 (fun HT_ HW_ => ?_); generalize w15.drew = w16 at HB hx252_0 hx252_1 hx252_2 hHeld ⊢; refine pu 0 22 (fb 8 1) HT_ ?_; refine pu 1 23 (fb 8 3) HT_ ?_; refine pu 2 24 (fb 8 7) HT_ ?_; refine pu 3 25 (fb 8 15) HT_ ?_; refine pu 5 27 (fb 8 47) HT_ ?_; refine tk 4 26 (fb 8 63) HT_ HW_ hHeld ?_; refine one_ (i := 6) (N := some 28) (fb 8 127) rfl rfl (one_of HT_.out (by kernel_rfl)) (by decide) (fun K hK => ?_); refine gs _ (#[.int .i64 (wrap64 (qb + 1))]) Tryd.func144 ?_; (with_reducible refine (laws_markText.calls k1 (wrap64 (qb + 1)) t253 _ A7.out).mono ?_); rintro e w17 ⟨rfl, hb⟩; refine ⟨_, rfl, ?_⟩; refine Ya1 (below_step (be HB.out) hb) ?_; clear HB; intro HB; (try clear hb); (try clear hb2); (try clear hk); (try clear hi); refine hK.out _ _ ⟨(pw_cell_below HB.out hw252_0), (pw_cell_below HB.out hw252_1), (pw_cell_below HB.out hw252_2)⟩ (fun hHeld => ?_); clear hK K; refine norm_ (a' := ?_) ?_ ?_; rotate_left
        ·show Act.put _ (some 28) _ = _
         simp only [Act.put, List.setIfInBounds_toArray, List.set_cons_zero, List.set_cons_succ, i64_w, i32_w]; rfl
        refine pu 7 29 (fb 8 255) HT_ ?_; refine done_ (done_of HT_.out (by kernel_rfl)) ?_; have p254 : 0 ≤ (qa : Int) := oda; have q254 : qa < (l0.length : Int) := oda; obtain ⟨ad254, e254, hx254_0, hx254_1, hx254_2⟩ := at_T37 HR0.out qa p254 q254
        obtain rfl : ad250 = ad254 := (by injection e254)
        replace hx254_0 := pw_cell_below HB.out hx254_0; replace hx254_1 := pw_cell_below HB.out hx254_1; replace hx254_2 := pw_cell_below HB.out hx254_2; replace p254 := eq_true p254; replace q254 := eq_true q254
        try go_wp2
        go_roundg k1
        case measure => have := HK1.out; omega
        case rel => exact ⟨(wrap64 ((wrap64 ((wrap64 (qb + 1)) + 1)) + 1)), (wrap64 (qa + 1)), Ye1, Ye1, H', ⟨by have := HK1.out; omega⟩, ⟨be HB.out⟩⟩
      ·rw [if_neg c8] at H
       have c8b0 : (((rd_T37 l0 qa).f1).toList == t253.toList) = false := beq_eq_false_iff_ne.mpr c8; have c8b1 : (((rd_T37 l0 qa).f1).toList != t253.toList) = true := bne_iff_ne.mpr c8; obtain rfl := Option.some.inj H
       try go_wp2
       refine Ya1 (below_drew1 HB.out) ?_; clear HB; intro HB; have p250 : 0 ≤ (qa : Int) := oda; have q250 : qa < (l0.length : Int) := oda; obtain ⟨ad250, e250, hx250_0, hx250_1, hx250_2⟩ := at_T37 HR0.out qa p250 q250; have hw250_2 := hx250_2; have hw250_1 := hx250_1; have hw250_0 := hx250_0
       cases e250
       replace hx250_0 := pw_cell_below HB.out hx250_0; replace hx250_1 := pw_cell_below HB.out hx250_1; replace hx250_2 := pw_cell_below HB.out hx250_2; replace p250 := eq_true p250; replace q250 := eq_true q250; refine start_ (n := 8) (S := fun w' => w'.cell? (ad250.add ((qa).toNat * 3)) = some (.string ((rd_T37 l0 qa).f0)) ∧ w'.cell? ⟨(ad250.add ((qa).toNat * 3)).block, (ad250.add ((qa).toNat * 3)).off + 1, none⟩ = some (.string ((rd_T37 l0 qa).f1)) ∧ w'.cell? ⟨(ad250.add ((qa).toNat * 3)).block, (ad250.add ((qa).toNat * 3)).off + 2, none⟩ = some (.bool ((rd_T37 l0 qa).f2))) (ds := []) (fb 8 0) (by kernel_rfl) rfl rfl ⟨(pw_cell_below HB.out hw250_0), (pw_cell_below HB.out hw250_1), (pw_cell_below HB.out hw250_2)⟩ (fun hHeld => ?_); refine with_tabW laws_heldEntryS.tab4 laws_heldEntryS.bits4 (fun HT_ HW_ => ?_); generalize wr.drew = w18 at HB hx250_0 hx250_1 hx250_2 hHeld ⊢; refine pu 0 12 (fb 8 1) HT_ ?_; refine pu 1 13 (fb 8 3) HT_ ?_; refine pu 2 14 (fb 8 7) HT_ ?_; refine pu 3 15 (fb 8 15) HT_ ?_; refine pu 5 17 (fb 8 47) HT_ ?_; refine tk 4 16 (fb 8 63) HT_ HW_ hHeld ?_; refine one_ (i := 6) (N := some 18) (fb 8 127) rfl rfl (one_of HT_.out (by kernel_rfl)) (by decide) (fun K hK => ?_); refine gs _ (#[.int .i64 qb]) Tryd.func144 ?_; (with_reducible refine (laws_markText.calls k1 qb t251 _ A5.out).mono ?_); rintro e w19 ⟨rfl, hb⟩; refine ⟨_, rfl, ?_⟩; refine Ya1 (below_step (be HB.out) hb) ?_; clear HB; intro HB; (try clear hb); (try clear hb2); (try clear hk); (try clear hi); refine hK.out _ _ ⟨(pw_cell_below HB.out hw250_0), (pw_cell_below HB.out hw250_1), (pw_cell_below HB.out hw250_2)⟩ (fun hHeld => ?_); clear hK K; refine norm_ (a' := ?_) ?_ ?_; rotate_left
       ·show Act.put _ (some 18) _ = _
        simp only [Act.put, List.setIfInBounds_toArray, List.set_cons_zero, List.set_cons_succ, i64_w, i32_w]; rfl
       refine pu 7 19 (fb 8 255) HT_ ?_; refine done_ (done_of HT_.out (by kernel_rfl)) ?_
       try go_wp2
       refine Ya1 (below_drew1 HB.out) ?_; clear HB; intro HB; have p252 : 0 ≤ (qa : Int) := oda; have q252 : qa < (l0.length : Int) := oda; obtain ⟨ad252, e252, hx252_0, hx252_1, hx252_2⟩ := at_T37 HR0.out qa p252 q252; have hw252_2 := hx252_2; have hw252_1 := hx252_1; have hw252_0 := hx252_0
       obtain rfl : ad250 = ad252 := (by injection e252)
       replace hx252_0 := pw_cell_below HB.out hx252_0; replace hx252_1 := pw_cell_below HB.out hx252_1; replace hx252_2 := pw_cell_below HB.out hx252_2; replace p252 := eq_true p252; replace q252 := eq_true q252; refine start_ (n := 8) (S := fun w' => w'.cell? (ad250.add ((qa).toNat * 3)) = some (.string ((rd_T37 l0 qa).f0)) ∧ w'.cell? ⟨(ad250.add ((qa).toNat * 3)).block, (ad250.add ((qa).toNat * 3)).off + 1, none⟩ = some (.string ((rd_T37 l0 qa).f1)) ∧ w'.cell? ⟨(ad250.add ((qa).toNat * 3)).block, (ad250.add ((qa).toNat * 3)).off + 2, none⟩ = some (.bool ((rd_T37 l0 qa).f2))) (ds := []) (fb 8 0) (by kernel_rfl) rfl rfl ⟨(pw_cell_below HB.out hw252_0), (pw_cell_below HB.out hw252_1), (pw_cell_below HB.out hw252_2)⟩ (fun hHeld => ?_); refine with_tabW laws_heldEntryS.tab7 laws_heldEntryS.bits7 (fun HT_ HW_ => ?_); generalize w19.drew = w20 at HB hx252_0 hx252_1 hx252_2 hHeld ⊢; refine pu 0 22 (fb 8 1) HT_ ?_; refine pu 1 23 (fb 8 3) HT_ ?_; refine pu 2 24 (fb 8 7) HT_ ?_; refine pu 3 25 (fb 8 15) HT_ ?_; refine pu 5 27 (fb 8 47) HT_ ?_; refine tk 4 26 (fb 8 63) HT_ HW_ hHeld ?_; refine one_ (i := 6) (N := some 28) (fb 8 127) rfl rfl (one_of HT_.out (by kernel_rfl)) (by decide) (fun K hK => ?_); refine gs _ (#[.int .i64 (wrap64 (qb + 1))]) Tryd.func144 ?_; (with_reducible refine (laws_markText.calls k1 (wrap64 (qb + 1)) t253 _ A7.out).mono ?_); rintro e w21 ⟨rfl, hb⟩; refine ⟨_, rfl, ?_⟩; refine Ya1 (below_step (be HB.out) hb) ?_; clear HB; intro HB; (try clear hb); (try clear hb2); (try clear hk); (try clear hi); refine hK.out _ _ ⟨(pw_cell_below HB.out hw252_0), (pw_cell_below HB.out hw252_1), (pw_cell_below HB.out hw252_2)⟩ (fun hHeld => ?_); clear hK K; refine norm_ (a' := ?_) ?_ ?_; rotate_left
       ·show Act.put _ (some 28) _ = _
        simp only [Act.put, List.setIfInBounds_toArray, List.set_cons_zero, List.set_cons_succ, i64_w, i32_w]; rfl
       refine pu 7 29 (fb 8 255) HT_ ?_; refine done_ (done_of HT_.out (by kernel_rfl)) ?_
       try go_wp2
       go_ret
       exact ⟨Ye2, be HB.out⟩
     ·rw [if_neg c6] at H
      have c6b0 : (((rd_T37 l0 qa).f0).toList == t251.toList) = false := beq_eq_false_iff_ne.mpr c6; have c6b1 : (((rd_T37 l0 qa).f0).toList != t251.toList) = true := bne_iff_ne.mpr c6; obtain rfl := Option.some.inj H
      try go_wp2
      refine Ya1 (below_drew1 HB.out) ?_; clear HB; intro HB; have p250 : 0 ≤ (qa : Int) := oda; have q250 : qa < (l0.length : Int) := oda; obtain ⟨ad250, e250, hx250_0, hx250_1, hx250_2⟩ := at_T37 HR0.out qa p250 q250; have hw250_2 := hx250_2; have hw250_1 := hx250_1; have hw250_0 := hx250_0
      cases e250
      replace hx250_0 := pw_cell_below HB.out hx250_0; replace hx250_1 := pw_cell_below HB.out hx250_1; replace hx250_2 := pw_cell_below HB.out hx250_2; replace p250 := eq_true p250; replace q250 := eq_true q250; refine start_ (n := 8) (S := fun w' => w'.cell? (ad250.add ((qa).toNat * 3)) = some (.string ((rd_T37 l0 qa).f0)) ∧ w'.cell? ⟨(ad250.add ((qa).toNat * 3)).block, (ad250.add ((qa).toNat * 3)).off + 1, none⟩ = some (.string ((rd_T37 l0 qa).f1)) ∧ w'.cell? ⟨(ad250.add ((qa).toNat * 3)).block, (ad250.add ((qa).toNat * 3)).off + 2, none⟩ = some (.bool ((rd_T37 l0 qa).f2))) (ds := []) (fb 8 0) (by kernel_rfl) rfl rfl ⟨(pw_cell_below HB.out hw250_0), (pw_cell_below HB.out hw250_1), (pw_cell_below HB.out hw250_2)⟩ (fun hHeld => ?_); refine with_tabW laws_heldEntryS.tab4 laws_heldEntryS.bits4 (fun HT_ HW_ => ?_); generalize wr.drew = w22 at HB hx250_0 hx250_1 hx250_2 hHeld ⊢; refine pu 0 12 (fb 8 1) HT_ ?_; refine pu 1 13 (fb 8 3) HT_ ?_; refine pu 2 14 (fb 8 7) HT_ ?_; refine pu 3 15 (fb 8 15) HT_ ?_; refine pu 5 17 (fb 8 47) HT_ ?_; refine tk 4 16 (fb 8 63) HT_ HW_ hHeld ?_; refine one_ (i := 6) (N := some 18) (fb 8 127) rfl rfl (one_of HT_.out (by kernel_rfl)) (by decide) (fun K hK => ?_); refine gs _ (#[.int .i64 qb]) Tryd.func144 ?_; (with_reducible refine (laws_markText.calls k1 qb t251 _ A5.out).mono ?_); rintro e w23 ⟨rfl, hb⟩; refine ⟨_, rfl, ?_⟩; refine Ya1 (below_step (be HB.out) hb) ?_; clear HB; intro HB; (try clear hb); (try clear hb2); (try clear hk); (try clear hi); refine hK.out _ _ ⟨(pw_cell_below HB.out hw250_0), (pw_cell_below HB.out hw250_1), (pw_cell_below HB.out hw250_2)⟩ (fun hHeld => ?_); clear hK K; refine norm_ (a' := ?_) ?_ ?_; rotate_left
      ·show Act.put _ (some 18) _ = _
       simp only [Act.put, List.setIfInBounds_toArray, List.set_cons_zero, List.set_cons_succ, i64_w, i32_w]; rfl
      refine pu 7 19 (fb 8 255) HT_ ?_; refine done_ (done_of HT_.out (by kernel_rfl)) ?_
      try go_wp2
      go_ret
      exact ⟨Ye2, be HB.out⟩
    ·rw [if_neg c4] at H
     exact absurd H (by simp)
   ·rw [if_neg c3] at H
    have c3b0 : decide (qa < (l0.length : Int)) = false := decide_eq_false c3; clear c3; obtain rfl := Option.some.inj H
    go_wp2
    go_ret
    exact ⟨Ye2, be HB.out⟩

end Go.Proofs.YtgnmledjkamojaaDoor.P


namespace Go.Proofs.YtgnmledjkamojaaDoor.P
open Go.RowKit Go.Proofs.YtgnmledjkamojaaDoorW.PrintWords Go.Proofs.YtgnmledjkamojaaDoorW.PrintLast Go.Proofs.YtgnmledjkamojaaDoorW.PrintMore
attribute [local go_sem] max2_int min2_int max_two min_two max_three min_three max_four min_four
set_option linter.unusedVariables false
set_option linter.unusedSimpArgs false

/-! ### laws_heldTree: function 19 -/
def laws_heldTree.f (k : Nat) (l0_0 : List (S37)) (a1 : Int) : Option (Int) := (laws_heldEntryS.f k l0_0 a1).bind fun t256 => (if t256 < 0 then (some (-1)) else (some t256))
theorem laws_heldTree.mono : ∀ a0 a1 k, LeO (laws_heldTree.f k a0 a1) (laws_heldTree.f (k + 1) a0 a1) := by
 intro a0 a1 k
 unfold laws_heldTree.f
 repeat' first
   | (with_reducible exact laws_heldEntryS.mono _ _ _)
   | (with_reducible exact LeO.refl _)
   | (with_reducible exact LeO.none _)
   | (with_reducible refine LeO.ite ?_ ?_)
   | (with_reducible refine LeO.bind ?_ (fun _ => ?_))
   | exact laws_heldEntryS.mono _ _ _
   | exact LeO.none _
   | refine LeO.ite ?_ ?_
   | refine LeO.bind ?_ (fun _ => ?_)
set_option maxHeartbeats 8000000 in
set_option maxRecDepth 100000 in
theorem laws_heldTree.calls (k : Nat) (A0_0 : Option Addr) (c0_0 : Nat) (l0_0 : List (S37)) (a1 : Int) (r : Int) (w : World) (hr0_0 : Kd.C k37 w A0_0 l0_0.length l0_0) (hc0_0 : l0_0.length ≤ c0_0) (h : laws_heldTree.f k l0_0 a1 = some r) :
  Calls Tryd.prog 19 #[.agg #[.slice A0_0 l0_0.length c0_0], .int .i64 a1] w fun e w' => e = .returned (.int .i64 r) ∧ Below w.heap.size w w' := by
 have hu28 := Tryd.underlying28; have HR0_0 := Aside0.mk hr0_0; have HC0_0 := Aside0.mk hc0_0; clear hr0_0 hc0_0; have HB := Aside0.mk (Below.refl w.heap.size w); have H : ((laws_heldEntryS.f k l0_0 a1).bind fun t256 => (if t256 < 0 then (some (-1)) else (some t256))) = some r := h; clear h; replace H := Option.bind_eq_some_iff.mp H; obtain ⟨t256, A30, H⟩ := H; replace H : (if t256 < 0 then (some (-1)) else (some t256)) = some r := H; have A3 := Aside0.mk A30; clear A30
 by_cases c4 : t256 < 0
 ·rw [if_pos c4] at H
  have c4b0 : decide (t256 < 0) = true := decide_eq_true c4; clear c4; obtain rfl := Option.some.inj H
  go_enter Tryd.func19, Tryd.ntmps19
  go_wp2_with (first | ((with_reducible refine gd 2 rfl ?_); refine bx 2 28 (#[.slice A0_0 l0_0.length c0_0]) ?_; intro gb255 hg w5 hbox hb; refine Ya4 (below_step (be HB.out) hb) (hbox) (bs hg (be HB.out)) (bs hg (be HB.out)) ?_; clear HB; intro HB BK255 GW255 GE255; clear hb hbox hg; have ⟨hcz6_0, hfz6_0⟩ := Yc1 BK255.out) | ((with_reducible refine gc 74 rfl ?_); refine gl (some 8) _ (#[.slice A0_0 l0_0.length c0_0, .int .i64 a1]) Tryd.func74 ?_; (with_reducible refine (laws_heldEntryS.calls k _ _ l0_0 a1 t256 _ ?side1 ?side2 A3.out).mono ?_); (case side1 => exact cb (Kd.C_below HR0_0.out HB.out)); (case side2 => exact HC0_0.out); rintro e w7 ⟨rfl, hb⟩; refine ⟨_, rfl, ?_⟩; refine Ya2 (bb BK255 hb) (below_step (be1 HB.out GE255.out) hb) ?_; clear BK255 HB; intro BK255 HB; (try clear hb); (try clear hb2); (try clear hk); (try clear hi)))
  go_ret
  exact ⟨Ye2, (by first | exact be1 HB.out GE255.out | exact be HB.out)⟩
 ·rw [if_neg c4] at H
  have c4b0 : decide (t256 < 0) = false := decide_eq_false c4; clear c4; obtain rfl := Option.some.inj H
  go_enter Tryd.func19, Tryd.ntmps19
  go_wp2_with (first | ((with_reducible refine gd 2 rfl ?_); refine bx 2 28 (#[.slice A0_0 l0_0.length c0_0]) ?_; intro gb255 hg w8 hbox hb; refine Ya4 (below_step (be HB.out) hb) (hbox) (bs hg (be HB.out)) (bs hg (be HB.out)) ?_; clear HB; intro HB BK255 GW255 GE255; clear hb hbox hg; have ⟨hcz9_0, hfz9_0⟩ := Yc1 BK255.out) | ((with_reducible refine gc 74 rfl ?_); refine gl (some 8) _ (#[.slice A0_0 l0_0.length c0_0, .int .i64 a1]) Tryd.func74 ?_; (with_reducible refine (laws_heldEntryS.calls k _ _ l0_0 a1 t256 _ ?side1 ?side2 A3.out).mono ?_); (case side1 => exact cb (Kd.C_below HR0_0.out HB.out)); (case side2 => exact HC0_0.out); rintro e w10 ⟨rfl, hb⟩; refine ⟨_, rfl, ?_⟩; refine Ya2 (bb BK255 hb) (below_step (be1 HB.out GE255.out) hb) ?_; clear BK255 HB; intro BK255 HB; (try clear hb); (try clear hb2); (try clear hk); (try clear hi)))
  go_ret
  exact ⟨Ye2, (by first | exact be1 HB.out GE255.out | exact be HB.out)⟩

end Go.Proofs.YtgnmledjkamojaaDoor.P


namespace Go.Proofs.YtgnmledjkamojaaDoor.P
open Go.RowKit Go.Proofs.YtgnmledjkamojaaDoorW.PrintWords Go.Proofs.YtgnmledjkamojaaDoorW.PrintLast Go.Proofs.YtgnmledjkamojaaDoorW.PrintMore
attribute [local go_sem] max2_int min2_int max_two min_two max_three min_three max_four min_four
set_option linter.unusedVariables false
set_option linter.unusedSimpArgs false

/-! ### laws_markEntryS: function 73 -/
def laws_markEntryS.l0 : Nat → List (S37) → Int → Int → Option (Int × (List (S37)))
 | 0, _, _, _ => none
 | k + 1, x0, x1, x5 => if x5 < (x0.length : Int) then ((laws_markText.f k x1).bind fun t242 => (if 0 ≤ x5 then ((some (x0.set (x5 : Int).toNat (⟨t242, (rd_T37 x0 x5).f1, (rd_T37 x0 x5).f2⟩ : S37) : List (S37))).bind fun y243 => ((laws_markText.f k (wrap64 (x1 + 1))).bind fun t244 => ((some (y243.set (x5 : Int).toNat (⟨(rd_T37 y243 x5).f0, t244, (rd_T37 y243 x5).f2⟩ : S37) : List (S37))).bind fun y245 => (laws_markEntryS.l0 k (y245.set (x5 : Int).toNat (⟨(rd_T37 y245 x5).f0, (rd_T37 y245 x5).f1, ((Int.tmod (wrap64 ((wrap64 (x1 + 1)) + 1)) 3) == 0)⟩ : S37)) (wrap64 ((wrap64 ((wrap64 (x1 + 1)) + 1)) + 1)) (wrap64 (x5 + 1)))))) else (none))) else (some (x1, x0))
def laws_markEntryS.f (k : Nat) (l0 : List (S37)) (a1 : Int) : Option (Int × (List (S37))) := laws_markEntryS.l0 k l0 a1 0
theorem laws_markEntryS.mono_l : ∀ k, (∀ y0 y1 y2, LeO (laws_markEntryS.l0 k y0 y1 y2) (laws_markEntryS.l0 (k + 1) y0 y1 y2))
 | 0 => fun _ _ _ r h => by simp [laws_markEntryS.l0] at h
 | k + 1 => by
  have ih0 := laws_markEntryS.mono_l k
  ·intro y0 y1 y2
   unfold laws_markEntryS.l0
   repeat' first
   | (with_reducible exact ih0 _ _ _)
   | (with_reducible exact laws_markText.mono _ _)
   | (with_reducible exact LeO.refl _)
   | (with_reducible exact LeO.none _)
   | (with_reducible refine LeO.ite ?_ ?_)
   | (with_reducible refine LeO.bind ?_ (fun _ => ?_))
   | exact ih0 _ _ _
   | exact laws_markText.mono _ _
   | exact LeO.none _
   | refine LeO.ite ?_ ?_
   | refine LeO.bind ?_ (fun _ => ?_)
theorem laws_markEntryS.mono : ∀ a0 a1 k, LeO (laws_markEntryS.f k a0 a1) (laws_markEntryS.f (k + 1) a0 a1) := by
 intro a0 a1 k; have ih0 := laws_markEntryS.mono_l k
 unfold laws_markEntryS.f
 repeat' first
   | (with_reducible exact ih0 _ _ _)
   | (with_reducible exact laws_markText.mono _ _)
   | (with_reducible exact LeO.refl _)
   | (with_reducible exact LeO.none _)
   | (with_reducible refine LeO.ite ?_ ?_)
   | (with_reducible refine LeO.bind ?_ (fun _ => ?_))
   | exact ih0 _ _ _
   | exact laws_markText.mono _ _
   | exact LeO.none _
   | refine LeO.ite ?_ ?_
   | refine LeO.bind ?_ (fun _ => ?_)
set_option maxHeartbeats 8000000 in
set_option maxRecDepth 100000 in
theorem laws_markEntryS.calls (k : Nat) (P0_ : Nat → Prop) (u9000_ : Value) (l0 : List (S37)) (a1 : Int) (r1 : Int) (r2 : List (S37)) (w0 w : World) (hB : Below w0.heap.size w0 w) (ho0 : Kd.R k37 37 w w0.heap.size P0_ u9000_ l0) (h : laws_markEntryS.f k l0 a1 = some (r1, r2)) :
  Calls Tryd.prog 73 #[u9000_, .int .i64 a1] w fun e w' => e = .returned (.int .i64 r1) ∧ Kd.R k37 37 w' w0.heap.size (fun k_ => (P0_ k_ ∨ w.heap.size ≤ k_)) u9000_ r2 ∧ Below w0.heap.size w0 w' ∧ Kept w w' (fun k_ => P0_ k_) := by
 have HO0 := Aside0.mk (show Kd.R k37 37 w w0.heap.size (fun k_ => (P0_ k_ ∨ w.heap.size ≤ k_)) u9000_ l0 from Kd.R_mono ho0 (fun k_ hk => (.inl hk))); have HK := Aside0.mk (Kept.refl w (fun k_ => P0_ k_)); have HW0 := Aside0.mk hB.size; have HB := Aside0.mk hB; clear hB; have H : (laws_markEntryS.l0 k l0 a1 0) = some (r1, r2) := h; clear h; have H' := Aside0.mk H; clear H
 go_enter Tryd.func73, Tryd.ntmps73
 go_wp2
 go_loopg [1, 5] k (fun kq v1 v5 w' => ∃ (qb : List (S37)) (qd : Int) (qa : Int), v1 = .int .i64 qd ∧ v5 = .int .i64 qa ∧ Aside0 (laws_markEntryS.l0 kq qb qd qa = some (r1, r2)) ∧ Aside0 (kq ≤ k) ∧ Aside0 (Kd.R k37 37 w' w0.heap.size (fun k_ => (P0_ k_ ∨ w.heap.size ≤ k_)) u9000_ qb) ∧ Aside0 (Kept w w' (fun k_ => P0_ k_)) ∧ Aside0 (Below w0.heap.size w0 w'))
 case atStart => exact ⟨(l0), (a1), (0), Ye1, Ye1, H', ⟨Nat.le_refl _⟩, ⟨kr HO0.out⟩, ⟨by repeat (first | (with_reducible first | exact HK.out | apply Kept.alloc | apply Kept.drewN | apply Kept.drew) | exact HK.out)⟩, ⟨be HB.out⟩⟩
 case round =>
  clear H'; (try clear p2); obtain ⟨qb, qd, qa, rfl, rfl, HA, HK1, qc, HK, HB⟩ := hrel
  cases gk with
  | zero => exact absurd HA.out (by simp [laws_markEntryS.l0])
  | succ k1 =>
   have H := HA.out; clear HA; simp only [laws_markEntryS.l0] at H
   by_cases c3 : qa < (qb.length : Int)
   ·rw [if_pos c3] at H
    have c3b0 : decide (qa < (qb.length : Int)) = true := decide_eq_true c3; clear c3; replace H := Option.bind_eq_some_iff.mp H; obtain ⟨t242, A40, H⟩ := H; replace H : (if 0 ≤ qa then ((some (qb.set (qa : Int).toNat (⟨t242, (rd_T37 qb qa).f1, (rd_T37 qb qa).f2⟩ : S37) : List (S37))).bind fun y243 => ((laws_markText.f k1 (wrap64 (qd + 1))).bind fun t244 => ((some (y243.set (qa : Int).toNat (⟨(rd_T37 y243 qa).f0, t244, (rd_T37 y243 qa).f2⟩ : S37) : List (S37))).bind fun y245 => (laws_markEntryS.l0 k1 (y245.set (qa : Int).toNat (⟨(rd_T37 y245 qa).f0, (rd_T37 y245 qa).f1, ((Int.tmod (wrap64 ((wrap64 (qd + 1)) + 1)) 3) == 0)⟩ : S37)) (wrap64 ((wrap64 ((wrap64 (qd + 1)) + 1)) + 1)) (wrap64 (qa + 1)))))) else (none)) = some (r1, r2) := H; have A4 := Aside0.mk A40; clear A40
    by_cases c5 : 0 ≤ qa
    ·rw [if_pos c5] at H
     have c5b0 : decide (0 ≤ qa) = true := decide_eq_true c5; clear c5
     obtain ⟨y243, hy243⟩ : ∃ y_ : List (S37), y_ = (qb.set (qa : Int).toNat (⟨t242, (rd_T37 qb qa).f1, (rd_T37 qb qa).f2⟩ : S37)) := ⟨_, rfl⟩
     replace H : ((laws_markText.f k1 (wrap64 (qd + 1))).bind fun t244 => ((some (y243.set (qa : Int).toNat (⟨(rd_T37 y243 qa).f0, t244, (rd_T37 y243 qa).f2⟩ : S37) : List (S37))).bind fun y245 => (laws_markEntryS.l0 k1 (y245.set (qa : Int).toNat (⟨(rd_T37 y245 qa).f0, (rd_T37 y245 qa).f1, ((Int.tmod (wrap64 ((wrap64 (qd + 1)) + 1)) 3) == 0)⟩ : S37)) (wrap64 ((wrap64 ((wrap64 (qd + 1)) + 1)) + 1)) (wrap64 (qa + 1))))) = some (r1, r2) := by first | (rw [hy243]; with_reducible exact H) | (have H2_ := (Option.bind_some _ _).symm.trans H; rw [hy243]; with_reducible exact H2_) | (have H2_ := (Option.bind_some _ _).symm.trans H; with_reducible exact H2_) | with_reducible exact H | (rw [hy243]; exact H) | exact H
     have Ny243 := Aside0.mk hy243; clear hy243; replace H := Option.bind_eq_some_iff.mp H; obtain ⟨t244, A70, H⟩ := H; replace H : ((some (y243.set (qa : Int).toNat (⟨(rd_T37 y243 qa).f0, t244, (rd_T37 y243 qa).f2⟩ : S37) : List (S37))).bind fun y245 => (laws_markEntryS.l0 k1 (y245.set (qa : Int).toNat (⟨(rd_T37 y245 qa).f0, (rd_T37 y245 qa).f1, ((Int.tmod (wrap64 ((wrap64 (qd + 1)) + 1)) 3) == 0)⟩ : S37)) (wrap64 ((wrap64 ((wrap64 (qd + 1)) + 1)) + 1)) (wrap64 (qa + 1)))) = some (r1, r2) := H; have A7 := Aside0.mk A70; clear A70
     obtain ⟨y245, hy245⟩ : ∃ y_ : List (S37), y_ = (y243.set (qa : Int).toNat (⟨(rd_T37 y243 qa).f0, t244, (rd_T37 y243 qa).f2⟩ : S37)) := ⟨_, rfl⟩
     replace H : (laws_markEntryS.l0 k1 (y245.set (qa : Int).toNat (⟨(rd_T37 y245 qa).f0, (rd_T37 y245 qa).f1, ((Int.tmod (wrap64 ((wrap64 (qd + 1)) + 1)) 3) == 0)⟩ : S37)) (wrap64 ((wrap64 ((wrap64 (qd + 1)) + 1)) + 1)) (wrap64 (qa + 1))) = some (r1, r2) := by first | (rw [hy245]; with_reducible exact H) | (have H2_ := (Option.bind_some _ _).symm.trans H; rw [hy245]; with_reducible exact H2_) | (have H2_ := (Option.bind_some _ _).symm.trans H; with_reducible exact H2_) | with_reducible exact H | (rw [hy245]; exact H) | exact H
     have Ny245 := Aside0.mk hy245; clear hy245
     obtain ⟨y246, hy246⟩ : ∃ y_ : List (S37), y_ = (y245.set (qa : Int).toNat (⟨(rd_T37 y245 qa).f0, (rd_T37 y245 qa).f1, ((Int.tmod (wrap64 ((wrap64 (qd + 1)) + 1)) 3) == 0)⟩ : S37)) := ⟨_, rfl⟩
     replace H : (laws_markEntryS.l0 k1 y246 (wrap64 ((wrap64 ((wrap64 (qd + 1)) + 1)) + 1)) (wrap64 (qa + 1))) = some (r1, r2) := by first | (rw [hy246]; with_reducible exact H) | (have H2_ := (Option.bind_some _ _).symm.trans H; rw [hy246]; with_reducible exact H2_) | (have H2_ := (Option.bind_some _ _).symm.trans H; with_reducible exact H2_) | with_reducible exact H | (rw [hy246]; exact H) | exact H
     have Ny246 := Aside0.mk hy246; clear hy246; have H' := Aside0.mk H; clear H; obtain ⟨Ao10, co10, eo10⟩ := Kd.R_slice qc.out; subst eo10
     go_wp2_with (first | ((with_reducible refine gc 144 rfl ?_); refine gl (some 15) _ (#[.int .i64 qd]) Tryd.func144 ?_; (with_reducible refine (laws_markText.calls k1 qd t242 _ A4.out).mono ?_); rintro e w11 ⟨rfl, hb⟩; refine ⟨_, rfl, ?_⟩; refine Ya3 (Kd.R_below (kr qc.out) hb) (Kept.below (S := (fun k_ => P0_ k_)) (by repeat (first | (with_reducible first | exact HK.out | apply Kept.alloc | apply Kept.drewN | apply Kept.drew) | exact HK.out)) hb) (below_step (be HB.out) hb) ?_; clear qc HK HB; intro qc HK HB; (try clear hb); (try clear hb2); (try clear hk); (try clear hi); have p6 : 0 ≤ (qa : Int) := oda; have q6 : (qa : Int) < ((qb.length : Int) : Int) := oda; obtain ⟨go6, co6, eo6, gb6, gl6, cl6, HG6⟩ := Kd.R_form qc.out (by omega); (first | cases eo6 | (injection eo6 with ea_ en_ ec_; (first | subst ea_ | (injection ea_ with ea_; subst ea_)); subst ec_; clear en_)); have GB6 := Aside0.mk gb6; have GG6 := Aside0.mk HG6; clear gb6 gl6 HG6; have HMgo6 := Aside0.mk (show (P0_ go6 ∨ w.heap.size ≤ go6) from (qc.out.1 _ rfl)); obtain ⟨ce6, hcl6, hM6, hcc6, hfr6⟩ := Kd.R_elem qc.out z37 (qa : Int) p6 q6; obtain rfl := k37_openM hM6; have hx6_0 : w11.cell? ⟨go6, (qa : Int).toNat * 3, none⟩ = some (.string ((rd_T37 qb qa).f0)) := hcc6 0 _ rfl; have hx6_1 : w11.cell? ⟨go6, (qa : Int).toNat * 3 + 1, none⟩ = some (.string ((rd_T37 qb qa).f1)) := hcc6 1 _ rfl; have hx6_2 : w11.cell? ⟨go6, (qa : Int).toNat * 3 + 2, none⟩ = some (.bool ((rd_T37 qb qa).f2)) := hcc6 2 _ rfl; have hf6_0 : w11.frozen? ⟨go6, (qa : Int).toNat * 3, none⟩ = false := hfr6 0; have hf6_1 : w11.frozen? ⟨go6, (qa : Int).toNat * 3 + 1, none⟩ = false := hfr6 1; have hf6_2 : w11.frozen? ⟨go6, (qa : Int).toNat * 3 + 2, none⟩ = false := hfr6 2; (try clear hM6); clear hcl6 hcc6 hfr6; replace p6 := eq_true p6; replace q6 := eq_true q6; have HX12 := Aside0.mk (show Kd.R k37 37 w11 w0.heap.size (fun k_ => (P0_ k_ ∨ w.heap.size ≤ k_)) (.slice (some ⟨go6, 0, none⟩) qb.length co10) qb from (kr qc.out)); obtain ⟨ce12, hcl12, hM12, hcc12, hfr12⟩ := Kd.R_elem HX12.out z37 (qa : Int) (oda) (by have h_ : (qa : Int) < ((qb.length : Int) : Int) := oda; first | exact h_ | (have e_ := (Kd.R_reads' qc.out).1; omega) | simpa using h_); obtain rfl := k37_openM hM12; have HP12 := Kd.R_seg HX12.out (qa : Int) (oda) (by have h_ : (qa : Int) < ((qb.length : Int) : Int) := oda; first | exact h_ | (have e_ := (Kd.R_reads' qc.out).1; omega) | simpa using h_) (seg := [.string t242]) (j := 0) hcl12 hcc12 (show 1 ≤ 3 from by decide) (x' := (⟨t242, (rd_T37 qb qa).f1, (rd_T37 qb qa).f2⟩ : S37)) (k37_mkM _ _ _ (⟨t242, (rd_T37 qb qa).f1, (rd_T37 qb qa).f2⟩ : S37) ) (fun _ hk => hk); have hx12_0 := hcc12 0 _ rfl; (try simp only [show (k37).sz = 3 from rfl, Nat.mul_one, Nat.add_zero] at hx12_0); have hf12_0 := hfr12 0; (try simp only [show (k37).sz = 3 from rfl, Nat.mul_one, Nat.add_zero] at hf12_0); (try clear hM12); clear hcl12 hcc12 hfr12) | ((with_reducible refine gate_store (t := 9) (p := 17) rfl ?_); refine store_event (t := 9) (p := 17) (v := ?vo_w13) (w1 := (w11.setCell ⟨go6, (qa : Int).toNat * 3, none⟩ (.string t242))) ?hg ?ho ?hn ?hr ?_; (case ho => rfl); (case hg => rfl); (case hn => rfl); (case hr => first | (go_simp; done) | (go_simp; rfl)); intro w13 hw; have hg : w11.grownBy w13 (some go6) := (by rw [hw]; exact HP12.2); have hp_ : Kd.R k37 37 w13 w0.heap.size (fun k_ => (P0_ k_ ∨ w.heap.size ≤ k_)) (.slice (some ⟨go6, 0, none⟩) qb.length co10) y243 := (by rw [hw, Ny243.out]; exact HP12.1); clear HP12; refine Ya3 (hp_) ((by rw [hw]; exact below_set (HB.out) GB6.out : Below w0.heap.size w0 w13)) (Kept.of_grown (S := (fun k_ => P0_ k_)) hg (by repeat (first | (with_reducible first | exact HK.out | apply Kept.alloc | apply Kept.drewN | apply Kept.drew) | exact HK.out)) (fun k_ e_ => (qc.out.1 k_ e_))) ?_; clear qc HB HK; intro qc HB HK; clear hg hw hp_) | ((with_reducible refine gc 144 rfl ?_); refine gl (some 23) _ (#[.int .i64 (wrap64 (qd + 1))]) Tryd.func144 ?_; (with_reducible refine (laws_markText.calls k1 (wrap64 (qd + 1)) t244 _ A7.out).mono ?_); rintro e w14 ⟨rfl, hb⟩; refine ⟨_, rfl, ?_⟩; refine Ya3 (Kd.R_below (kr qc.out) hb) (Kept.below (S := (fun k_ => P0_ k_)) (by repeat (first | (with_reducible first | exact HK.out | apply Kept.alloc | apply Kept.drewN | apply Kept.drew) | exact HK.out)) hb) (below_step (be HB.out) hb) ?_; clear qc HK HB; intro qc HK HB; (try clear hb); (try clear hb2); (try clear hk); (try clear hi); have p8 : 0 ≤ (qa : Int) := oda; have q8 : (qa : Int) < ((qb.length : Int) : Int) := oda; obtain ⟨ce8, hcl8, hM8, hcc8, hfr8⟩ := Kd.R_elem qc.out z37 (qa : Int) p8 q8; obtain rfl := k37_openM hM8; have hx8_0 : w14.cell? ⟨go6, (qa : Int).toNat * 3, none⟩ = some (.string ((rd_T37 y243 qa).f0)) := hcc8 0 _ rfl; have hx8_1 : w14.cell? ⟨go6, (qa : Int).toNat * 3 + 1, none⟩ = some (.string ((rd_T37 y243 qa).f1)) := hcc8 1 _ rfl; have hx8_2 : w14.cell? ⟨go6, (qa : Int).toNat * 3 + 2, none⟩ = some (.bool ((rd_T37 y243 qa).f2)) := hcc8 2 _ rfl; have hf8_0 : w14.frozen? ⟨go6, (qa : Int).toNat * 3, none⟩ = false := hfr8 0; have hf8_1 : w14.frozen? ⟨go6, (qa : Int).toNat * 3 + 1, none⟩ = false := hfr8 1; have hf8_2 : w14.frozen? ⟨go6, (qa : Int).toNat * 3 + 2, none⟩ = false := hfr8 2; (try clear hM8); clear hcl8 hcc8 hfr8; replace p8 := eq_true p8; replace q8 := eq_true q8; have HX15 := Aside0.mk (show Kd.R k37 37 w14 w0.heap.size (fun k_ => (P0_ k_ ∨ w.heap.size ≤ k_)) (.slice (some ⟨go6, 0, none⟩) qb.length co10) y243 from (kr qc.out)); obtain ⟨ce15, hcl15, hM15, hcc15, hfr15⟩ := Kd.R_elem HX15.out z37 (qa : Int) (oda) (by have h_ : (qa : Int) < ((qb.length : Int) : Int) := oda; first | exact h_ | (have e_ := (Kd.R_reads' qc.out).1; omega) | simpa using h_); obtain rfl := k37_openM hM15; have HP15 := Kd.R_seg HX15.out (qa : Int) (oda) (by have h_ : (qa : Int) < ((qb.length : Int) : Int) := oda; first | exact h_ | (have e_ := (Kd.R_reads' qc.out).1; omega) | simpa using h_) (seg := [.string t244]) (j := 1) hcl15 hcc15 (show 2 ≤ 3 from by decide) (x' := (⟨(rd_T37 y243 qa).f0, t244, (rd_T37 y243 qa).f2⟩ : S37)) (k37_mkM _ _ _ (⟨(rd_T37 y243 qa).f0, t244, (rd_T37 y243 qa).f2⟩ : S37) ) (fun _ hk => hk); have hx15_1 := hcc15 1 _ rfl; (try simp only [show (k37).sz = 3 from rfl, Nat.mul_one, Nat.add_zero] at hx15_1); have hf15_1 := hfr15 1; (try simp only [show (k37).sz = 3 from rfl, Nat.mul_one, Nat.add_zero] at hf15_1); (try clear hM15); clear hcl15 hcc15 hfr15) | ((with_reducible refine gate_store (t := 9) (p := 25) rfl ?_); refine store_event (t := 9) (p := 25) (v := ?vo_w16) (w1 := (w14.setCell ⟨go6, (qa : Int).toNat * 3 + 1, none⟩ (.string t244))) ?hg ?ho ?hn ?hr ?_; (case ho => rfl); (case hg => rfl); (case hn => rfl); (case hr => first | (go_simp; done) | (go_simp; rfl)); intro w16 hw; have hg : w14.grownBy w16 (some go6) := (by rw [hw]; exact HP15.2); have hp_ : Kd.R k37 37 w16 w0.heap.size (fun k_ => (P0_ k_ ∨ w.heap.size ≤ k_)) (.slice (some ⟨go6, 0, none⟩) qb.length co10) y245 := (by rw [hw, Ny245.out]; exact HP15.1); clear HP15; refine Ya3 (hp_) ((by rw [hw]; exact below_set (HB.out) GB6.out : Below w0.heap.size w0 w16)) (Kept.of_grown (S := (fun k_ => P0_ k_)) hg (by repeat (first | (with_reducible first | exact HK.out | apply Kept.alloc | apply Kept.drewN | apply Kept.drew) | exact HK.out)) (fun k_ e_ => (qc.out.1 k_ e_))) ?_; clear qc HB HK; intro qc HB HK; clear hg hw hp_; have p9 : 0 ≤ (qa : Int) := oda; have q9 : (qa : Int) < ((qb.length : Int) : Int) := oda; obtain ⟨ce9, hcl9, hM9, hcc9, hfr9⟩ := Kd.R_elem qc.out z37 (qa : Int) p9 q9; obtain rfl := k37_openM hM9; have hx9_0 : w16.cell? ⟨go6, (qa : Int).toNat * 3, none⟩ = some (.string ((rd_T37 y245 qa).f0)) := hcc9 0 _ rfl; have hx9_1 : w16.cell? ⟨go6, (qa : Int).toNat * 3 + 1, none⟩ = some (.string ((rd_T37 y245 qa).f1)) := hcc9 1 _ rfl; have hx9_2 : w16.cell? ⟨go6, (qa : Int).toNat * 3 + 2, none⟩ = some (.bool ((rd_T37 y245 qa).f2)) := hcc9 2 _ rfl; have hf9_0 : w16.frozen? ⟨go6, (qa : Int).toNat * 3, none⟩ = false := hfr9 0; have hf9_1 : w16.frozen? ⟨go6, (qa : Int).toNat * 3 + 1, none⟩ = false := hfr9 1; have hf9_2 : w16.frozen? ⟨go6, (qa : Int).toNat * 3 + 2, none⟩ = false := hfr9 2; (try clear hM9); clear hcl9 hcc9 hfr9; replace p9 := eq_true p9; replace q9 := eq_true q9; have HX17 := Aside0.mk (show Kd.R k37 37 w16 w0.heap.size (fun k_ => (P0_ k_ ∨ w.heap.size ≤ k_)) (.slice (some ⟨go6, 0, none⟩) qb.length co10) y245 from (kr qc.out)); obtain ⟨ce17, hcl17, hM17, hcc17, hfr17⟩ := Kd.R_elem HX17.out z37 (qa : Int) (oda) (by have h_ : (qa : Int) < ((qb.length : Int) : Int) := oda; first | exact h_ | (have e_ := (Kd.R_reads' qc.out).1; omega) | simpa using h_); obtain rfl := k37_openM hM17; have HP17 := Kd.R_seg HX17.out (qa : Int) (oda) (by have h_ : (qa : Int) < ((qb.length : Int) : Int) := oda; first | exact h_ | (have e_ := (Kd.R_reads' qc.out).1; omega) | simpa using h_) (seg := [.bool ((Int.tmod (wrap64 ((wrap64 (qd + 1)) + 1)) 3) == 0)]) (j := 2) hcl17 hcc17 (show 3 ≤ 3 from by decide) (x' := (⟨(rd_T37 y245 qa).f0, (rd_T37 y245 qa).f1, ((Int.tmod (wrap64 ((wrap64 (qd + 1)) + 1)) 3) == 0)⟩ : S37)) (k37_mkM _ _ _ (⟨(rd_T37 y245 qa).f0, (rd_T37 y245 qa).f1, ((Int.tmod (wrap64 ((wrap64 (qd + 1)) + 1)) 3) == 0)⟩ : S37) ) (fun _ hk => hk); have hx17_2 := hcc17 2 _ rfl; (try simp only [show (k37).sz = 3 from rfl, Nat.mul_one, Nat.add_zero] at hx17_2); have hf17_2 := hfr17 2; (try simp only [show (k37).sz = 3 from rfl, Nat.mul_one, Nat.add_zero] at hf17_2); (try clear hM17); clear hcl17 hcc17 hfr17) | ((with_reducible refine gate_store (t := 4) (p := 34) rfl ?_); refine store_event (t := 4) (p := 34) (v := ?vo_w18) (w1 := (w16.setCell ⟨go6, (qa : Int).toNat * 3 + 2, none⟩ (.bool ((Int.tmod (wrap64 ((wrap64 (qd + 1)) + 1)) 3) == 0)))) ?hg ?ho ?hn ?hr ?_; (case ho => rfl); (case hg => rfl); (case hn => rfl); (case hr => first | (go_simp; done) | (go_simp; rfl)); intro w18 hw; have hg : w16.grownBy w18 (some go6) := (by rw [hw]; exact HP17.2); have hp_ : Kd.R k37 37 w18 w0.heap.size (fun k_ => (P0_ k_ ∨ w.heap.size ≤ k_)) (.slice (some ⟨go6, 0, none⟩) qb.length co10) y246 := (by rw [hw, Ny246.out]; exact HP17.1); clear HP17; refine Ya3 (hp_) ((by rw [hw]; exact below_set (HB.out) GB6.out : Below w0.heap.size w0 w18)) (Kept.of_grown (S := (fun k_ => P0_ k_)) hg (by repeat (first | (with_reducible first | exact HK.out | apply Kept.alloc | apply Kept.drewN | apply Kept.drew) | exact HK.out)) (fun k_ e_ => (qc.out.1 k_ e_))) ?_; clear qc HB HK; intro qc HB HK; clear hg hw hp_))
     go_roundg k1
     case measure => have := HK1.out; omega
     case rel => exact ⟨(y246), (wrap64 ((wrap64 ((wrap64 (qd + 1)) + 1)) + 1)), (wrap64 (qa + 1)), Ye1, Ye1, H', ⟨by have := HK1.out; omega⟩, ⟨kr qc.out⟩, ⟨by repeat (first | (with_reducible first | exact HK.out | apply Kept.alloc | apply Kept.drewN | apply Kept.drew) | exact HK.out)⟩, ⟨be HB.out⟩⟩
    ·rw [if_neg c5] at H
     exact absurd H (by simp)
   ·rw [if_neg c3] at H
    have c3b0 : decide (qa < (qb.length : Int)) = false := decide_eq_false c3; clear c3; simp only [Option.some.injEq, Prod.mk.injEq] at H; obtain ⟨rfl, rfl⟩ := H; obtain ⟨Ao19, co19, eo19⟩ := Kd.R_slice qc.out; subst eo19
    go_wp2
    go_ret
    exact ⟨Ye2, kr qc.out, be HB.out, by repeat (first | (with_reducible first | exact HK.out | apply Kept.alloc | apply Kept.drewN | apply Kept.drew) | exact HK.out)⟩

end Go.Proofs.YtgnmledjkamojaaDoor.P


namespace Go.Proofs.YtgnmledjkamojaaDoor.P
open Go.RowKit Go.Proofs.YtgnmledjkamojaaDoorW.PrintWords Go.Proofs.YtgnmledjkamojaaDoorW.PrintLast Go.Proofs.YtgnmledjkamojaaDoorW.PrintMore
attribute [local go_sem] max2_int min2_int max_two min_two max_three min_three max_four min_four
set_option linter.unusedVariables false
set_option linter.unusedSimpArgs false

/-! ### laws_markTree: function 18 -/
def laws_markTree.f (k : Nat) (l0_0 : List (S37)) (a1 : Int) : Option (Int × (List (S37))) := (laws_markEntryS.f k l0_0 a1).bind fun bt248 => (some (bt248.1, bt248.2))
theorem laws_markTree.mono : ∀ a0 a1 k, LeO (laws_markTree.f k a0 a1) (laws_markTree.f (k + 1) a0 a1) := by
 intro a0 a1 k
 unfold laws_markTree.f
 repeat' first
   | (with_reducible exact laws_markEntryS.mono _ _ _)
   | (with_reducible exact LeO.refl _)
   | (with_reducible exact LeO.none _)
   | (with_reducible refine LeO.ite ?_ ?_)
   | (with_reducible refine LeO.bind ?_ (fun _ => ?_))
   | exact laws_markEntryS.mono _ _ _
   | exact LeO.none _
   | refine LeO.ite ?_ ?_
   | refine LeO.bind ?_ (fun _ => ?_)
set_option maxHeartbeats 8000000 in
set_option maxRecDepth 100000 in
theorem laws_markTree.calls (k : Nat) (P0_0_ : Nat → Prop) (u9000_ : Value) (l0_0 : List (S37)) (a1 : Int) (r1 : Int) (r2 : List (S37)) (w0 w : World) (hB : Below w0.heap.size w0 w) (ho0_0 : Kd.R k37 37 w w0.heap.size P0_0_ u9000_ l0_0) (h : laws_markTree.f k l0_0 a1 = some (r1, r2)) :
  Calls Tryd.prog 18 #[.agg #[u9000_], .int .i64 a1] w fun e w' => e = .returned (.int .i64 r1) ∧ Kd.R k37 37 w' w0.heap.size (fun k_ => (P0_0_ k_ ∨ w.heap.size ≤ k_)) u9000_ r2 ∧ Below w0.heap.size w0 w' ∧ Kept w w' (fun k_ => P0_0_ k_) := by
 have hu28 := Tryd.underlying28; have HO0_0 := Aside0.mk (show Kd.R k37 37 w w0.heap.size (fun k_ => (P0_0_ k_ ∨ w.heap.size ≤ k_)) u9000_ l0_0 from Kd.R_mono ho0_0 (fun k_ hk => (.inl hk))); have HK := Aside0.mk (Kept.refl w (fun k_ => P0_0_ k_)); have HW0 := Aside0.mk hB.size; have HB := Aside0.mk hB; clear hB; have H : ((laws_markEntryS.f k l0_0 a1).bind fun bt248 => (some (bt248.1, bt248.2))) = some (r1, r2) := h; clear h; replace H := Option.bind_eq_some_iff.mp H; obtain ⟨⟨t248, t249⟩, A30, H⟩ := H; replace H : (some (t248, t249)) = some (r1, r2) := H; have A3 := Aside0.mk A30; clear A30; simp only [Option.some.injEq, Prod.mk.injEq] at H; obtain ⟨rfl, rfl⟩ := H; obtain ⟨Ao4, co4, eo4⟩ := Kd.R_slice HO0_0.out; subst eo4
 go_enter Tryd.func18, Tryd.ntmps18
 go_wp2_with (first | ((with_reducible refine gd 2 rfl ?_); refine bx 2 28 (#[.slice Ao4 l0_0.length co4]) ?_; intro gb247 hg w5 hbox hb; refine Ya6 (Kd.R_below (kr HO0_0.out) hb) (Kept.below (S := (fun k_ => P0_0_ k_)) (by repeat (first | (with_reducible first | exact HK.out | apply Kept.alloc | apply Kept.drewN | apply Kept.drew) | exact HK.out)) hb) (below_step (be HB.out) hb) (hbox) ((by rw [hg]; exact (by first | exact HK.out.1 | exact (show Kept w _ (fun k_ => P0_0_ k_) from by repeat (first | (with_reducible first | exact HK.out | apply Kept.alloc | apply Kept.drewN | apply Kept.drew) | exact HK.out)).1) : w.heap.size ≤ gb247)) ((by rw [hg]; exact (below_size (be HB.out)) : w0.heap.size ≤ gb247)) ?_; clear HO0_0 HK HB; intro HO0_0 HK HB BK247 GW247 GE247; clear hb hbox hg; have ⟨hcz6_0, hfz6_0⟩ := Yc1 BK247.out) | ((with_reducible refine gc 73 rfl ?_); refine gl (some 8) _ (#[.slice Ao4 l0_0.length co4, .int .i64 a1]) Tryd.func73 ?_; (with_reducible refine (laws_markEntryS.calls k (fun k_ => some k_ = (.slice Ao4 l0_0.length co4 : Value).ownBlock) (.slice Ao4 l0_0.length co4) l0_0 a1 t248 t249 w0 _ ?side1 ?side2 A3.out).mono ?_); (case side1 => repeat (first | (with_reducible first | exact HB.out | apply below_alloc | apply pw_below_drewN | apply below_drew1 | refine below_set ?_ GE247.out) | exact HB.out)); (case side2 => exact Kd.R_tight rfl HO0_0.out); rintro e w7 ⟨rfl, hy0, hb, hkp⟩; refine ⟨_, rfl, ?_⟩; refine Ya4 (Kd.R_reok rfl hy0 (fun k_ e_ => HO0_0.out.1 k_ e_)) (blk_kept (bk BK247.out) hkp (fun hs_ => (fun e_ => (Kd.R_ne HO0_0.out BK247.out (by decide)) e_) hs_)) (Kept.then_ (S := (fun k_ => P0_0_ k_)) (by repeat (first | (with_reducible first | exact HK.out | apply Kept.alloc | apply Kept.drewN | apply Kept.drew | refine Kept.setCell ?_ (.inr GW247.out) _) | exact HK.out)) hkp (fun k_ hs_ => (fun e_ => (HO0_0.out.1 k_ e_.symm)) hs_)) (hb) ?_; clear HO0_0 BK247 HK HB; intro HO0_0 BK247 HK HB; (try clear hb); (try clear hkp); (try clear hy0)))
 go_ret
 exact ⟨Ye2, kr HO0_0.out, (by first | exact be1 HB.out GE247.out | exact be HB.out), by repeat (first | (with_reducible first | exact HK.out | apply Kept.alloc | apply Kept.drewN | apply Kept.drew | refine Kept.setCell ?_ (.inr GW247.out) _) | exact HK.out)⟩

end Go.Proofs.YtgnmledjkamojaaDoor.P


namespace Go.Proofs.YtgnmledjkamojaaDoor.P
open Go.RowKit Go.Proofs.YtgnmledjkamojaaDoorW.PrintWords Go.Proofs.YtgnmledjkamojaaDoorW.PrintLast Go.Proofs.YtgnmledjkamojaaDoorW.PrintMore
attribute [local go_sem] max2_int min2_int max_two min_two max_three min_three max_four min_four
set_option linter.unusedVariables false
set_option linter.unusedSimpArgs false

/-! ### spec_l5Begins: function 64 -/
def spec_l5Begins.f (a0 : ByteArray) (a1 : ByteArray) : Option (Bool) := if (a1.size : Int) > (a0.size : Int) then (if 0 ≤ (a0.size : Int) then (if (a0.size : Int) ≤ (a1.size : Int) then (if (a1.extract 0 ((a0.size : Int) : Int).toNat).toList = a0.toList then (if (a0.size : Int) < (a1.size : Int) then (some ((bt a1 (a0.size : Int)) == 47)) else (none)) else (some false)) else (none)) else (none)) else (some false)
set_option maxHeartbeats 8000000 in
set_option maxRecDepth 100000 in
theorem spec_l5Begins.calls (a0 : ByteArray) (a1 : ByteArray) (r : Bool) (w : World) (h : spec_l5Begins.f a0 a1 = some r) :
  Calls Tryd.prog 64 #[.string a0, .string a1] w fun e w' => e = .returned (.bool r) ∧ Drawn0 w w' := by
 have H : (if (a1.size : Int) > (a0.size : Int) then (if 0 ≤ (a0.size : Int) then (if (a0.size : Int) ≤ (a1.size : Int) then (if (a1.extract 0 ((a0.size : Int) : Int).toNat).toList = a0.toList then (if (a0.size : Int) < (a1.size : Int) then (some ((bt a1 (a0.size : Int)) == 47)) else (none)) else (some false)) else (none)) else (none)) else (some false)) = some r := h; clear h
 by_cases c3 : (a1.size : Int) > (a0.size : Int)
 ·rw [if_pos c3] at H
  have c3b0 : decide ((a0.size : Int) < (a1.size : Int)) = true := decide_eq_true c3; have c3b1 : decide (a0.size < a1.size) = true := decide_eq_true (Int.ofNat_lt.mp c3); clear c3
  by_cases c4 : 0 ≤ (a0.size : Int)
  ·rw [if_pos c4] at H
   have c4b0 := eq_true c4; have c4b1 : decide (0 ≤ (a0.size : Int)) = true := decide_eq_true c4; clear c4
   by_cases c5 : (a0.size : Int) ≤ (a1.size : Int)
   ·rw [if_pos c5] at H
    have c5b0 := eq_true c5; have c5b1 : decide ((a0.size : Int) ≤ (a1.size : Int)) = true := decide_eq_true c5; clear c5
    by_cases c6 : (a1.extract 0 ((a0.size : Int) : Int).toNat).toList = a0.toList
    ·rw [if_pos c6] at H
     have c6b0 : ((a1.extract 0 ((a0.size : Int) : Int).toNat).toList == a0.toList) = true := beq_iff_eq.mpr c6; have c6b0n := c6b0; (try simp only [Int.toNat_natCast] at c6b0n); have c6b1 : ((a1.extract 0 ((a0.size : Int) : Int).toNat).toList != a0.toList) = false := bne_eq_false_iff_eq.mpr c6; have c6b1n := c6b1; (try simp only [Int.toNat_natCast] at c6b1n); clear c6
     by_cases c7 : (a0.size : Int) < (a1.size : Int)
     ·rw [if_pos c7] at H
      have c7b0 : decide ((a0.size : Int) < (a1.size : Int)) = true := decide_eq_true c7; have c7b1 : decide (a0.size < a1.size) = true := decide_eq_true (Int.ofNat_lt.mp c7); clear c7; obtain rfl := Option.some.inj H; have p8 : 0 ≤ ((a0.size : Int) : Int) := oda; have q8 : (a0.size : Int) < (a1.size : Int) := oda; have hx8 := bt_at a1 (a0.size : Int); (try have hx8n := hx8 (by omega)); (try simp only [Int.toNat_natCast] at hx8n); replace p8 := eq_true p8; replace q8 := eq_true q8
      go_enter Tryd.func64, Tryd.ntmps64
      go_wp2
      go_ret
      exact ⟨Ye1, dz⟩
     ·rw [if_neg c7] at H
      exact absurd H (by simp)
    ·rw [if_neg c6] at H
     have c6b0 : ((a1.extract 0 ((a0.size : Int) : Int).toNat).toList == a0.toList) = false := beq_eq_false_iff_ne.mpr c6; have c6b0n := c6b0; (try simp only [Int.toNat_natCast] at c6b0n); have c6b1 : ((a1.extract 0 ((a0.size : Int) : Int).toNat).toList != a0.toList) = true := bne_iff_ne.mpr c6; have c6b1n := c6b1; (try simp only [Int.toNat_natCast] at c6b1n); obtain rfl := Option.some.inj H
     go_enter Tryd.func64, Tryd.ntmps64
     go_wp2
     go_ret
     exact ⟨Ye1, dz⟩
   ·rw [if_neg c5] at H
    exact absurd H (by simp)
  ·rw [if_neg c4] at H
   exact absurd H (by simp)
 ·rw [if_neg c3] at H
  have c3b0 : decide ((a0.size : Int) < (a1.size : Int)) = false := decide_eq_false c3; have c3b1 : decide (a0.size < a1.size) = false := decide_eq_false (fun h => c3 (Int.ofNat_lt.mpr h)); clear c3; obtain rfl := Option.some.inj H
  go_enter Tryd.func64, Tryd.ntmps64
  go_wp2
  go_ret
  exact ⟨Ye1, dz⟩

end Go.Proofs.YtgnmledjkamojaaDoor.P


namespace Go.Proofs.YtgnmledjkamojaaDoor.P
open Go.RowKit Go.Proofs.YtgnmledjkamojaaDoorW.PrintWords Go.Proofs.YtgnmledjkamojaaDoorW.PrintLast Go.Proofs.YtgnmledjkamojaaDoorW.PrintMore
attribute [local go_sem] max2_int min2_int max_two min_two max_three min_three max_four min_four
set_option linter.unusedVariables false
set_option linter.unusedSimpArgs false

/-! ### spec_l5Copy: function 63 -/
def spec_l5Copy.f (l0_0 : List (S37)) : Option ((List (S37))) := (some (([] : List (S37)) : List (S37))).bind fun y131 => (if y131.length + l0_0.length < 3518437208883 then (some (y131 ++ l0_0)) else (none))
set_option maxHeartbeats 8000000 in
set_option maxRecDepth 100000 in
theorem spec_l5Copy.calls (A0_0 : Option Addr) (c0_0 : Nat) (l0_0 : List (S37)) (r : List (S37)) (w : World) (hr0_0 : Kd.C k37 w A0_0 l0_0.length l0_0) (hc0_0 : l0_0.length ≤ c0_0) (h : spec_l5Copy.f l0_0 = some r) :
  Calls Tryd.prog 63 #[.agg #[.slice A0_0 l0_0.length c0_0]] w fun e w' => ∃ v0_ : Value, e = .returned (.agg #[v0_]) ∧ Kd.R k37 37 w' w.heap.size (fun _ => True) v0_ r ∧ Below w.heap.size w w' := by
 have hu28 := Tryd.underlying28; have HR0_0 := Aside0.mk hr0_0; have HC0_0 := Aside0.mk hc0_0; clear hr0_0 hc0_0; have HB := Aside0.mk (Below.refl w.heap.size w); have H : ((some (([] : List (S37)) : List (S37))).bind fun y131 => (if y131.length + l0_0.length < 3518437208883 then (some (y131 ++ l0_0)) else (none))) = some r := h; clear h
 obtain ⟨y131, hy131⟩ : ∃ y_ : List (S37), y_ = (([] : List (S37))) := ⟨_, rfl⟩
 replace H : (if y131.length + l0_0.length < 3518437208883 then (some (y131 ++ l0_0)) else (none)) = some r := by first | (rw [hy131]; with_reducible exact H) | (have H2_ := (Option.bind_some _ _).symm.trans H; rw [hy131]; with_reducible exact H2_) | (have H2_ := (Option.bind_some _ _).symm.trans H; with_reducible exact H2_) | with_reducible exact H | (rw [hy131]; exact H) | exact H
 have Ny131 := Aside0.mk hy131; clear hy131
 by_cases c2 : y131.length + l0_0.length < 3518437208883
 ·rw [if_pos c2] at H
  have LMc2 := Aside0.mk c2; clear c2
  obtain ⟨y134, hy134⟩ : ∃ y_ : List (S37), y_ = (y131 ++ l0_0) := ⟨_, rfl⟩
  replace H : (some y134) = some r := by first | (rw [hy134]; with_reducible exact H) | (have H2_ := (Option.bind_some _ _).symm.trans H; rw [hy134]; with_reducible exact H2_) | (have H2_ := (Option.bind_some _ _).symm.trans H; with_reducible exact H2_) | with_reducible exact H | (rw [hy134]; exact H) | exact H
  have Ny134 := Aside0.mk hy134; clear hy134; obtain rfl := Option.some.inj H
  go_enter Tryd.func63, Tryd.ntmps63
  go_wp2_with (first | ((with_reducible refine gd 1 rfl ?_); refine bx 1 28 (#[.slice A0_0 l0_0.length c0_0]) ?_; intro gb129 hg w3 hbox hb; refine Ya4 (below_step (be HB.out) hb) (hbox) (bs hg (be HB.out)) (bs hg (be HB.out)) ?_; clear HB; intro HB qa GW129 GE129; clear hb hbox hg) | ((with_reducible refine gd 2 rfl ?_); refine bx 2 28 (#[.slice none 0 0]) ?_; intro gb130 hg w4 hbox hb; refine Ya7 (bb qa hb) (below_step (be1 HB.out GE129.out) hb) (hbox) (bs hg (be1 HB.out GE129.out)) (bs hg (be1 HB.out GE129.out)) (bl hg qa) (br hg qa) ?_; clear qa HB; intro qa HB BK130 GW130 GE130 NB129_130 NB130_129; clear hb hbox hg) | ((with_reducible refine gd 3 rfl ?_); refine Kd.R_lit k37 _ 37 ?hg (N := 3) ?hd (xs := ([] : List (S37))) (inner := []) (ok := fun _ => True) (okp := fun _ => True) ?hr ?hp (fun _ hk => hk) trivial (Below.refl _ _) (Nat.le_refl _) (by simp) ?_; (case hd => rfl); (case hg => rfl); (case hr => first | (go_simp; done) | (go_simp; rfl)); (case hp => exact (Reps.none _ _)); intro v132 w5 ho6 hb hg_ hnew_; clear hg_ hnew_; (first | rw [← Ny131.out] at ho6 | (simp only [Int.reduceToNat] at ho6; rw [← Ny131.out] at ho6)); refine Ya4 (Kd.R_lower ho6 (below_size (be2 HB.out GE129.out GE130.out))) (bb qa hb) (bb BK130 hb) (below_step (be2 HB.out GE129.out GE130.out) hb) ?_; clear qa BK130 HB; intro HO133 qa BK130 HB; clear hb ho6; have hnb7 := NB129_130.out; have hnc7 := NB130_129.out; have ⟨hcz8_0, hfz8_0⟩ := Yc1 qa.out) | ((with_reducible refine gate_builtin (b := .append) (xs := #[.tmp 3, .tmp 5]) rfl ?_); at_builtin; refine Kd.R_append_rows k37 (w0 := w) w.heap.size rfl (.tmp 3) (.tmp 5) 26 37 (.agg #[(.string ⟨#[]⟩), (.string ⟨#[]⟩), (.bool false)]) 40 rfl Tryd.underlying26 info37 rfl (by decide) (by omega) v132 y131 l0_0 _ _ _ (fun _ => True) (fun _ => False) rfl rfl ?aO ?aR (fun _ _ h => h) (fun _ h => h.elim) ?aF ?aB ?aS ?aL ?_; (case aR => exact cb (Kd.C_below HR0_0.out HB.out)); (case aB => exact (be2 HB.out GE129.out GE130.out)); (case aF => exact (fun _ _ => trivial)); (case aO => exact (kr HO133.out)); (case aS => exact (below_size (be2 HB.out GE129.out GE130.out))); (case aL => have := LMc2.out; omega); intro v135 w9 ho hb hg hat; rw [← Ny134.out] at ho; refine Ya4 (blk_grown (g := gb129) (o := .cells #[.slice A0_0 l0_0.length c0_0] 28 (0, 0)) (bk qa.out) hg (Kd.R_ne HO133.out qa.out (by decide))) (blk_grown (g := gb130) (o := .cells #[.slice none 0 0] 28 (0, 0)) (bk BK130.out) hg (Kd.R_ne HO133.out BK130.out (by decide))) (hb) (ho) ?_; clear qa BK130 HB HO133; intro qa BK130 HB HO136; clear ho hb hg hat; obtain ⟨Ao10, co10, eo10⟩ := Kd.R_slice HO136.out; subst eo10; have ⟨hcz11_0, hfz11_0⟩ := Yc1 BK130.out))
  refine bodyPost_ret (results_cell_row rfl _ _ gb130 28 #[.slice Ao10 y134.length co10] (0, 0) _ rfl (by (with_reducible repeat (first | apply blk_drewN | apply blk_drew | apply blk_alloc)); refine blk_put (cs := #[.slice none 0 0]) ?_ 0 _ rfl; (with_reducible repeat (first | apply blk_drewN | apply blk_drew | apply blk_alloc)); exact BK130.out) Tryd.underlying28 rfl (by kernel_rfl)) rfl ?_; exact ⟨_, Ye2, by (with_reducible repeat (first | apply Kd.R_alloc | apply Kd.R_drewN | apply Kd.R_drew)); exact Kd.R_mono (Kd.R_far (p := ⟨gb130, 0, none⟩) (Kd.R_types HO136.out BK130.out (by decide)) (fun _ hk => hk.2) (.slice Ao10 y134.length co10)) (fun _ hk => trivial), (by first | exact be2 HB.out GE129.out GE130.out | exact be1 HB.out GE129.out | exact be HB.out)⟩
 ·rw [if_neg c2] at H
  exact absurd H (by simp)

end Go.Proofs.YtgnmledjkamojaaDoor.P

