/- Several texts of this claim in one file: YtgnmledjkamojaaDoorPSpecL5Set, YtgnmledjkamojaaDoorPSpecL1In, YtgnmledjkamojaaDoorPSpecL4PartOk, YtgnmledjkamojaaDoorPSpecL4Parts, YtgnmledjkamojaaDoorPSpecL4Ok, YtgnmledjkamojaaDoorPSpecValidPath, YtgnmledjkamojaaDoorPSpecValidTree, YtgnmledjkamojaaDoorPSpecOverlay, YtgnmledjkamojaaDoorPImplFind. -/
import Derived.Test.YtgnmledjkamojaaDoorM2
import Derived.Test.YtgnmledjkamojaaDoorM3
import Derived.Test.YtgnmledjkamojaaDoorM4
import Derived.Deep.QuietTactic
namespace Go.Proofs.YtgnmledjkamojaaDoor.P
open Go.RowKit Go.Proofs.YtgnmledjkamojaaDoorW.PrintWords Go.Proofs.YtgnmledjkamojaaDoorW.PrintLast Go.Proofs.YtgnmledjkamojaaDoorW.PrintMore
attribute [local go_sem] max2_int min2_int max_two min_two max_three min_three max_four min_four
set_option linter.unusedVariables false
set_option linter.unusedSimpArgs false

/-! ### spec_l5Set: function 65 -/
mutual
def spec_l5Set.l0 : Nat → Bool → Int → List (S37) → ByteArray → ByteArray → Bool → List (S37) → Option ((List (S37)))
 | 0, _, _, _, _, _, _, _ => none
 | k + 1, x6, x7, x138000, x139000, x139001, x139002, x141000 => if x7 < (x138000.length : Int) then (if x6 = true then (spec_l5Set.j1 k x6 x7 false x138000 x139000 x139001 x139002 x141000) else (if 0 ≤ x7 then (spec_l5Set.j1 k x6 x7 (!(Op.bytesLess (((rd_T37 x138000 x7).f0).toList) x139000.toList)) x138000 x139000 x139001 x139002 x141000) else (none))) else (if x6 = true then (some x141000) else (if x141000.length < 3518437208883 then (some (x141000 ++ [(⟨x139000, x139001, x139002⟩ : S37)])) else (none)))
def spec_l5Set.j1 : Nat → Bool → Int → Bool → List (S37) → ByteArray → ByteArray → Bool → List (S37) → Option ((List (S37)))
 | 0, _, _, _, _, _, _, _, _ => none
 | k + 1, x6, x7, x28, x138000, x139000, x139001, x139002, x141000 => if x28 = true then (if x141000.length < 3518437208883 then ((some (x141000 ++ [(⟨x139000, x139001, x139002⟩ : S37)] : List (S37))).bind fun y145 => (if 0 ≤ x7 then (if x7 < (x138000.length : Int) then (if ((rd_T37 x138000 x7).f0).toList = x139000.toList then (spec_l5Set.l0 k true (wrap64 (x7 + 1)) x138000 x139000 x139001 x139002 y145) else (if y145.length < 3518437208883 then (spec_l5Set.l0 k true (wrap64 (x7 + 1)) x138000 x139000 x139001 x139002 (y145 ++ [(⟨(rd_T37 x138000 x7).f0, (rd_T37 x138000 x7).f1, (rd_T37 x138000 x7).f2⟩ : S37)])) else (none))) else (none)) else (none))) else (none)) else (if 0 ≤ x7 then (if x7 < (x138000.length : Int) then (if ((rd_T37 x138000 x7).f0).toList = x139000.toList then (spec_l5Set.l0 k x6 (wrap64 (x7 + 1)) x138000 x139000 x139001 x139002 x141000) else (if x141000.length < 3518437208883 then (spec_l5Set.l0 k x6 (wrap64 (x7 + 1)) x138000 x139000 x139001 x139002 (x141000 ++ [(⟨(rd_T37 x138000 x7).f0, (rd_T37 x138000 x7).f1, (rd_T37 x138000 x7).f2⟩ : S37)])) else (none))) else (none)) else (none))
end
def spec_l5Set.f (k : Nat) (qb : List (S37)) (a1_0 : ByteArray) (a1_1 : ByteArray) (a1_2 : Bool) : Option ((List (S37))) := spec_l5Set.l0 k false 0 qb a1_0 a1_1 a1_2 ([] : List (S37))
theorem spec_l5Set.mono_l : ∀ k, (∀ y0 y1 y2 y3 y4 y5 y6, LeO (spec_l5Set.l0 k y0 y1 y2 y3 y4 y5 y6) (spec_l5Set.l0 (k + 1) y0 y1 y2 y3 y4 y5 y6)) ∧ (∀ y0 y1 y2 y3 y4 y5 y6 y7, LeO (spec_l5Set.j1 k y0 y1 y2 y3 y4 y5 y6 y7) (spec_l5Set.j1 (k + 1) y0 y1 y2 y3 y4 y5 y6 y7))
 | 0 => ⟨fun _ _ _ _ _ _ _ r h => by simp [spec_l5Set.l0] at h, fun _ _ _ _ _ _ _ _ r h => by simp [spec_l5Set.j1] at h⟩
 | k + 1 => by
  obtain ⟨ih0, ih1⟩ := spec_l5Set.mono_l k; refine ⟨?_, ?_⟩
  ·intro y0 y1 y2 y3 y4 y5 y6
   unfold spec_l5Set.l0
   repeat' first
   | (with_reducible exact ih0 _ _ _ _ _ _ _)
   | (with_reducible exact ih1 _ _ _ _ _ _ _ _)
   | (with_reducible exact LeO.refl _)
   | (with_reducible exact LeO.none _)
   | (with_reducible refine LeO.ite ?_ ?_)
   | (with_reducible refine LeO.bind ?_ (fun _ => ?_))
   | exact ih0 _ _ _ _ _ _ _
   | exact ih1 _ _ _ _ _ _ _ _
   | exact LeO.none _
   | refine LeO.ite ?_ ?_
   | refine LeO.bind ?_ (fun _ => ?_)
  ·intro y0 y1 y2 y3 y4 y5 y6 y7
   unfold spec_l5Set.j1
   repeat' first
   | (with_reducible exact ih0 _ _ _ _ _ _ _)
   | (with_reducible exact ih1 _ _ _ _ _ _ _ _)
   | (with_reducible exact LeO.refl _)
   | (with_reducible exact LeO.none _)
   | (with_reducible refine LeO.ite ?_ ?_)
   | (with_reducible refine LeO.bind ?_ (fun _ => ?_))
   | exact ih0 _ _ _ _ _ _ _
   | exact ih1 _ _ _ _ _ _ _ _
   | exact LeO.none _
   | refine LeO.ite ?_ ?_
   | refine LeO.bind ?_ (fun _ => ?_)
theorem spec_l5Set.mono : ∀ a0 a1 a2 a3 k, LeO (spec_l5Set.f k a0 a1 a2 a3) (spec_l5Set.f (k + 1) a0 a1 a2 a3) := by
 intro a0 a1 a2 a3 k; obtain ⟨ih0, ih1⟩ := spec_l5Set.mono_l k
 unfold spec_l5Set.f
 repeat' first
   | (with_reducible exact ih0 _ _ _ _ _ _ _)
   | (with_reducible exact ih1 _ _ _ _ _ _ _ _)
   | (with_reducible exact LeO.refl _)
   | (with_reducible exact LeO.none _)
   | (with_reducible refine LeO.ite ?_ ?_)
   | (with_reducible refine LeO.bind ?_ (fun _ => ?_))
   | exact ih0 _ _ _ _ _ _ _
   | exact ih1 _ _ _ _ _ _ _ _
   | exact LeO.none _
   | refine LeO.ite ?_ ?_
   | refine LeO.bind ?_ (fun _ => ?_)
def spec_l5Set.T6 : Bool × List (List Nat × List Nat) := (true, [([], []), ([0], [0]), ([1], [1]), ([2], [2]), ([3, 2], [2, 3]), ([2], [2]), ([4, 5, 2], [2, 4, 5]), ([6, 2], [2, 6]), ([7, 2], [2, 7]), ([2], [2]), ([9, 2], [2, 9]), ([8, 10, 2], [2, 8, 10]), ([2, 11], [2, 11])])
def spec_l5Set.B6 : List Nat := [0, 1, 3, 7, 15, 7, 63, 127, 255, 7, 519, 2047, 4095]
theorem spec_l5Set.tab6 : rtab .any (opsOf Tryd.f65 6) = spec_l5Set.T6 := by kernel_rfl
theorem spec_l5Set.bits6 : waitsOk spec_l5Set.T6.2 spec_l5Set.B6 = true := by kernel_rfl
def spec_l5Set.T9 : Bool × List (List Nat × List Nat) := (true, [([], []), ([0], [0]), ([], []), ([1, 2], [1, 2]), ([3], [3]), ([4], [4]), ([], []), ([6], [6]), ([5, 7], [5, 7])])
def spec_l5Set.B9 : List Nat := [0, 1, 0, 7, 15, 31, 0, 64, 255]
theorem spec_l5Set.tab9 : rtab .any (opsOf Tryd.f65 9) = spec_l5Set.T9 := by kernel_rfl
theorem spec_l5Set.bits9 : waitsOk spec_l5Set.T9.2 spec_l5Set.B9 = true := by kernel_rfl
def spec_l5Set.T10 : Bool × List (List Nat × List Nat) := (true, [([], []), ([0], [0]), ([], []), ([2], [2]), ([], []), ([3, 4], [3, 4]), ([5], [5]), ([6], [6]), ([1, 7], [1, 7]), ([0, 1, 2, 3, 4, 5, 6, 7, 8], []), ([9, 8, 8, 0, 1, 2, 3, 4, 5, 6, 7, 8], [8, 9])])
def spec_l5Set.B10 : List Nat := [0, 1, 0, 4, 0, 28, 60, 124, 255, 511, 1023]
theorem spec_l5Set.tab10 : rtab .any (opsOf Tryd.f65 10) = spec_l5Set.T10 := by kernel_rfl
theorem spec_l5Set.bits10 : waitsOk spec_l5Set.T10.2 spec_l5Set.B10 = true := by kernel_rfl
set_option maxHeartbeats 8000000 in
set_option maxRecDepth 100000 in
theorem spec_l5Set.calls (k : Nat) (A0_0 : Option Addr) (qp : Nat) (qb : List (S37)) (a1_0 : ByteArray) (a1_1 : ByteArray) (a1_2 : Bool) (r : List (S37)) (w : World) (hr0_0 : Kd.C k37 w A0_0 qb.length qb) (hc0_0 : qb.length ≤ qp) (h : spec_l5Set.f k qb a1_0 a1_1 a1_2 = some r) :
  Calls Tryd.prog 65 #[.agg #[.slice A0_0 qb.length qp], .agg #[.string a1_0, .string a1_1, .bool a1_2]] w fun e w' => ∃ v0_ : Value, e = .returned (.agg #[v0_]) ∧ Kd.R k37 37 w' w.heap.size (fun _ => True) v0_ r ∧ Below w.heap.size w w' := by
 have hu28 := Tryd.underlying28; have hu37 := Tryd.underlying37; have HR0_0 := Aside0.mk hr0_0; have HC0_0 := Aside0.mk hc0_0; clear hr0_0 hc0_0; have HB := Aside0.mk (Below.refl w.heap.size w); have H : (spec_l5Set.l0 k false 0 qb a1_0 a1_1 a1_2 ([] : List (S37))) = some r := h; clear h; have H' := Aside0.mk H; clear H
 go_enter Tryd.func65, Tryd.ntmps65
 go_wp2_with (first | ((with_reducible refine gd 2 rfl ?_); refine bx 2 28 (#[.slice A0_0 qb.length qp]) ?_; intro qr hg w3 hbox hb; refine Ya4 (below_step (be HB.out) hb) (hbox) (bs hg (be HB.out)) (bs hg (be HB.out)) ?_; clear HB; intro HB qc GW137 qi; clear hb hbox hg) | ((with_reducible refine gd 3 rfl ?_); refine bx 3 37 (#[.string a1_0, .string a1_1, .bool a1_2]) ?_; intro qh hg w4 hbox hb; refine Ya7 (bb qc hb) (below_step (be1 HB.out qi.out) hb) (hbox) (bs hg (be1 HB.out qi.out)) (bs hg (be1 HB.out qi.out)) (bl hg qc) (br hg qc) ?_; clear qc HB; intro qc HB qd GW138 qk q0 q2; clear hb hbox hg) | ((with_reducible refine gd 4 rfl ?_); refine bx 4 28 (#[.slice none 0 0]) ?_; intro qt hg w5 hbox hb; have n0_ := Aside0.mk (bb qc hb); have n1_ := Aside0.mk (bb qd hb); have n2_ := Aside0.mk (below_step (be2 HB.out qi.out qk.out) hb); have n3_ := Aside0.mk (hbox); have n4_ := Aside0.mk (bs hg (be2 HB.out qi.out qk.out)); have n5_ := Aside0.mk (bs hg (be2 HB.out qi.out qk.out)); have n6_ := Aside0.mk (bl hg qc); have n7_ := Aside0.mk (br hg qc); have n8_ := Aside0.mk (bl hg qd); have n9_ := Aside0.mk (br hg qd); clear qc; clear qd; clear HB; have qc := n0_; have qd := n1_; have HB := n2_; have qf := n3_; have GW139 := n4_; have qn := n5_; have NB137_139 := n6_; have NB139_137 := n7_; have NB138_139 := n8_; have NB139_138 := n9_; clear n0_ n1_ n2_ n3_ n4_ n5_ n6_ n7_ n8_ n9_; clear hb hbox hg) | ((with_reducible refine gd 5 rfl ?_); refine bx 5 28 (#[.slice none 0 0]) ?_; intro qj hg w6 hbox hb; have n0_ := Aside0.mk (bb qc hb); have n1_ := Aside0.mk (bb qd hb); have n2_ := Aside0.mk (bb qf hb); have n3_ := Aside0.mk (below_step (be3 HB.out qi.out qk.out qn.out) hb); have n4_ := Aside0.mk (hbox); have n5_ := Aside0.mk (bs hg (be3 HB.out qi.out qk.out qn.out)); have n6_ := Aside0.mk (bs hg (be3 HB.out qi.out qk.out qn.out)); have n7_ := Aside0.mk (bl hg qc); have n8_ := Aside0.mk (br hg qc); have n9_ := Aside0.mk (bl hg qd); have n10_ := Aside0.mk (br hg qd); have n11_ := Aside0.mk (bl hg qf); have n12_ := Aside0.mk (br hg qf); clear qc; clear qd; clear qf; clear HB; have qc := n0_; have qd := n1_; have qf := n2_; have HB := n3_; have qe := n4_; have GW140 := n5_; have qo := n6_; have qu := n7_; have qx := n8_; have qw := n9_; have qy := n10_; have qv := n11_; have qz := n12_; clear n0_ n1_ n2_ n3_ n4_ n5_ n6_ n7_ n8_ n9_ n10_ n11_ n12_; clear hb hbox hg; have hnb7 := qx.out; have hnc7 := qu.out; have hnb8 := qy.out; have hnc8 := qw.out; have hnb9 := qz.out; have hnc9 := qv.out; have ⟨hcz10_0, hfz10_0⟩ := Yc1 qe.out))
 go_loopg [6, 7] k (fun kq v6 v7 w' => ∃ (x6_1 : Bool) (qa : Int) (ql : List (S37)) (u141000 : Value), v6 = .bool x6_1 ∧ v7 = .int .i64 qa ∧ Aside0 (spec_l5Set.l0 kq x6_1 qa qb a1_0 a1_1 a1_2 ql = some r) ∧ Aside0 (kq ≤ k) ∧ Aside0 (Kd.R k37 37 w' w.heap.size (fun k_ => k_ ≠ qh) u141000 ql) ∧ Aside0 (w'.heap[qr]? = some (.cells #[(.slice A0_0 qb.length qp)] 28 (0, 0))) ∧ Aside0 (w'.heap[qh]? = some (.cells #[.string a1_0, .string a1_1, .bool a1_2] 37 (0, 0))) ∧ Aside0 (w'.heap[qt]? = some (.cells #[(.slice none 0 0)] 28 (0, 0))) ∧ Aside0 (w'.heap[qj]? = some (.cells #[u141000] 28 (0, 0))) ∧ Aside0 (Below w.heap.size w w'))
 case atStart => exact ⟨(false), (0), (([] : List (S37))), (.slice none 0 0), Ye1, Ye1, H', ⟨Nat.le_refl _⟩, ⟨nl⟩, ⟨bkf qc.out qu.out⟩, ⟨bkf qd.out qw.out⟩, ⟨bkf qf.out qv.out⟩, ⟨by (with_reducible repeat (first | apply blk_drewN | apply blk_drew | apply blk_alloc)); refine blk_put (cs := #[.slice none 0 0]) ?_ 0 _ rfl; (with_reducible repeat (first | apply blk_drewN | apply blk_drew | apply blk_alloc)); exact qe.out⟩, ⟨be4 HB.out qi.out qk.out qn.out qo.out⟩⟩
 case round =>
  clear H'; (try clear p2); (try clear c6); (try clear c7); (try clear c8); (try clear c9); (try clear hcz10_0); (try clear hfz10_0); obtain ⟨x6_1, qa, ql, u141000, rfl, rfl, HA, HK1, qg, qc, qd, qf, qe, HB⟩ := hrel
  cases gk with
  | zero => exact absurd HA.out (by simp [spec_l5Set.l0])
  | succ k1 =>
   have H := HA.out; clear HA; simp only [spec_l5Set.l0] at H
   by_cases c11 : qa < (qb.length : Int)
   ·rw [if_pos c11] at H
    have c11b0 : decide (qa < (qb.length : Int)) = true := decide_eq_true c11; clear c11; have HC12 := Aside0.mk H; clear H; have hnb13 := q0.out; have hnc13 := q2.out; have hnb14 := NB137_139.out; have hnc14 := NB139_137.out; have hnb15 := qu.out; have hnc15 := qx.out; have ⟨hcz16_0, hfz16_0⟩ := Yc1 qc.out
    go_upto_region 6 with (fail)
    go_cut [28] (fun v28 wc => ∃ (kq : Nat) (x28_11 : Bool), v28 = .bool x28_11 ∧ Aside0 (spec_l5Set.j1 kq x6_1 qa x28_11 qb a1_0 a1_1 a1_2 ql = some r) ∧ Aside0 (kq ≤ k1) ∧ Aside0 (Kd.R k37 37 wc w.heap.size (fun k_ => k_ ≠ qh) u141000 ql) ∧ Aside0 (wc.heap[qr]? = some (.cells #[(.slice A0_0 qb.length qp)] 28 (0, 0))) ∧ Aside0 (wc.heap[qh]? = some (.cells #[.string a1_0, .string a1_1, .bool a1_2] 37 (0, 0))) ∧ Aside0 (wc.heap[qt]? = some (.cells #[(.slice none 0 0)] 28 (0, 0))) ∧ Aside0 (wc.heap[qj]? = some (.cells #[u141000] 28 (0, 0))) ∧ Aside0 (Below w.heap.size w wc))
    case first =>
     have H := HC12.out; clear HC12
     by_cases c17 : x6_1 = true
     ·subst c17
      have H1 : (spec_l5Set.j1 k1 true qa false qb a1_0 a1_1 a1_2 ql) = some r := by rw [if_pos rfl] at H; exact H
      clear H; have H := H1; clear H1; have H' := Aside0.mk H; clear H
      try go_wp2
      refine Ya6 (Kd.R_drew qg.out) (blk_drew qc.out) (blk_drew qd.out) (blk_drew qf.out) (blk_drew qe.out) (below_drew1 HB.out) ?_; clear qg qc qd qf qe HB; intro qg qc qd qf qe HB; refine start_ (n := 13) (S := fun w' => True) (ds := []) (fb 13 0) (by kernel_rfl) rfl rfl trivial (fun hHeld => ?_); refine with_tabW spec_l5Set.tab6 spec_l5Set.bits6 (fun HT_ HW_ => ?_); generalize wr.drew = w18 at qg qc qd qf qe HB hHeld ⊢; refine pu 0 16 (fb 13 1) HT_ ?_; refine pu 1 17 (fb 13 3) HT_ ?_; refine pu 2 18 (fb 13 7) HT_ ?_; refine pn 3 19 (fb 13 15) HT_ ?_; refine pn 4 20 (fb 13 31) HT_ ?_; refine pn 5 21 (fb 13 63) HT_ ?_; refine pn 6 22 (fb 13 127) HT_ ?_; refine pn 7 23 (fb 13 255) HT_ ?_; refine pn 8 24 (fb 13 511) HT_ ?_; refine pn 9 25 (fb 13 1023) HT_ ?_; refine pn 10 26 (fb 13 2047) HT_ ?_; refine pn 11 27 (fb 13 4095) HT_ ?_; refine pu 12 28 (fb 13 8191) HT_ ?_; refine done_ (done_of HT_.out (by kernel_rfl)) ?_
      try go_wp2
      go_meet
      case rel => exact ⟨_, (false), Ye1, H', ⟨by have := HK1.out; first | omega | exact Nat.le_refl _⟩, ⟨kr qg.out⟩, ⟨bk qc.out⟩, ⟨bk qd.out⟩, ⟨bk qf.out⟩, ⟨bk qe.out⟩, ⟨be4 HB.out qi.out qk.out qn.out qo.out⟩⟩
     ·replace c17 := Bool.eq_false_iff.mpr c17; subst c17
      have H1 : (if 0 ≤ qa then (spec_l5Set.j1 k1 false qa (!(Op.bytesLess (((rd_T37 qb qa).f0).toList) a1_0.toList)) qb a1_0 a1_1 a1_2 ql) else (none)) = some r := by rw [if_neg (show ¬ (false = true) by decide)] at H; exact H
      clear H; have H := H1; clear H1
      by_cases c19 : 0 ≤ qa
      ·rw [if_pos c19] at H
       have c19b0 : decide (0 ≤ qa) = true := decide_eq_true c19; clear c19; (first | rw [c19b0] | (simp only [i64_w, i32_w]; rw [c19b0]) | skip); have H' := Aside0.mk H; clear H
       try go_wp2
       refine Ya6 (Kd.R_drew qg.out) (blk_drew qc.out) (blk_drew qd.out) (blk_drew qf.out) (blk_drew qe.out) (below_drew1 HB.out) ?_; clear qg qc qd qf qe HB; intro qg qc qd qf qe HB; have p144 : 0 ≤ (qa : Int) := oda; have q144 : qa < (qb.length : Int) := oda; obtain ⟨ad144, e144, hx144_0, hx144_1, hx144_2⟩ := at_T37 HR0_0.out qa p144 q144; have hw144_2 := hx144_2; have hw144_1 := hx144_1; have hw144_0 := hx144_0
       cases e144
       replace hx144_0 := pw_cell_below HB.out hx144_0; replace hx144_1 := pw_cell_below HB.out hx144_1; replace hx144_2 := pw_cell_below HB.out hx144_2; replace p144 := eq_true p144; replace q144 := eq_true q144; refine start_ (n := 13) (S := fun w' => w'.cell? ⟨qr, 0, none⟩ = some (.slice (some ad144) qb.length qp) ∧ w'.cell? ⟨qh, 0, none⟩ = some (.string a1_0) ∧ w'.cell? ⟨qh, 1, none⟩ = some (.string a1_1) ∧ w'.cell? ⟨qh, 2, none⟩ = some (.bool a1_2) ∧ w'.cell? (ad144.add ((qa).toNat * 3)) = some (.string ((rd_T37 qb qa).f0)) ∧ w'.cell? ⟨(ad144.add ((qa).toNat * 3)).block, (ad144.add ((qa).toNat * 3)).off + 1, none⟩ = some (.string ((rd_T37 qb qa).f1)) ∧ w'.cell? ⟨(ad144.add ((qa).toNat * 3)).block, (ad144.add ((qa).toNat * 3)).off + 2, none⟩ = some (.bool ((rd_T37 qb qa).f2))) (ds := []) (fb 13 0) (by kernel_rfl) rfl rfl ⟨(blk_cell qc.out 0).trans rfl, (blk_cell qd.out 0).trans rfl, (blk_cell qd.out 1).trans rfl, (blk_cell qd.out 2).trans rfl, (pw_cell_below HB.out hw144_0), (pw_cell_below HB.out hw144_1), (pw_cell_below HB.out hw144_2)⟩ (fun hHeld => ?_); refine with_tabW spec_l5Set.tab6 spec_l5Set.bits6 (fun HT_ HW_ => ?_); generalize wr.drew = w20 at qg qc qd qf qe HB hx144_0 hx144_1 hx144_2 hHeld ⊢; refine pu 0 16 (fb 13 1) HT_ ?_; refine pu 1 17 (fb 13 3) HT_ ?_; refine pu 2 18 (fb 13 7) HT_ ?_; refine pu 3 19 (fb 13 15) HT_ ?_; refine pu 5 21 (fb 13 47) HT_ ?_; refine pu 9 25 (fb 13 559) HT_ ?_; refine tk 4 20 (fb 13 575) HT_ HW_ hHeld ?_; refine pu 6 22 (fb 13 639) HT_ ?_; refine pu 7 23 (fb 13 767) HT_ ?_; refine tk 8 24 (fb 13 1023) HT_ HW_ hHeld ?_; refine tk 10 26 (fb 13 2047) HT_ HW_ hHeld ?_; refine pu 11 27 (fb 13 4095) HT_ ?_; refine pu 12 28 (fb 13 8191) HT_ ?_; refine done_ (done_of HT_.out (by kernel_rfl)) ?_
       try go_wp2
       go_meet
       case rel => exact ⟨_, (!(Op.bytesLess (((rd_T37 qb qa).f0).toList) a1_0.toList)), Ye1, H', ⟨by have := HK1.out; first | omega | exact Nat.le_refl _⟩, ⟨kr qg.out⟩, ⟨bk qc.out⟩, ⟨bk qd.out⟩, ⟨bk qf.out⟩, ⟨bk qe.out⟩, ⟨be4 HB.out qi.out qk.out qn.out qo.out⟩⟩
      ·rw [if_neg c19] at H
       exact absurd H (by simp)
    case rest =>
     clear HC12; (try clear c1); (try clear p1); (try clear q1); (try clear hx1); (try clear p2); (try clear c6); (try clear c7); (try clear c8); (try clear c9); (try clear c11); (try clear c11b0); (try clear c13); (try clear c14); (try clear p14); (try clear q14); (try clear hx14); (try clear c15); (try clear c17); (try clear c19); (try clear c19b0); (try clear hcz10_0); (try clear hcz16_0); (try clear hfz10_0); (try clear hfz16_0); (try clear hx144_0); (try clear hx144_1); (try clear hx144_2); (try clear p144); (try clear p2); (try clear q144); obtain ⟨kq, x28_11, rfl, HA, HJ11, qg, qc, qd, qf, qe, HB⟩ := hcut
     cases kq with
     | zero => exact absurd HA.out (by simp [spec_l5Set.j1])
     | succ kj11 =>
      have H := HA.out; clear HA; simp only [spec_l5Set.j1] at H
      by_cases c21 : x28_11 = true
      ·subst c21
       have H1 : (if ql.length < 3518437208883 then ((some (ql ++ [(⟨a1_0, a1_1, a1_2⟩ : S37)] : List (S37))).bind fun y145 => (if 0 ≤ qa then (if qa < (qb.length : Int) then (if ((rd_T37 qb qa).f0).toList = a1_0.toList then (spec_l5Set.l0 kj11 true (wrap64 (qa + 1)) qb a1_0 a1_1 a1_2 y145) else (if y145.length < 3518437208883 then (spec_l5Set.l0 kj11 true (wrap64 (qa + 1)) qb a1_0 a1_1 a1_2 (y145 ++ [(⟨(rd_T37 qb qa).f0, (rd_T37 qb qa).f1, (rd_T37 qb qa).f2⟩ : S37)])) else (none))) else (none)) else (none))) else (none)) = some r := by rw [if_pos rfl] at H; exact H
       clear H; have H := H1; clear H1
       by_cases c22 : ql.length < 3518437208883
       ·rw [if_pos c22] at H
        have LMc22 := Aside0.mk c22; clear c22
        obtain ⟨y145, hy145⟩ : ∃ y_ : List (S37), y_ = (ql ++ [(⟨a1_0, a1_1, a1_2⟩ : S37)]) := ⟨_, rfl⟩
        replace H : (if 0 ≤ qa then (if qa < (qb.length : Int) then (if ((rd_T37 qb qa).f0).toList = a1_0.toList then (spec_l5Set.l0 kj11 true (wrap64 (qa + 1)) qb a1_0 a1_1 a1_2 y145) else (if y145.length < 3518437208883 then (spec_l5Set.l0 kj11 true (wrap64 (qa + 1)) qb a1_0 a1_1 a1_2 (y145 ++ [(⟨(rd_T37 qb qa).f0, (rd_T37 qb qa).f1, (rd_T37 qb qa).f2⟩ : S37)])) else (none))) else (none)) else (none)) = some r := by first | (rw [hy145]; with_reducible exact H) | (have H2_ := (Option.bind_some _ _).symm.trans H; rw [hy145]; with_reducible exact H2_) | (have H2_ := (Option.bind_some _ _).symm.trans H; with_reducible exact H2_) | with_reducible exact H | (rw [hy145]; exact H) | exact H
        have Ny145 := Aside0.mk hy145; clear hy145
        by_cases c23 : 0 ≤ qa
        ·rw [if_pos c23] at H
         have c23b0 : decide (0 ≤ qa) = true := decide_eq_true c23; clear c23
         by_cases c24 : qa < (qb.length : Int)
         ·rw [if_pos c24] at H
          have c24b0 : decide (qa < (qb.length : Int)) = true := decide_eq_true c24; clear c24
          by_cases c25 : ((rd_T37 qb qa).f0).toList = a1_0.toList
          ·rw [if_pos c25] at H
           have c25b0 : (((rd_T37 qb qa).f0).toList == a1_0.toList) = true := beq_iff_eq.mpr c25; have c25b1 : (((rd_T37 qb qa).f0).toList != a1_0.toList) = false := bne_eq_false_iff_eq.mpr c25; clear c25; have H' := Aside0.mk H; clear H; have hnb26 := qx.out; have hnc26 := qu.out; have hnb27 := qy.out; have hnc27 := qw.out; have hnb28 := qz.out; have hnc28 := qv.out; have ⟨hcz29_0, hfz29_0⟩ := Yc1 qe.out; have hnb30 := q2.out; have hnc30 := q0.out; have hnb31 := NB138_139.out; have hnc31 := NB139_138.out; have ⟨hcz32_0, hcz32_1, hcz32_2, hfz32_0, hfz32_1, hfz32_2⟩ := Yc3 qd.out
           try go_wp2_with (first | ((with_reducible refine gate_builtin (b := .append) (xs := #[.tmp 30, .tmp 32]) rfl ?_); at_builtin; refine Kd.R_append k37 (w0 := w) w.heap.size rfl (.tmp 30) (.tmp 32) 26 37 (.agg #[(.string ⟨#[]⟩), (.string ⟨#[]⟩), (.bool false)]) 40 rfl Tryd.underlying26 info37 rfl (by decide) (by omega) u141000 ql (⟨a1_0, a1_1, a1_2⟩ : S37) [.string a1_0, .string a1_1, .bool a1_2] (fun k_ => k_ ≠ qh) (fun _ => False) rfl rfl ?aP (fun _ hk => hk.elim) ?aF ?aO ?aB ?aS ?aL ?_; (case aP => exact k37_mkM _ _ _ (⟨a1_0, a1_1, a1_2⟩ : S37)); (case aB => exact (be4 HB.out qi.out qk.out qn.out qo.out)); (case aF => exact (fun k_ hk => Kd.freshB (g := qh) (o := .cells #[.string a1_0, .string a1_1, .bool a1_2] 37 (0, 0)) (bk qd.out) k_ hk)); (case aO => exact (kr qg.out)); (case aS => exact (below_size (be4 HB.out qi.out qk.out qn.out qo.out))); (case aL => have := LMc22.out; omega); intro v146 w33 ho hb hg hat; rw [← Ny145.out] at ho; refine Ya6 (blk_grown (g := qr) (o := .cells #[.slice A0_0 qb.length qp] 28 (0, 0)) (bk qc.out) hg (Kd.R_ne qg.out qc.out (by decide))) (blk_grown (g := qh) (o := .cells #[.string a1_0, .string a1_1, .bool a1_2] 37 (0, 0)) (bk qd.out) hg (Kd.R_away qg.out (fun _ hk => hk))) (blk_grown (g := qt) (o := .cells #[.slice none 0 0] 28 (0, 0)) (bk qf.out) hg (Kd.R_ne qg.out qf.out (by decide))) (blk_grown (g := qj) (o := .cells #[u141000] 28 (0, 0)) (bk qe.out) hg (Kd.R_ne qg.out qe.out (by decide))) (hb) (ho) ?_; clear qc qd qf qe HB qg; intro qc qd qf qe HB qm; clear ho hb hg hat; obtain ⟨Ao34, co34, eo34⟩ := Kd.R_slice qm.out; subst eo34; have ⟨hcz35_0, hfz35_0⟩ := Yc1 qe.out))
           have n0_ : Aside0 (Kd.R k37 37 (w33.setCell ⟨qj, 0, none⟩ (.slice Ao34 y145.length co34)) w.heap.size (fun k_ => k_ ≠ qh) (.slice Ao34 y145.length co34) y145) := ⟨by (with_reducible repeat (first | apply Kd.R_alloc | apply Kd.R_drewN | apply Kd.R_drew)); exact Kd.R_mono (Kd.R_far (p := ⟨qj, 0, none⟩) (Kd.R_types qm.out qe.out (by decide)) (fun _ hk => hk.2) (.slice Ao34 y145.length co34)) (fun _ hk => hk.1)⟩
           have n1_ : Aside0 ((w33.setCell ⟨qj, 0, none⟩ (.slice Ao34 y145.length co34)).heap[qr]? = some (.cells #[.slice A0_0 qb.length qp] 28 (0, 0))) := ⟨bkf qc.out qu.out⟩
           have n2_ : Aside0 ((w33.setCell ⟨qj, 0, none⟩ (.slice Ao34 y145.length co34)).heap[qh]? = some (.cells #[.string a1_0, .string a1_1, .bool a1_2] 37 (0, 0))) := ⟨bkf qd.out qw.out⟩
           have n3_ : Aside0 ((w33.setCell ⟨qj, 0, none⟩ (.slice Ao34 y145.length co34)).heap[qt]? = some (.cells #[.slice none 0 0] 28 (0, 0))) := ⟨bkf qf.out qv.out⟩
           have n4_ : Aside0 ((w33.setCell ⟨qj, 0, none⟩ (.slice Ao34 y145.length co34)).heap[qj]? = some (.cells #[.slice Ao34 y145.length co34] 28 (0, 0))) := ⟨by (with_reducible repeat (first | apply blk_drewN | apply blk_drew | apply blk_alloc)); refine blk_put (cs := #[u141000]) ?_ 0 _ rfl; (with_reducible repeat (first | apply blk_drewN | apply blk_drew | apply blk_alloc)); exact qe.out⟩
           have n5_ : Aside0 (Below w.heap.size w (w33.setCell ⟨qj, 0, none⟩ (.slice Ao34 y145.length co34))) := ⟨be4 HB.out qi.out qk.out qn.out qo.out⟩
           (try clear qm); (try clear qc); (try clear qd); (try clear qf); (try clear qe); (try clear HB); generalize (w33.setCell ⟨qj, 0, none⟩ (.slice Ao34 y145.length co34)) = w36 at n0_ n1_ n2_ n3_ n4_ n5_ ⊢; have qm := n0_; have qc := n1_; have qd := n2_; have qf := n3_; have qe := n4_; have HB := n5_; clear n0_ n1_ n2_ n3_ n4_ n5_; refine Ya6 (Kd.R_drew qm.out) (blk_drew qc.out) (blk_drew qd.out) (blk_drew qf.out) (blk_drew qe.out) (below_drew1 HB.out) ?_; clear qm qc qd qf qe HB; intro qm qc qd qf qe HB; have p148 : 0 ≤ (qa : Int) := oda; have q148 : qa < (qb.length : Int) := oda; obtain ⟨ad148, e148, hx148_0, hx148_1, hx148_2⟩ := at_T37 HR0_0.out qa p148 q148; have hw148_2 := hx148_2; have hw148_1 := hx148_1; have hw148_0 := hx148_0
           cases e148
           replace hx148_0 := pw_cell_below HB.out hx148_0; replace hx148_1 := pw_cell_below HB.out hx148_1; replace hx148_2 := pw_cell_below HB.out hx148_2; replace p148 := eq_true p148; replace q148 := eq_true q148; refine start_ (n := 9) (S := fun w' => w'.cell? ⟨qr, 0, none⟩ = some (.slice (some ad148) qb.length qp) ∧ w'.cell? ⟨qh, 0, none⟩ = some (.string a1_0) ∧ w'.cell? ⟨qh, 1, none⟩ = some (.string a1_1) ∧ w'.cell? ⟨qh, 2, none⟩ = some (.bool a1_2) ∧ w'.cell? (ad148.add ((qa).toNat * 3)) = some (.string ((rd_T37 qb qa).f0)) ∧ w'.cell? ⟨(ad148.add ((qa).toNat * 3)).block, (ad148.add ((qa).toNat * 3)).off + 1, none⟩ = some (.string ((rd_T37 qb qa).f1)) ∧ w'.cell? ⟨(ad148.add ((qa).toNat * 3)).block, (ad148.add ((qa).toNat * 3)).off + 2, none⟩ = some (.bool ((rd_T37 qb qa).f2))) (ds := []) (fb 9 0) (by kernel_rfl) rfl rfl ⟨(blk_cell qc.out 0).trans rfl, (blk_cell qd.out 0).trans rfl, (blk_cell qd.out 1).trans rfl, (blk_cell qd.out 2).trans rfl, (pw_cell_below HB.out hw148_0), (pw_cell_below HB.out hw148_1), (pw_cell_below HB.out hw148_2)⟩ (fun hHeld => ?_); refine with_tabW spec_l5Set.tab9 spec_l5Set.bits9 (fun HT_ HW_ => ?_); generalize w36.drew = w37 at qm qc qd qf qe HB hx148_0 hx148_1 hx148_2 hHeld ⊢; refine pu 0 35 (fb 9 1) HT_ ?_; refine pu 2 37 (fb 9 5) HT_ ?_; refine pu 6 41 (fb 9 69) HT_ ?_; refine tk 1 36 (fb 9 71) HT_ HW_ hHeld ?_; refine pu 3 38 (fb 9 79) HT_ ?_; refine pu 4 39 (fb 9 95) HT_ ?_; refine tk 5 40 (fb 9 127) HT_ HW_ hHeld ?_; refine tk 7 42 (fb 9 255) HT_ HW_ hHeld ?_; refine pu 8 43 (fb 9 511) HT_ ?_; refine done_ (done_of HT_.out (by kernel_rfl)) ?_
           try go_wp2
           go_roundg kj11
           case measure => have := HK1.out; have := HJ11.out; omega
           case rel => exact ⟨(true), (wrap64 (qa + 1)), (y145), (.slice Ao34 y145.length co34), Ye1, Ye1, H', ⟨by have := HK1.out; have := HJ11.out; omega⟩, ⟨kr qm.out⟩, ⟨bk qc.out⟩, ⟨bk qd.out⟩, ⟨bk qf.out⟩, ⟨bk qe.out⟩, ⟨be4 HB.out qi.out qk.out qn.out qo.out⟩⟩
          ·rw [if_neg c25] at H
           have c25b0 : (((rd_T37 qb qa).f0).toList == a1_0.toList) = false := beq_eq_false_iff_ne.mpr c25; have c25b1 : (((rd_T37 qb qa).f0).toList != a1_0.toList) = true := bne_iff_ne.mpr c25
           by_cases c38 : y145.length < 3518437208883
           ·rw [if_pos c38] at H
            have LMc38 := Aside0.mk c38; clear c38
            obtain ⟨y150, hy150⟩ : ∃ y_ : List (S37), y_ = (y145 ++ [(⟨(rd_T37 qb qa).f0, (rd_T37 qb qa).f1, (rd_T37 qb qa).f2⟩ : S37)]) := ⟨_, rfl⟩
            replace H : (spec_l5Set.l0 kj11 true (wrap64 (qa + 1)) qb a1_0 a1_1 a1_2 y150) = some r := by first | (rw [hy150]; with_reducible exact H) | (have H2_ := (Option.bind_some _ _).symm.trans H; rw [hy150]; with_reducible exact H2_) | (have H2_ := (Option.bind_some _ _).symm.trans H; with_reducible exact H2_) | with_reducible exact H | (rw [hy150]; exact H) | exact H
            have Ny150 := Aside0.mk hy150; clear hy150; have H' := Aside0.mk H; clear H; have hnb39 := qx.out; have hnc39 := qu.out; have hnb40 := qy.out; have hnc40 := qw.out; have hnb41 := qz.out; have hnc41 := qv.out; have ⟨hcz42_0, hfz42_0⟩ := Yc1 qe.out; have hnb43 := q2.out; have hnc43 := q0.out; have hnb44 := NB138_139.out; have hnc44 := NB139_138.out; have ⟨hcz45_0, hcz45_1, hcz45_2, hfz45_0, hfz45_1, hfz45_2⟩ := Yc3 qd.out
            try go_wp2_with (first | ((with_reducible refine gate_builtin (b := .append) (xs := #[.tmp 30, .tmp 32]) rfl ?_); at_builtin; refine Kd.R_append k37 (w0 := w) w.heap.size rfl (.tmp 30) (.tmp 32) 26 37 (.agg #[(.string ⟨#[]⟩), (.string ⟨#[]⟩), (.bool false)]) 40 rfl Tryd.underlying26 info37 rfl (by decide) (by omega) u141000 ql (⟨a1_0, a1_1, a1_2⟩ : S37) [.string a1_0, .string a1_1, .bool a1_2] (fun k_ => k_ ≠ qh) (fun _ => False) rfl rfl ?aP (fun _ hk => hk.elim) ?aF ?aO ?aB ?aS ?aL ?_; (case aP => exact k37_mkM _ _ _ (⟨a1_0, a1_1, a1_2⟩ : S37)); (case aB => exact (be4 HB.out qi.out qk.out qn.out qo.out)); (case aF => exact (fun k_ hk => Kd.freshB (g := qh) (o := .cells #[.string a1_0, .string a1_1, .bool a1_2] 37 (0, 0)) (bk qd.out) k_ hk)); (case aO => exact (kr qg.out)); (case aS => exact (below_size (be4 HB.out qi.out qk.out qn.out qo.out))); (case aL => have := LMc22.out; omega); intro v146 w46 ho hb hg hat; rw [← Ny145.out] at ho; refine Ya6 (blk_grown (g := qr) (o := .cells #[.slice A0_0 qb.length qp] 28 (0, 0)) (bk qc.out) hg (Kd.R_ne qg.out qc.out (by decide))) (blk_grown (g := qh) (o := .cells #[.string a1_0, .string a1_1, .bool a1_2] 37 (0, 0)) (bk qd.out) hg (Kd.R_away qg.out (fun _ hk => hk))) (blk_grown (g := qt) (o := .cells #[.slice none 0 0] 28 (0, 0)) (bk qf.out) hg (Kd.R_ne qg.out qf.out (by decide))) (blk_grown (g := qj) (o := .cells #[u141000] 28 (0, 0)) (bk qe.out) hg (Kd.R_ne qg.out qe.out (by decide))) (hb) (ho) ?_; clear qc qd qf qe HB qg; intro qc qd qf qe HB qm; clear ho hb hg hat; obtain ⟨Ao47, co47, eo47⟩ := Kd.R_slice qm.out; subst eo47; have ⟨hcz48_0, hfz48_0⟩ := Yc1 qe.out))
            have n0_ : Aside0 (Kd.R k37 37 (w46.setCell ⟨qj, 0, none⟩ (.slice Ao47 y145.length co47)) w.heap.size (fun k_ => k_ ≠ qh) (.slice Ao47 y145.length co47) y145) := ⟨by (with_reducible repeat (first | apply Kd.R_alloc | apply Kd.R_drewN | apply Kd.R_drew)); exact Kd.R_mono (Kd.R_far (p := ⟨qj, 0, none⟩) (Kd.R_types qm.out qe.out (by decide)) (fun _ hk => hk.2) (.slice Ao47 y145.length co47)) (fun _ hk => hk.1)⟩
            have n1_ : Aside0 ((w46.setCell ⟨qj, 0, none⟩ (.slice Ao47 y145.length co47)).heap[qr]? = some (.cells #[.slice A0_0 qb.length qp] 28 (0, 0))) := ⟨bkf qc.out qu.out⟩
            have n2_ : Aside0 ((w46.setCell ⟨qj, 0, none⟩ (.slice Ao47 y145.length co47)).heap[qh]? = some (.cells #[.string a1_0, .string a1_1, .bool a1_2] 37 (0, 0))) := ⟨bkf qd.out qw.out⟩
            have n3_ : Aside0 ((w46.setCell ⟨qj, 0, none⟩ (.slice Ao47 y145.length co47)).heap[qt]? = some (.cells #[.slice none 0 0] 28 (0, 0))) := ⟨bkf qf.out qv.out⟩
            have n4_ : Aside0 ((w46.setCell ⟨qj, 0, none⟩ (.slice Ao47 y145.length co47)).heap[qj]? = some (.cells #[.slice Ao47 y145.length co47] 28 (0, 0))) := ⟨by (with_reducible repeat (first | apply blk_drewN | apply blk_drew | apply blk_alloc)); refine blk_put (cs := #[u141000]) ?_ 0 _ rfl; (with_reducible repeat (first | apply blk_drewN | apply blk_drew | apply blk_alloc)); exact qe.out⟩
            have n5_ : Aside0 (Below w.heap.size w (w46.setCell ⟨qj, 0, none⟩ (.slice Ao47 y145.length co47))) := ⟨be4 HB.out qi.out qk.out qn.out qo.out⟩
            (try clear qm); (try clear qc); (try clear qd); (try clear qf); (try clear qe); (try clear HB); generalize (w46.setCell ⟨qj, 0, none⟩ (.slice Ao47 y145.length co47)) = w49 at n0_ n1_ n2_ n3_ n4_ n5_ ⊢; have qm := n0_; have qc := n1_; have qd := n2_; have qf := n3_; have qe := n4_; have HB := n5_; clear n0_ n1_ n2_ n3_ n4_ n5_; refine Ya6 (Kd.R_drew qm.out) (blk_drew qc.out) (blk_drew qd.out) (blk_drew qf.out) (blk_drew qe.out) (below_drew1 HB.out) ?_; clear qm qc qd qf qe HB; intro qm qc qd qf qe HB; have p148 : 0 ≤ (qa : Int) := oda; have q148 : qa < (qb.length : Int) := oda; obtain ⟨ad148, e148, hx148_0, hx148_1, hx148_2⟩ := at_T37 HR0_0.out qa p148 q148; have hw148_2 := hx148_2; have hw148_1 := hx148_1; have hw148_0 := hx148_0
            cases e148
            replace hx148_0 := pw_cell_below HB.out hx148_0; replace hx148_1 := pw_cell_below HB.out hx148_1; replace hx148_2 := pw_cell_below HB.out hx148_2; replace p148 := eq_true p148; replace q148 := eq_true q148; refine start_ (n := 9) (S := fun w' => w'.cell? ⟨qr, 0, none⟩ = some (.slice (some ad148) qb.length qp) ∧ w'.cell? ⟨qh, 0, none⟩ = some (.string a1_0) ∧ w'.cell? ⟨qh, 1, none⟩ = some (.string a1_1) ∧ w'.cell? ⟨qh, 2, none⟩ = some (.bool a1_2) ∧ w'.cell? (ad148.add ((qa).toNat * 3)) = some (.string ((rd_T37 qb qa).f0)) ∧ w'.cell? ⟨(ad148.add ((qa).toNat * 3)).block, (ad148.add ((qa).toNat * 3)).off + 1, none⟩ = some (.string ((rd_T37 qb qa).f1)) ∧ w'.cell? ⟨(ad148.add ((qa).toNat * 3)).block, (ad148.add ((qa).toNat * 3)).off + 2, none⟩ = some (.bool ((rd_T37 qb qa).f2))) (ds := []) (fb 9 0) (by kernel_rfl) rfl rfl ⟨(blk_cell qc.out 0).trans rfl, (blk_cell qd.out 0).trans rfl, (blk_cell qd.out 1).trans rfl, (blk_cell qd.out 2).trans rfl, (pw_cell_below HB.out hw148_0), (pw_cell_below HB.out hw148_1), (pw_cell_below HB.out hw148_2)⟩ (fun hHeld => ?_); refine with_tabW spec_l5Set.tab9 spec_l5Set.bits9 (fun HT_ HW_ => ?_); generalize w49.drew = w50 at qm qc qd qf qe HB hx148_0 hx148_1 hx148_2 hHeld ⊢; refine pu 0 35 (fb 9 1) HT_ ?_; refine pu 2 37 (fb 9 5) HT_ ?_; refine pu 6 41 (fb 9 69) HT_ ?_; refine tk 1 36 (fb 9 71) HT_ HW_ hHeld ?_; refine pu 3 38 (fb 9 79) HT_ ?_; refine pu 4 39 (fb 9 95) HT_ ?_; refine tk 5 40 (fb 9 127) HT_ HW_ hHeld ?_; refine tk 7 42 (fb 9 255) HT_ HW_ hHeld ?_; refine pu 8 43 (fb 9 511) HT_ ?_; refine done_ (done_of HT_.out (by kernel_rfl)) ?_
            try go_wp2
            refine Ya6 (Kd.R_drew qm.out) (blk_drew qc.out) (blk_drew qd.out) (blk_drew qf.out) (blk_drew qe.out) (below_drew1 HB.out) ?_; clear qm qc qd qf qe HB; intro qm qc qd qf qe HB; have p149 : 0 ≤ (qa : Int) := oda; have q149 : qa < (qb.length : Int) := oda; obtain ⟨ad149, e149, hx149_0, hx149_1, hx149_2⟩ := at_T37 HR0_0.out qa p149 q149; have hw149_2 := hx149_2; have hw149_1 := hx149_1; have hw149_0 := hx149_0
            obtain rfl : ad148 = ad149 := (by injection e149)
            replace hx149_0 := pw_cell_below HB.out hx149_0; replace hx149_1 := pw_cell_below HB.out hx149_1; replace hx149_2 := pw_cell_below HB.out hx149_2; replace p149 := eq_true p149; replace q149 := eq_true q149; refine start_ (n := 11) (S := fun w' => w'.cell? ⟨qj, 0, none⟩ = some (.slice Ao47 y145.length co47) ∧ w'.cell? ⟨qr, 0, none⟩ = some (.slice (some ad148) qb.length qp) ∧ w'.cell? (ad148.add ((qa).toNat * 3)) = some (.string ((rd_T37 qb qa).f0)) ∧ w'.cell? ⟨(ad148.add ((qa).toNat * 3)).block, (ad148.add ((qa).toNat * 3)).off + 1, none⟩ = some (.string ((rd_T37 qb qa).f1)) ∧ w'.cell? ⟨(ad148.add ((qa).toNat * 3)).block, (ad148.add ((qa).toNat * 3)).off + 2, none⟩ = some (.bool ((rd_T37 qb qa).f2))) (ds := [10]) (fb 11 0) (by kernel_rfl) rfl rfl ⟨(blk_cell qe.out 0).trans rfl, (blk_cell qc.out 0).trans rfl, (pw_cell_below HB.out hw149_0), (pw_cell_below HB.out hw149_1), (pw_cell_below HB.out hw149_2)⟩ (fun hHeld => ?_); refine with_tabW spec_l5Set.tab10 spec_l5Set.bits10 (fun HT_ HW_ => ?_); generalize w50.drew = w51 at qm qc qd qf qe HB hx149_0 hx149_1 hx149_2 hHeld ⊢; refine pu 0 44 (fb 11 1) HT_ ?_; refine pu 2 46 (fb 11 5) HT_ ?_; refine pu 4 48 (fb 11 21) HT_ ?_; refine tk 1 45 (fb 11 23) HT_ HW_ hHeld ?_; refine tk 3 47 (fb 11 31) HT_ HW_ hHeld ?_; refine pu 5 49 (fb 11 63) HT_ ?_; refine tk 6 50 (fb 11 127) HT_ HW_ hHeld ?_; refine one_ (i := 7) (N := some 51) (fb 11 255) rfl rfl (one_of HT_.out (by kernel_rfl)) (by decide) (fun K hK => ?_); refine value_ (w1 := ?_) (v := ?_) (by rfl) rfl ?_ ?_; rotate_left 2
            ·go_simp
             constructor
             ·rfl
             ·rfl
            refine hK.out _ _ ⟨(blk_cell (blk_alloc qe.out _) 0).trans rfl, (blk_cell (blk_alloc qc.out _) 0).trans rfl, (World.cell?_alloc_lt _ _ _ (World.block_lt_of_cell? _ _ ((pw_cell_below HB.out hw149_0)))).trans ((pw_cell_below HB.out hw149_0)), (World.cell?_alloc_lt _ _ _ (World.block_lt_of_cell? _ _ ((pw_cell_below HB.out hw149_1)))).trans ((pw_cell_below HB.out hw149_1)), (World.cell?_alloc_lt _ _ _ (World.block_lt_of_cell? _ _ ((pw_cell_below HB.out hw149_2)))).trans ((pw_cell_below HB.out hw149_2))⟩ (fun hHeld => ?_); clear hK K; refine norm_ (a' := ?_) ?_ ?_; rotate_left
            ·show Act.put _ (some 51) _ = _
             simp only [Act.put, List.setIfInBounds_toArray, List.set_cons_zero, List.set_cons_succ, i64_w, i32_w]; rfl
            refine one_ (i := 8) (N := some 52) (fb 11 511) rfl rfl (one_of HT_.out (by kernel_rfl)) (by decide) (fun K hK => ?_); refine Kd.R_append_step k37 (w0 := w) w.heap.size (by rfl) (.tmp 45) (.tmp 51) 26 37 (.agg #[(.string ⟨#[]⟩), (.string ⟨#[]⟩), (.bool false)]) 40 rfl Tryd.underlying26 info37 rfl (by decide) (by omega) (.slice Ao47 y145.length co47) y145 (⟨(rd_T37 qb qa).f0, (rd_T37 qb qa).f1, (rd_T37 qb qa).f2⟩ : S37) [.string ((rd_T37 qb qa).f0), .string ((rd_T37 qb qa).f1), .bool ((rd_T37 qb qa).f2)] (fun k_ => k_ ≠ qh) (fun _ => False) rfl rfl ?aP (fun _ hk => hk.elim) ?aF ?aO ?aB ?aS ?aL ?_; (case aP => exact k37_mkM _ _ _ (⟨(rd_T37 qb qa).f0, (rd_T37 qb qa).f1, (rd_T37 qb qa).f2⟩ : S37)); (case aB => exact (be4 HB.out qi.out qk.out qn.out qo.out)); (case aF => exact (fun k_ hk => Kd.freshB (g := qh) (o := .cells #[.string a1_0, .string a1_1, .bool a1_2] 37 (0, 0)) (bk qd.out) k_ hk)); (case aO => exact (kr qm.out)); (case aS => exact (below_size (be4 HB.out qi.out qk.out qn.out qo.out))); (case aL => have := LMc38.out; omega); intro v151 w52 ho hb hg hat
            rw [← Ny150.out] at ho
            refine Ya6 (blk_grown (g := qr) (o := .cells #[.slice (some ad148) qb.length qp] 28 (0, 0)) (bk qc.out) hg (Kd.R_ne qm.out qc.out (by decide))) (blk_grown (g := qh) (o := .cells #[.string a1_0, .string a1_1, .bool a1_2] 37 (0, 0)) (bk qd.out) hg (Kd.R_away qm.out (fun _ hk => hk))) (blk_grown (g := qt) (o := .cells #[.slice none 0 0] 28 (0, 0)) (bk qf.out) hg (Kd.R_ne qm.out qf.out (by decide))) (blk_grown (g := qj) (o := .cells #[.slice Ao47 y145.length co47] 28 (0, 0)) (bk qe.out) hg (Kd.R_ne qm.out qe.out (by decide))) (hb) (ho) ?_; clear qc qd qf qe HB qm; intro qc qd qf qe HB HO152; clear ho hb hg hat; obtain ⟨Ao53, co53, eo53⟩ := Kd.R_slice HO152.out; (first | subst eo53 | (injection eo53 with f1_ f2_ f3_; have f4_ := f1_.symm; have f5_ := f3_.symm; clear f1_ f2_ f3_; subst f4_; subst f5_)); refine hK.out _ _ ⟨(blk_cell qe.out 0).trans rfl, (blk_cell qc.out 0).trans rfl, (pw_cell_below HB.out hw149_0), (pw_cell_below HB.out hw149_1), (pw_cell_below HB.out hw149_2)⟩ (fun hHeld => ?_); clear hK K; refine norm_ (a' := ?_) ?_ ?_; rotate_left
            ·show Act.put _ (some 52) _ = _
             simp only [Act.put, List.setIfInBounds_toArray, List.set_cons_zero, List.set_cons_succ, i64_w, i32_w]; rfl
            refine pu 9 53 (fb 11 1023) HT_ ?_; refine last_ (i := 10) (N := none) (fb 11 2047) rfl rfl (one_of HT_.out (by kernel_rfl)) (by decide) (fun K hK => ?_); have hs54 : w52.cell? ⟨qj, 0, none⟩ = some (.slice Ao47 y145.length co47) := (blk_cell qe.out 0).trans rfl; have hfs54 := blk_frozen qe.out 0; have hns54_0 := qu.out; have hns54_1 := qw.out; have hns54_2 := qv.out; have hms54_0 := qx.out; have hms54_1 := qy.out; have hms54_2 := qz.out; refine skip_ (w1 := ?_) (by rfl) rfl ?_ ?_; rotate_left
            ·go_simp; rfl
            refine hK.out _ _ ?_; clear hK K; refine done_ (done_of HT_.out (by kernel_rfl)) ?_
            try go_wp2
            go_roundg kj11
            case measure => have := HK1.out; have := HJ11.out; omega
            case rel => exact ⟨(true), (wrap64 (qa + 1)), (y150), (.slice Ao53 y150.length co53), Ye1, Ye1, H', ⟨by have := HK1.out; have := HJ11.out; omega⟩, ⟨by (with_reducible repeat (first | apply Kd.R_alloc | apply Kd.R_drewN | apply Kd.R_drew)); exact Kd.R_mono (Kd.R_far (p := ⟨qj, 0, none⟩) (Kd.R_types HO152.out qe.out (by decide)) (fun _ hk => hk.2) (.slice Ao53 y150.length co53)) (fun _ hk => hk.1)⟩, ⟨bkf qc.out qu.out⟩, ⟨bkf qd.out qw.out⟩, ⟨bkf qf.out qv.out⟩, ⟨by (with_reducible repeat (first | apply blk_drewN | apply blk_drew | apply blk_alloc)); refine blk_put (cs := #[.slice Ao47 y145.length co47]) ?_ 0 _ rfl; (with_reducible repeat (first | apply blk_drewN | apply blk_drew | apply blk_alloc)); exact qe.out⟩, ⟨be4 HB.out qi.out qk.out qn.out qo.out⟩⟩
           ·rw [if_neg c38] at H
            exact absurd H (by simp)
         ·rw [if_neg c24] at H
          exact absurd H (by simp)
        ·rw [if_neg c23] at H
         exact absurd H (by simp)
       ·rw [if_neg c22] at H
        exact absurd H (by simp)
      ·replace c21 := Bool.eq_false_iff.mpr c21; subst c21
       have H1 : (if 0 ≤ qa then (if qa < (qb.length : Int) then (if ((rd_T37 qb qa).f0).toList = a1_0.toList then (spec_l5Set.l0 kj11 x6_1 (wrap64 (qa + 1)) qb a1_0 a1_1 a1_2 ql) else (if ql.length < 3518437208883 then (spec_l5Set.l0 kj11 x6_1 (wrap64 (qa + 1)) qb a1_0 a1_1 a1_2 (ql ++ [(⟨(rd_T37 qb qa).f0, (rd_T37 qb qa).f1, (rd_T37 qb qa).f2⟩ : S37)])) else (none))) else (none)) else (none)) = some r := by rw [if_neg (show ¬ (false = true) by decide)] at H; exact H
       clear H; have H := H1; clear H1
       by_cases c55 : 0 ≤ qa
       ·rw [if_pos c55] at H
        have c55b0 : decide (0 ≤ qa) = true := decide_eq_true c55; clear c55
        by_cases c56 : qa < (qb.length : Int)
        ·rw [if_pos c56] at H
         have c56b0 : decide (qa < (qb.length : Int)) = true := decide_eq_true c56; clear c56
         by_cases c57 : ((rd_T37 qb qa).f0).toList = a1_0.toList
         ·rw [if_pos c57] at H
          have c57b0 : (((rd_T37 qb qa).f0).toList == a1_0.toList) = true := beq_iff_eq.mpr c57; have c57b1 : (((rd_T37 qb qa).f0).toList != a1_0.toList) = false := bne_eq_false_iff_eq.mpr c57; clear c57; have H' := Aside0.mk H; clear H
          try go_wp2
          refine Ya6 (Kd.R_drew qg.out) (blk_drew qc.out) (blk_drew qd.out) (blk_drew qf.out) (blk_drew qe.out) (below_drew1 HB.out) ?_; clear qg qc qd qf qe HB; intro qg qc qd qf qe HB; have p153 : 0 ≤ (qa : Int) := oda; have q153 : qa < (qb.length : Int) := oda; obtain ⟨ad153, e153, hx153_0, hx153_1, hx153_2⟩ := at_T37 HR0_0.out qa p153 q153; have hw153_2 := hx153_2; have hw153_1 := hx153_1; have hw153_0 := hx153_0
          cases e153
          replace hx153_0 := pw_cell_below HB.out hx153_0; replace hx153_1 := pw_cell_below HB.out hx153_1; replace hx153_2 := pw_cell_below HB.out hx153_2; replace p153 := eq_true p153; replace q153 := eq_true q153; refine start_ (n := 9) (S := fun w' => w'.cell? ⟨qr, 0, none⟩ = some (.slice (some ad153) qb.length qp) ∧ w'.cell? ⟨qh, 0, none⟩ = some (.string a1_0) ∧ w'.cell? ⟨qh, 1, none⟩ = some (.string a1_1) ∧ w'.cell? ⟨qh, 2, none⟩ = some (.bool a1_2) ∧ w'.cell? (ad153.add ((qa).toNat * 3)) = some (.string ((rd_T37 qb qa).f0)) ∧ w'.cell? ⟨(ad153.add ((qa).toNat * 3)).block, (ad153.add ((qa).toNat * 3)).off + 1, none⟩ = some (.string ((rd_T37 qb qa).f1)) ∧ w'.cell? ⟨(ad153.add ((qa).toNat * 3)).block, (ad153.add ((qa).toNat * 3)).off + 2, none⟩ = some (.bool ((rd_T37 qb qa).f2))) (ds := []) (fb 9 0) (by kernel_rfl) rfl rfl ⟨(blk_cell qc.out 0).trans rfl, (blk_cell qd.out 0).trans rfl, (blk_cell qd.out 1).trans rfl, (blk_cell qd.out 2).trans rfl, (pw_cell_below HB.out hw153_0), (pw_cell_below HB.out hw153_1), (pw_cell_below HB.out hw153_2)⟩ (fun hHeld => ?_); refine with_tabW spec_l5Set.tab9 spec_l5Set.bits9 (fun HT_ HW_ => ?_); generalize wc.drew = w58 at qg qc qd qf qe HB hx153_0 hx153_1 hx153_2 hHeld ⊢; refine pu 0 35 (fb 9 1) HT_ ?_; refine pu 2 37 (fb 9 5) HT_ ?_; refine pu 6 41 (fb 9 69) HT_ ?_; refine tk 1 36 (fb 9 71) HT_ HW_ hHeld ?_; refine pu 3 38 (fb 9 79) HT_ ?_; refine pu 4 39 (fb 9 95) HT_ ?_; refine tk 5 40 (fb 9 127) HT_ HW_ hHeld ?_; refine tk 7 42 (fb 9 255) HT_ HW_ hHeld ?_; refine pu 8 43 (fb 9 511) HT_ ?_; refine done_ (done_of HT_.out (by kernel_rfl)) ?_
          try go_wp2
          go_roundg kj11
          case measure => have := HK1.out; have := HJ11.out; omega
          case rel => exact ⟨(x6_1), (wrap64 (qa + 1)), (ql), (u141000), Ye1, Ye1, H', ⟨by have := HK1.out; have := HJ11.out; omega⟩, ⟨kr qg.out⟩, ⟨bk qc.out⟩, ⟨bk qd.out⟩, ⟨bk qf.out⟩, ⟨bk qe.out⟩, ⟨be4 HB.out qi.out qk.out qn.out qo.out⟩⟩
         ·rw [if_neg c57] at H
          have c57b0 : (((rd_T37 qb qa).f0).toList == a1_0.toList) = false := beq_eq_false_iff_ne.mpr c57; have c57b1 : (((rd_T37 qb qa).f0).toList != a1_0.toList) = true := bne_iff_ne.mpr c57
          by_cases c59 : ql.length < 3518437208883
          ·rw [if_pos c59] at H
           have LMc59 := Aside0.mk c59; clear c59
           obtain ⟨y155, hy155⟩ : ∃ y_ : List (S37), y_ = (ql ++ [(⟨(rd_T37 qb qa).f0, (rd_T37 qb qa).f1, (rd_T37 qb qa).f2⟩ : S37)]) := ⟨_, rfl⟩
           replace H : (spec_l5Set.l0 kj11 x6_1 (wrap64 (qa + 1)) qb a1_0 a1_1 a1_2 y155) = some r := by first | (rw [hy155]; with_reducible exact H) | (have H2_ := (Option.bind_some _ _).symm.trans H; rw [hy155]; with_reducible exact H2_) | (have H2_ := (Option.bind_some _ _).symm.trans H; with_reducible exact H2_) | with_reducible exact H | (rw [hy155]; exact H) | exact H
           have Ny155 := Aside0.mk hy155; clear hy155; have H' := Aside0.mk H; clear H
           try go_wp2
           refine Ya6 (Kd.R_drew qg.out) (blk_drew qc.out) (blk_drew qd.out) (blk_drew qf.out) (blk_drew qe.out) (below_drew1 HB.out) ?_; clear qg qc qd qf qe HB; intro qg qc qd qf qe HB; have p153 : 0 ≤ (qa : Int) := oda; have q153 : qa < (qb.length : Int) := oda; obtain ⟨ad153, e153, hx153_0, hx153_1, hx153_2⟩ := at_T37 HR0_0.out qa p153 q153; have hw153_2 := hx153_2; have hw153_1 := hx153_1; have hw153_0 := hx153_0
           cases e153
           replace hx153_0 := pw_cell_below HB.out hx153_0; replace hx153_1 := pw_cell_below HB.out hx153_1; replace hx153_2 := pw_cell_below HB.out hx153_2; replace p153 := eq_true p153; replace q153 := eq_true q153; refine start_ (n := 9) (S := fun w' => w'.cell? ⟨qr, 0, none⟩ = some (.slice (some ad153) qb.length qp) ∧ w'.cell? ⟨qh, 0, none⟩ = some (.string a1_0) ∧ w'.cell? ⟨qh, 1, none⟩ = some (.string a1_1) ∧ w'.cell? ⟨qh, 2, none⟩ = some (.bool a1_2) ∧ w'.cell? (ad153.add ((qa).toNat * 3)) = some (.string ((rd_T37 qb qa).f0)) ∧ w'.cell? ⟨(ad153.add ((qa).toNat * 3)).block, (ad153.add ((qa).toNat * 3)).off + 1, none⟩ = some (.string ((rd_T37 qb qa).f1)) ∧ w'.cell? ⟨(ad153.add ((qa).toNat * 3)).block, (ad153.add ((qa).toNat * 3)).off + 2, none⟩ = some (.bool ((rd_T37 qb qa).f2))) (ds := []) (fb 9 0) (by kernel_rfl) rfl rfl ⟨(blk_cell qc.out 0).trans rfl, (blk_cell qd.out 0).trans rfl, (blk_cell qd.out 1).trans rfl, (blk_cell qd.out 2).trans rfl, (pw_cell_below HB.out hw153_0), (pw_cell_below HB.out hw153_1), (pw_cell_below HB.out hw153_2)⟩ (fun hHeld => ?_); refine with_tabW spec_l5Set.tab9 spec_l5Set.bits9 (fun HT_ HW_ => ?_); generalize wc.drew = w60 at qg qc qd qf qe HB hx153_0 hx153_1 hx153_2 hHeld ⊢; refine pu 0 35 (fb 9 1) HT_ ?_; refine pu 2 37 (fb 9 5) HT_ ?_; refine pu 6 41 (fb 9 69) HT_ ?_; refine tk 1 36 (fb 9 71) HT_ HW_ hHeld ?_; refine pu 3 38 (fb 9 79) HT_ ?_; refine pu 4 39 (fb 9 95) HT_ ?_; refine tk 5 40 (fb 9 127) HT_ HW_ hHeld ?_; refine tk 7 42 (fb 9 255) HT_ HW_ hHeld ?_; refine pu 8 43 (fb 9 511) HT_ ?_; refine done_ (done_of HT_.out (by kernel_rfl)) ?_
           try go_wp2
           refine Ya6 (Kd.R_drew qg.out) (blk_drew qc.out) (blk_drew qd.out) (blk_drew qf.out) (blk_drew qe.out) (below_drew1 HB.out) ?_; clear qg qc qd qf qe HB; intro qg qc qd qf qe HB; have p154 : 0 ≤ (qa : Int) := oda; have q154 : qa < (qb.length : Int) := oda; obtain ⟨ad154, e154, hx154_0, hx154_1, hx154_2⟩ := at_T37 HR0_0.out qa p154 q154; have hw154_2 := hx154_2; have hw154_1 := hx154_1; have hw154_0 := hx154_0
           obtain rfl : ad153 = ad154 := (by injection e154)
           replace hx154_0 := pw_cell_below HB.out hx154_0; replace hx154_1 := pw_cell_below HB.out hx154_1; replace hx154_2 := pw_cell_below HB.out hx154_2; replace p154 := eq_true p154; replace q154 := eq_true q154; refine start_ (n := 11) (S := fun w' => w'.cell? ⟨qj, 0, none⟩ = some (u141000) ∧ w'.cell? ⟨qr, 0, none⟩ = some (.slice (some ad153) qb.length qp) ∧ w'.cell? (ad153.add ((qa).toNat * 3)) = some (.string ((rd_T37 qb qa).f0)) ∧ w'.cell? ⟨(ad153.add ((qa).toNat * 3)).block, (ad153.add ((qa).toNat * 3)).off + 1, none⟩ = some (.string ((rd_T37 qb qa).f1)) ∧ w'.cell? ⟨(ad153.add ((qa).toNat * 3)).block, (ad153.add ((qa).toNat * 3)).off + 2, none⟩ = some (.bool ((rd_T37 qb qa).f2))) (ds := [10]) (fb 11 0) (by kernel_rfl) rfl rfl ⟨(blk_cell qe.out 0).trans rfl, (blk_cell qc.out 0).trans rfl, (pw_cell_below HB.out hw154_0), (pw_cell_below HB.out hw154_1), (pw_cell_below HB.out hw154_2)⟩ (fun hHeld => ?_); refine with_tabW spec_l5Set.tab10 spec_l5Set.bits10 (fun HT_ HW_ => ?_); generalize w60.drew = w61 at qg qc qd qf qe HB hx154_0 hx154_1 hx154_2 hHeld ⊢; refine pu 0 44 (fb 11 1) HT_ ?_; refine pu 2 46 (fb 11 5) HT_ ?_; refine pu 4 48 (fb 11 21) HT_ ?_; refine tk 1 45 (fb 11 23) HT_ HW_ hHeld ?_; refine tk 3 47 (fb 11 31) HT_ HW_ hHeld ?_; refine pu 5 49 (fb 11 63) HT_ ?_; refine tk 6 50 (fb 11 127) HT_ HW_ hHeld ?_; refine one_ (i := 7) (N := some 51) (fb 11 255) rfl rfl (one_of HT_.out (by kernel_rfl)) (by decide) (fun K hK => ?_); refine value_ (w1 := ?_) (v := ?_) (by rfl) rfl ?_ ?_; rotate_left 2
           ·go_simp
            constructor
            ·rfl
            ·rfl
           refine hK.out _ _ ⟨(blk_cell (blk_alloc qe.out _) 0).trans rfl, (blk_cell (blk_alloc qc.out _) 0).trans rfl, (World.cell?_alloc_lt _ _ _ (World.block_lt_of_cell? _ _ ((pw_cell_below HB.out hw154_0)))).trans ((pw_cell_below HB.out hw154_0)), (World.cell?_alloc_lt _ _ _ (World.block_lt_of_cell? _ _ ((pw_cell_below HB.out hw154_1)))).trans ((pw_cell_below HB.out hw154_1)), (World.cell?_alloc_lt _ _ _ (World.block_lt_of_cell? _ _ ((pw_cell_below HB.out hw154_2)))).trans ((pw_cell_below HB.out hw154_2))⟩ (fun hHeld => ?_); clear hK K; refine norm_ (a' := ?_) ?_ ?_; rotate_left
           ·show Act.put _ (some 51) _ = _
            simp only [Act.put, List.setIfInBounds_toArray, List.set_cons_zero, List.set_cons_succ, i64_w, i32_w]; rfl
           refine one_ (i := 8) (N := some 52) (fb 11 511) rfl rfl (one_of HT_.out (by kernel_rfl)) (by decide) (fun K hK => ?_); refine Kd.R_append_step k37 (w0 := w) w.heap.size (by rfl) (.tmp 45) (.tmp 51) 26 37 (.agg #[(.string ⟨#[]⟩), (.string ⟨#[]⟩), (.bool false)]) 40 rfl Tryd.underlying26 info37 rfl (by decide) (by omega) u141000 ql (⟨(rd_T37 qb qa).f0, (rd_T37 qb qa).f1, (rd_T37 qb qa).f2⟩ : S37) [.string ((rd_T37 qb qa).f0), .string ((rd_T37 qb qa).f1), .bool ((rd_T37 qb qa).f2)] (fun k_ => k_ ≠ qh) (fun _ => False) rfl rfl ?aP (fun _ hk => hk.elim) ?aF ?aO ?aB ?aS ?aL ?_; (case aP => exact k37_mkM _ _ _ (⟨(rd_T37 qb qa).f0, (rd_T37 qb qa).f1, (rd_T37 qb qa).f2⟩ : S37)); (case aB => exact (be4 HB.out qi.out qk.out qn.out qo.out)); (case aF => exact (fun k_ hk => Kd.freshB (g := qh) (o := .cells #[.string a1_0, .string a1_1, .bool a1_2] 37 (0, 0)) (bk qd.out) k_ hk)); (case aO => exact (kr qg.out)); (case aS => exact (below_size (be4 HB.out qi.out qk.out qn.out qo.out))); (case aL => have := LMc59.out; omega); intro v156 w62 ho hb hg hat
           rw [← Ny155.out] at ho
           refine Ya6 (blk_grown (g := qr) (o := .cells #[.slice (some ad153) qb.length qp] 28 (0, 0)) (bk qc.out) hg (Kd.R_ne qg.out qc.out (by decide))) (blk_grown (g := qh) (o := .cells #[.string a1_0, .string a1_1, .bool a1_2] 37 (0, 0)) (bk qd.out) hg (Kd.R_away qg.out (fun _ hk => hk))) (blk_grown (g := qt) (o := .cells #[.slice none 0 0] 28 (0, 0)) (bk qf.out) hg (Kd.R_ne qg.out qf.out (by decide))) (blk_grown (g := qj) (o := .cells #[u141000] 28 (0, 0)) (bk qe.out) hg (Kd.R_ne qg.out qe.out (by decide))) (hb) (ho) ?_; clear qc qd qf qe HB qg; intro qc qd qf qe HB HO157; clear ho hb hg hat; obtain ⟨Ao63, co63, eo63⟩ := Kd.R_slice HO157.out; (first | subst eo63 | (injection eo63 with f1_ f2_ f3_; have f4_ := f1_.symm; have f5_ := f3_.symm; clear f1_ f2_ f3_; subst f4_; subst f5_)); refine hK.out _ _ ⟨(blk_cell qe.out 0).trans rfl, (blk_cell qc.out 0).trans rfl, (pw_cell_below HB.out hw154_0), (pw_cell_below HB.out hw154_1), (pw_cell_below HB.out hw154_2)⟩ (fun hHeld => ?_); clear hK K; refine norm_ (a' := ?_) ?_ ?_; rotate_left
           ·show Act.put _ (some 52) _ = _
            simp only [Act.put, List.setIfInBounds_toArray, List.set_cons_zero, List.set_cons_succ, i64_w, i32_w]; rfl
           refine pu 9 53 (fb 11 1023) HT_ ?_; refine last_ (i := 10) (N := none) (fb 11 2047) rfl rfl (one_of HT_.out (by kernel_rfl)) (by decide) (fun K hK => ?_); have hs64 : w62.cell? ⟨qj, 0, none⟩ = some (u141000) := (blk_cell qe.out 0).trans rfl; have hfs64 := blk_frozen qe.out 0; have hns64_0 := qu.out; have hns64_1 := qw.out; have hns64_2 := qv.out; have hms64_0 := qx.out; have hms64_1 := qy.out; have hms64_2 := qz.out; refine skip_ (w1 := ?_) (by rfl) rfl ?_ ?_; rotate_left
           ·go_simp; rfl
           refine hK.out _ _ ?_; clear hK K; refine done_ (done_of HT_.out (by kernel_rfl)) ?_
           try go_wp2
           go_roundg kj11
           case measure => have := HK1.out; have := HJ11.out; omega
           case rel => exact ⟨(x6_1), (wrap64 (qa + 1)), (y155), (.slice Ao63 y155.length co63), Ye1, Ye1, H', ⟨by have := HK1.out; have := HJ11.out; omega⟩, ⟨by (with_reducible repeat (first | apply Kd.R_alloc | apply Kd.R_drewN | apply Kd.R_drew)); exact Kd.R_mono (Kd.R_far (p := ⟨qj, 0, none⟩) (Kd.R_types HO157.out qe.out (by decide)) (fun _ hk => hk.2) (.slice Ao63 y155.length co63)) (fun _ hk => hk.1)⟩, ⟨bkf qc.out qu.out⟩, ⟨bkf qd.out qw.out⟩, ⟨bkf qf.out qv.out⟩, ⟨by (with_reducible repeat (first | apply blk_drewN | apply blk_drew | apply blk_alloc)); refine blk_put (cs := #[u141000]) ?_ 0 _ rfl; (with_reducible repeat (first | apply blk_drewN | apply blk_drew | apply blk_alloc)); exact qe.out⟩, ⟨be4 HB.out qi.out qk.out qn.out qo.out⟩⟩
          ·rw [if_neg c59] at H
           exact absurd H (by simp)
        ·rw [if_neg c56] at H
         exact absurd H (by simp)
       ·rw [if_neg c55] at H
        exact absurd H (by simp)
   ·rw [if_neg c11] at H
    have c11b0 : decide (qa < (qb.length : Int)) = false := decide_eq_false c11; clear c11
    by_cases c65 : x6_1 = true
    ·subst c65
     have H1 : (some ql) = some r := by rw [if_pos rfl] at H; exact H
     clear H; have H := H1; clear H1; obtain rfl := Option.some.inj H; have hnb66 := q0.out; have hnc66 := q2.out; have hnb67 := NB137_139.out; have hnc67 := NB139_137.out; have hnb68 := qu.out; have hnc68 := qx.out; have ⟨hcz69_0, hfz69_0⟩ := Yc1 qc.out; have hnb70 := qy.out; have hnc70 := qw.out; have hnb71 := qz.out; have hnc71 := qv.out; have ⟨hcz72_0, hfz72_0⟩ := Yc1 qe.out; obtain ⟨Ao73, co73, eo73⟩ := Kd.R_slice qg.out; subst eo73; have hnb74 := NB139_138.out; have hnc74 := NB138_139.out; have ⟨hcz75_0, hfz75_0⟩ := Yc1 qf.out
     go_wp2
     refine bodyPost_ret (results_cell_row rfl _ _ qt 28 #[.slice Ao73 ql.length co73] (0, 0) _ rfl (by (with_reducible repeat (first | apply blk_drewN | apply blk_drew | apply blk_alloc)); refine blk_put (cs := #[.slice none 0 0]) ?_ 0 _ rfl; (with_reducible repeat (first | apply blk_drewN | apply blk_drew | apply blk_alloc)); exact qf.out) Tryd.underlying28 rfl (by kernel_rfl)) rfl ?_; exact ⟨_, Ye2, by (with_reducible repeat (first | apply Kd.R_alloc | apply Kd.R_drewN | apply Kd.R_drew)); exact Kd.R_mono (Kd.R_far (p := ⟨qt, 0, none⟩) (Kd.R_types qg.out qf.out (by decide)) (fun _ hk => hk.2) (.slice Ao73 ql.length co73)) (fun _ hk => trivial), (by first | exact be4 HB.out qi.out qk.out qn.out qo.out | exact be3 HB.out qi.out qk.out qn.out | exact be2 HB.out qi.out qk.out)⟩
    ·replace c65 := Bool.eq_false_iff.mpr c65; subst c65
     have H1 : (if ql.length < 3518437208883 then (some (ql ++ [(⟨a1_0, a1_1, a1_2⟩ : S37)])) else (none)) = some r := by rw [if_neg (show ¬ (false = true) by decide)] at H; exact H
     clear H; have H := H1; clear H1
     by_cases c76 : ql.length < 3518437208883
     ·rw [if_pos c76] at H
      have LMc76 := Aside0.mk c76; clear c76
      obtain ⟨y141, hy141⟩ : ∃ y_ : List (S37), y_ = (ql ++ [(⟨a1_0, a1_1, a1_2⟩ : S37)]) := ⟨_, rfl⟩
      replace H : (some y141) = some r := by first | (rw [hy141]; with_reducible exact H) | (have H2_ := (Option.bind_some _ _).symm.trans H; rw [hy141]; with_reducible exact H2_) | (have H2_ := (Option.bind_some _ _).symm.trans H; with_reducible exact H2_) | with_reducible exact H | (rw [hy141]; exact H) | exact H
      have Ny141 := Aside0.mk hy141; clear hy141; obtain rfl := Option.some.inj H; have hnb77 := q0.out; have hnc77 := q2.out; have hnb78 := NB137_139.out; have hnc78 := NB139_137.out; have hnb79 := qu.out; have hnc79 := qx.out; have ⟨hcz80_0, hfz80_0⟩ := Yc1 qc.out; have hnb81 := qy.out; have hnc81 := qw.out; have hnb82 := qz.out; have hnc82 := qv.out; have ⟨hcz83_0, hfz83_0⟩ := Yc1 qe.out; have hnb84 := NB138_139.out; have hnc84 := NB139_138.out; have ⟨hcz85_0, hcz85_1, hcz85_2, hfz85_0, hfz85_1, hfz85_2⟩ := Yc3 qd.out
      go_wp2_with (first | ((with_reducible refine gate_builtin (b := .append) (xs := #[.tmp 57, .tmp 59]) rfl ?_); at_builtin; refine Kd.R_append k37 (w0 := w) w.heap.size rfl (.tmp 57) (.tmp 59) 26 37 (.agg #[(.string ⟨#[]⟩), (.string ⟨#[]⟩), (.bool false)]) 40 rfl Tryd.underlying26 info37 rfl (by decide) (by omega) u141000 ql (⟨a1_0, a1_1, a1_2⟩ : S37) [.string a1_0, .string a1_1, .bool a1_2] (fun k_ => k_ ≠ qh) (fun _ => False) rfl rfl ?aP (fun _ hk => hk.elim) ?aF ?aO ?aB ?aS ?aL ?_; (case aP => exact k37_mkM _ _ _ (⟨a1_0, a1_1, a1_2⟩ : S37)); (case aB => exact (be4 HB.out qi.out qk.out qn.out qo.out)); (case aF => exact (fun k_ hk => Kd.freshB (g := qh) (o := .cells #[.string a1_0, .string a1_1, .bool a1_2] 37 (0, 0)) (bk qd.out) k_ hk)); (case aO => exact (kr qg.out)); (case aS => exact (below_size (be4 HB.out qi.out qk.out qn.out qo.out))); (case aL => have := LMc76.out; omega); intro v142 w86 ho hb hg hat; rw [← Ny141.out] at ho; refine Ya6 (blk_grown (g := qr) (o := .cells #[.slice A0_0 qb.length qp] 28 (0, 0)) (bk qc.out) hg (Kd.R_ne qg.out qc.out (by decide))) (blk_grown (g := qh) (o := .cells #[.string a1_0, .string a1_1, .bool a1_2] 37 (0, 0)) (bk qd.out) hg (Kd.R_away qg.out (fun _ hk => hk))) (blk_grown (g := qt) (o := .cells #[.slice none 0 0] 28 (0, 0)) (bk qf.out) hg (Kd.R_ne qg.out qf.out (by decide))) (blk_grown (g := qj) (o := .cells #[u141000] 28 (0, 0)) (bk qe.out) hg (Kd.R_ne qg.out qe.out (by decide))) (hb) (ho) ?_; clear qc qd qf qe HB qg; intro qc qd qf qe HB HO143; clear ho hb hg hat; obtain ⟨Ao87, co87, eo87⟩ := Kd.R_slice HO143.out; subst eo87; have ⟨hcz88_0, hfz88_0⟩ := Yc1 qe.out; have ⟨hcz89_0, hfz89_0⟩ := Yc1 qf.out))
      refine bodyPost_ret (results_cell_row rfl _ _ qt 28 #[.slice Ao87 y141.length co87] (0, 0) _ rfl (by (with_reducible repeat (first | apply blk_drewN | apply blk_drew | apply blk_alloc)); refine blk_put (cs := #[.slice none 0 0]) ?_ 0 _ rfl; (with_reducible repeat (first | apply blk_drewN | apply blk_drew | apply blk_alloc)); refine blk_far ?_ qv.out _; (with_reducible repeat (first | apply blk_drewN | apply blk_drew | apply blk_alloc)); exact qf.out) Tryd.underlying28 rfl (by kernel_rfl)) rfl ?_; exact ⟨_, Ye2, by (with_reducible repeat (first | apply Kd.R_alloc | apply Kd.R_drewN | apply Kd.R_drew)); exact Kd.R_mono (Kd.R_far (p := ⟨qt, 0, none⟩) (Kd.R_far (p := ⟨qj, 0, none⟩) (Kd.R_types (Kd.R_types HO143.out qe.out (by decide)) qf.out (by decide)) (fun _ hk => hk.1.2) (.slice Ao87 y141.length co87)) (fun _ hk => hk.2) (.slice Ao87 y141.length co87)) (fun _ hk => trivial), (by first | exact be4 HB.out qi.out qk.out qn.out qo.out | exact be3 HB.out qi.out qk.out qn.out | exact be2 HB.out qi.out qk.out)⟩
     ·rw [if_neg c76] at H
      exact absurd H (by simp)

end Go.Proofs.YtgnmledjkamojaaDoor.P


namespace Go.Proofs.YtgnmledjkamojaaDoor.P
open Go.RowKit Go.Proofs.YtgnmledjkamojaaDoorW.PrintWords Go.Proofs.YtgnmledjkamojaaDoorW.PrintLast Go.Proofs.YtgnmledjkamojaaDoorW.PrintMore
attribute [local go_sem] max2_int min2_int max_two min_two max_three min_three max_four min_four
set_option linter.unusedVariables false
set_option linter.unusedSimpArgs false

/-! ### spec_l1In: function 119 -/
def spec_l1In.f (a0 : Int) (a1 : Int) (a2 : Int) : Option (Bool) := if a0 ≥ a1 then (some (decide (a0 ≤ a2))) else (some false)
set_option maxHeartbeats 8000000 in
set_option maxRecDepth 100000 in
theorem spec_l1In.calls (a0 : Int) (a1 : Int) (a2 : Int) (r : Bool) (w : World) (h : spec_l1In.f a0 a1 a2 = some r) :
  Calls Tryd.prog 119 #[.int .i64 a0, .int .i64 a1, .int .i64 a2] w fun e w' => e = .returned (.bool r) ∧ Drawn0 w w' := by
 have H : (if a0 ≥ a1 then (some (decide (a0 ≤ a2))) else (some false)) = some r := h; clear h
 by_cases c4 : a0 ≥ a1
 ·rw [if_pos c4] at H
  have c4b0 : decide (a1 ≤ a0) = true := decide_eq_true c4; clear c4; obtain rfl := Option.some.inj H
  go_enter Tryd.func119, Tryd.ntmps119
  go_wp2
  go_ret
  exact ⟨Ye1, dz⟩
 ·rw [if_neg c4] at H
  have c4b0 : decide (a1 ≤ a0) = false := decide_eq_false c4; clear c4; obtain rfl := Option.some.inj H
  go_enter Tryd.func119, Tryd.ntmps119
  go_wp2
  go_ret
  exact ⟨Ye1, dz⟩

end Go.Proofs.YtgnmledjkamojaaDoor.P


namespace Go.Proofs.YtgnmledjkamojaaDoor.P
open Go.RowKit Go.Proofs.YtgnmledjkamojaaDoorW.PrintWords Go.Proofs.YtgnmledjkamojaaDoorW.PrintLast Go.Proofs.YtgnmledjkamojaaDoorW.PrintMore
attribute [local go_sem] max2_int min2_int max_two min_two max_three min_three max_four min_four
set_option linter.unusedVariables false
set_option linter.unusedSimpArgs false

/-! ### spec_l4PartOk: function 152 -/
mutual
def spec_l4PartOk.j0 : Nat → ByteArray → Bool → Bool → Option (Bool)
 | 0, _, _, _ => none
 | k + 1, x0, x1, x17 => if x17 = true then (some false) else (spec_l4PartOk.l0 k x0 x1 0)
def spec_l4PartOk.l0 : Nat → ByteArray → Bool → Int → Option (Bool)
 | 0, _, _, _ => none
 | k + 1, x0, x1, x5 => if x5 < (x0.size : Int) then (if 0 ≤ x5 then (if (bt x0 x5) < 33 then (some false) else (if (bt x0 x5) > 126 then (some false) else (if (bt x0 x5) = 47 then (some false) else (if (bt x0 x5) = 34 then (some false) else (if x1 = true then (spec_l4PartOk.l0 k x0 x1 (wrap64 (x5 + 1))) else (if (bt x0 x5) = 42 then (some false) else (if (bt x0 x5) = 63 then (some false) else (spec_l4PartOk.l0 k x0 x1 (wrap64 (x5 + 1)))))))))) else (none)) else (some true)
end
def spec_l4PartOk.f (k : Nat) (a0 : ByteArray) (a1 : Bool) : Option (Bool) := (spec_l1In.f (a0.size : Int) 1 20).bind fun t115 => (if t115 = true then (if a0.toList = ([46] : List UInt8) then (spec_l4PartOk.j0 k a0 a1 true) else (spec_l4PartOk.j0 k a0 a1 (a0.toList == ([46, 46] : List UInt8)))) else (spec_l4PartOk.j0 k a0 a1 true))
theorem spec_l4PartOk.mono_l : ∀ k, (∀ y0 y1 y2, LeO (spec_l4PartOk.j0 k y0 y1 y2) (spec_l4PartOk.j0 (k + 1) y0 y1 y2)) ∧ (∀ y0 y1 y2, LeO (spec_l4PartOk.l0 k y0 y1 y2) (spec_l4PartOk.l0 (k + 1) y0 y1 y2))
 | 0 => ⟨fun _ _ _ r h => by simp [spec_l4PartOk.j0] at h, fun _ _ _ r h => by simp [spec_l4PartOk.l0] at h⟩
 | k + 1 => by
  obtain ⟨ih0, ih1⟩ := spec_l4PartOk.mono_l k; refine ⟨?_, ?_⟩
  ·intro y0 y1 y2
   unfold spec_l4PartOk.j0
   repeat' first
   | (with_reducible exact ih0 _ _ _)
   | (with_reducible exact ih1 _ _ _)
   | (with_reducible exact LeO.refl _)
   | (with_reducible exact LeO.none _)
   | (with_reducible refine LeO.ite ?_ ?_)
   | (with_reducible refine LeO.bind ?_ (fun _ => ?_))
   | exact ih0 _ _ _
   | exact ih1 _ _ _
   | exact LeO.none _
   | refine LeO.ite ?_ ?_
   | refine LeO.bind ?_ (fun _ => ?_)
  ·intro y0 y1 y2
   unfold spec_l4PartOk.l0
   repeat' first
   | (with_reducible exact ih0 _ _ _)
   | (with_reducible exact ih1 _ _ _)
   | (with_reducible exact LeO.refl _)
   | (with_reducible exact LeO.none _)
   | (with_reducible refine LeO.ite ?_ ?_)
   | (with_reducible refine LeO.bind ?_ (fun _ => ?_))
   | exact ih0 _ _ _
   | exact ih1 _ _ _
   | exact LeO.none _
   | refine LeO.ite ?_ ?_
   | refine LeO.bind ?_ (fun _ => ?_)
theorem spec_l4PartOk.mono : ∀ a0 a1 k, LeO (spec_l4PartOk.f k a0 a1) (spec_l4PartOk.f (k + 1) a0 a1) := by
 intro a0 a1 k; obtain ⟨ih0, ih1⟩ := spec_l4PartOk.mono_l k
 unfold spec_l4PartOk.f
 repeat' first
   | (with_reducible exact ih0 _ _ _)
   | (with_reducible exact ih1 _ _ _)
   | (with_reducible exact LeO.refl _)
   | (with_reducible exact LeO.none _)
   | (with_reducible refine LeO.ite ?_ ?_)
   | (with_reducible refine LeO.bind ?_ (fun _ => ?_))
   | exact ih0 _ _ _
   | exact ih1 _ _ _
   | exact LeO.none _
   | refine LeO.ite ?_ ?_
   | refine LeO.bind ?_ (fun _ => ?_)
set_option maxHeartbeats 8000000 in
set_option maxRecDepth 100000 in
theorem spec_l4PartOk.calls (k : Nat) (a0 : ByteArray) (a1 : Bool) (r : Bool) (w : World) (h : spec_l4PartOk.f k a0 a1 = some r) :
  Calls Tryd.prog 152 #[.string a0, .bool a1] w fun e w' => e = .returned (.bool r) ∧ Drawn0 w w' := by
 have H : ((spec_l1In.f (a0.size : Int) 1 20).bind fun t115 => (if t115 = true then (if a0.toList = ([46] : List UInt8) then (spec_l4PartOk.j0 k a0 a1 true) else (spec_l4PartOk.j0 k a0 a1 (a0.toList == ([46, 46] : List UInt8)))) else (spec_l4PartOk.j0 k a0 a1 true))) = some r := h; clear h; have HC3 := Aside0.mk H; clear H
 go_enter Tryd.func152, Tryd.ntmps152
 go_upto_region 1 with (fail)
 go_cut [17] (fun v17 wc => ∃ (kq : Nat) (x17_2 : Bool), v17 = .bool x17_2 ∧ Aside0 (spec_l4PartOk.j0 kq a0 a1 x17_2 = some r) ∧ Aside0 (kq ≤ k) ∧ Drawn0 w wc)
 case first =>
  have H := HC3.out; clear HC3; replace H := Option.bind_eq_some_iff.mp H; obtain ⟨t115, A40, H⟩ := H; replace H : (if t115 = true then (if a0.toList = ([46] : List UInt8) then (spec_l4PartOk.j0 k a0 a1 true) else (spec_l4PartOk.j0 k a0 a1 (a0.toList == ([46, 46] : List UInt8)))) else (spec_l4PartOk.j0 k a0 a1 true)) = some r := H; have A4 := Aside0.mk A40; clear A40
  by_cases c5 : t115 = true
  ·subst c5
   have H1 : (if a0.toList = ([46] : List UInt8) then (spec_l4PartOk.j0 k a0 a1 true) else (spec_l4PartOk.j0 k a0 a1 (a0.toList == ([46, 46] : List UInt8)))) = some r := by rw [if_pos rfl] at H; exact H
   clear H; have H := H1; clear H1
   by_cases c6 : a0.toList = ([46] : List UInt8)
   ·rw [if_pos c6] at H
    have c6b0 : (a0.toList == ([46] : List UInt8)) = true := beq_iff_eq.mpr c6; have c6b1 : (a0.toList != ([46] : List UInt8)) = false := bne_eq_false_iff_eq.mpr c6; clear c6; (first | rw [c6b0] | (simp only [i64_w, i32_w]; rw [c6b0]) | skip); have H' := Aside0.mk H; clear H
    go_wp2_with (first | ((with_reducible refine gc 119 rfl ?_); refine gl (some 8) _ (#[.int .i64 (a0.size : Int), .int .i64 1, .int .i64 20]) Tryd.func119 ?_; (with_reducible refine (spec_l1In.calls (a0.size : Int) 1 20 true _ A4.out).mono ?_); rintro e w' ⟨rfl, ⟨nd, rfl⟩⟩; refine ⟨_, rfl, ?_⟩))
    go_meet
    case rel => exact ⟨_, (true), Ye1, H', ⟨by first | omega | exact Nat.le_refl _⟩, dz⟩
   ·rw [if_neg c6] at H
    have c6b0 : (a0.toList == ([46] : List UInt8)) = false := beq_eq_false_iff_ne.mpr c6; have c6b1 : (a0.toList != ([46] : List UInt8)) = true := bne_iff_ne.mpr c6; (first | rw [c6b0] | (simp only [i64_w, i32_w]; rw [c6b0]) | skip); have H' := Aside0.mk H; clear H
    go_wp2_with (first | ((with_reducible refine gc 119 rfl ?_); refine gl (some 8) _ (#[.int .i64 (a0.size : Int), .int .i64 1, .int .i64 20]) Tryd.func119 ?_; (with_reducible refine (spec_l1In.calls (a0.size : Int) 1 20 true _ A4.out).mono ?_); rintro e w' ⟨rfl, ⟨nd, rfl⟩⟩; refine ⟨_, rfl, ?_⟩))
    go_meet
    case rel => exact ⟨_, ((a0.toList == ([46, 46] : List UInt8))), Ye1, H', ⟨by first | omega | exact Nat.le_refl _⟩, dz⟩
  ·replace c5 := Bool.eq_false_iff.mpr c5; subst c5
   have H1 : (spec_l4PartOk.j0 k a0 a1 true) = some r := by rw [if_neg (show ¬ (false = true) by decide)] at H; exact H
   clear H; have H := H1; clear H1; have H' := Aside0.mk H; clear H
   go_wp2_with (first | ((with_reducible refine gc 119 rfl ?_); refine gl (some 8) _ (#[.int .i64 (a0.size : Int), .int .i64 1, .int .i64 20]) Tryd.func119 ?_; (with_reducible refine (spec_l1In.calls (a0.size : Int) 1 20 false _ A4.out).mono ?_); rintro e w' ⟨rfl, ⟨nd, rfl⟩⟩; refine ⟨_, rfl, ?_⟩))
   go_meet
   case rel => exact ⟨_, (true), Ye1, H', ⟨by first | omega | exact Nat.le_refl _⟩, dz⟩
 case rest =>
  clear HC3; (try clear c1); (try clear p2); (try clear c5); (try clear c6); (try clear c6b0); (try clear c6b1); obtain ⟨kq, x17_2, rfl, HA, HJ2, ⟨mc2, rfl⟩⟩ := hcut
  cases kq with
  | zero => exact absurd HA.out (by simp [spec_l4PartOk.j0])
  | succ kj2 =>
   have H := HA.out; clear HA; simp only [spec_l4PartOk.j0] at H
   by_cases c7 : x17_2 = true
   ·subst c7
    have H1 : (some false) = some r := by rw [if_pos rfl] at H; exact H
    clear H; have H := H1; clear H1; obtain rfl := Option.some.inj H
    go_wp2
    go_ret
    exact ⟨Ye1, dz⟩
   ·replace c7 := Bool.eq_false_iff.mpr c7; subst c7
    have H1 : (spec_l4PartOk.l0 kj2 a0 a1 0) = some r := by rw [if_neg (show ¬ (false = true) by decide)] at H; exact H
    clear H; have H := H1; clear H1; have H' := Aside0.mk H; clear H
    go_wp2
    go_loopg [5] kj2 (fun kq v5 w' => ∃ (qa : Int), v5 = .int .i64 qa ∧ Aside0 (spec_l4PartOk.l0 kq a0 a1 qa = some r) ∧ Aside0 (kq ≤ kj2) ∧ Drawn0 w w')
    case atStart => exact ⟨(0), Ye1, H', ⟨Nat.le_refl _⟩, dz⟩
    case round =>
     clear H'; (try clear c1); (try clear c2); (try clear p2); (try clear c5); (try clear c6); (try clear c6b0); (try clear c6b1); (try clear c7); (try clear p2); obtain ⟨qa, rfl, HA, HK2, ⟨m2, rfl⟩⟩ := hrel
     cases gk with
     | zero => exact absurd HA.out (by simp [spec_l4PartOk.l0])
     | succ k2 =>
      have H := HA.out; clear HA; simp only [spec_l4PartOk.l0] at H
      by_cases c8 : qa < (a0.size : Int)
      ·rw [if_pos c8] at H
       have c8b0 : decide (qa < (a0.size : Int)) = true := decide_eq_true c8; clear c8
       by_cases c9 : 0 ≤ qa
       ·rw [if_pos c9] at H
        have c9b0 : decide (0 ≤ qa) = true := decide_eq_true c9; clear c9
        by_cases c11 : (bt a0 qa) < 33
        ·rw [if_pos c11] at H
         have c11b0 : decide ((bt a0 qa) < 33) = true := decide_eq_true c11; clear c11; obtain rfl := Option.some.inj H; have p10 : 0 ≤ (qa : Int) := oda; have q10 : qa < (a0.size : Int) := oda; have hx10 := bt_at a0 qa; replace p10 := eq_true p10; replace q10 := eq_true q10
         go_wp2
         go_ret
         exact ⟨Ye1, dz⟩
        ·rw [if_neg c11] at H
         have c11b0 : decide ((bt a0 qa) < 33) = false := decide_eq_false c11; clear c11
         by_cases c13 : (bt a0 qa) > 126
         ·rw [if_pos c13] at H
          have c13b0 : decide (126 < (bt a0 qa)) = true := decide_eq_true c13; clear c13; obtain rfl := Option.some.inj H; have p10 : 0 ≤ (qa : Int) := oda; have q10 : qa < (a0.size : Int) := oda; have hx10 := bt_at a0 qa; replace p10 := eq_true p10; replace q10 := eq_true q10; have p12 : 0 ≤ (qa : Int) := oda; have q12 : qa < (a0.size : Int) := oda; have hx12 := bt_at a0 qa; replace p12 := eq_true p12; replace q12 := eq_true q12
          go_wp2
          go_ret
          exact ⟨Ye1, dz⟩
         ·rw [if_neg c13] at H
          have c13b0 : decide (126 < (bt a0 qa)) = false := decide_eq_false c13; clear c13
          by_cases c15 : (bt a0 qa) = 47
          ·rw [if_pos c15] at H
           have c15b0 : ((bt a0 qa) == 47) = true := beq_iff_eq.mpr c15; have c15b1 : ((bt a0 qa) != 47) = false := bne_eq_false_iff_eq.mpr c15; clear c15; obtain rfl := Option.some.inj H; have p10 : 0 ≤ (qa : Int) := oda; have q10 : qa < (a0.size : Int) := oda; have hx10 := bt_at a0 qa; replace p10 := eq_true p10; replace q10 := eq_true q10; have p12 : 0 ≤ (qa : Int) := oda; have q12 : qa < (a0.size : Int) := oda; have hx12 := bt_at a0 qa; replace p12 := eq_true p12; replace q12 := eq_true q12; have p14 : 0 ≤ (qa : Int) := oda; have q14 : qa < (a0.size : Int) := oda; have hx14 := bt_at a0 qa; replace p14 := eq_true p14; replace q14 := eq_true q14
           go_wp2
           go_ret
           exact ⟨Ye1, dz⟩
          ·rw [if_neg c15] at H
           have c15b0 : ((bt a0 qa) == 47) = false := beq_eq_false_iff_ne.mpr c15; have c15b1 : ((bt a0 qa) != 47) = true := bne_iff_ne.mpr c15
           by_cases c17 : (bt a0 qa) = 34
           ·rw [if_pos c17] at H
            have c17b0 : ((bt a0 qa) == 34) = true := beq_iff_eq.mpr c17; have c17b1 : ((bt a0 qa) != 34) = false := bne_eq_false_iff_eq.mpr c17; clear c17; obtain rfl := Option.some.inj H; have p10 : 0 ≤ (qa : Int) := oda; have q10 : qa < (a0.size : Int) := oda; have hx10 := bt_at a0 qa; replace p10 := eq_true p10; replace q10 := eq_true q10; have p12 : 0 ≤ (qa : Int) := oda; have q12 : qa < (a0.size : Int) := oda; have hx12 := bt_at a0 qa; replace p12 := eq_true p12; replace q12 := eq_true q12; have p14 : 0 ≤ (qa : Int) := oda; have q14 : qa < (a0.size : Int) := oda; have hx14 := bt_at a0 qa; replace p14 := eq_true p14; replace q14 := eq_true q14; have p16 : 0 ≤ (qa : Int) := oda; have q16 : qa < (a0.size : Int) := oda; have hx16 := bt_at a0 qa; replace p16 := eq_true p16; replace q16 := eq_true q16
            go_wp2
            go_ret
            exact ⟨Ye1, dz⟩
           ·rw [if_neg c17] at H
            have c17b0 : ((bt a0 qa) == 34) = false := beq_eq_false_iff_ne.mpr c17; have c17b1 : ((bt a0 qa) != 34) = true := bne_iff_ne.mpr c17
            by_cases c18 : a1 = true
            ·subst c18
             have H1 : (spec_l4PartOk.l0 k2 a0 true (wrap64 (qa + 1))) = some r := by rw [if_pos rfl] at H; exact H
             clear H; have H := H1; clear H1; have H' := Aside0.mk H; clear H; have p10 : 0 ≤ (qa : Int) := oda; have q10 : qa < (a0.size : Int) := oda; have hx10 := bt_at a0 qa; replace p10 := eq_true p10; replace q10 := eq_true q10; have p12 : 0 ≤ (qa : Int) := oda; have q12 : qa < (a0.size : Int) := oda; have hx12 := bt_at a0 qa; replace p12 := eq_true p12; replace q12 := eq_true q12; have p14 : 0 ≤ (qa : Int) := oda; have q14 : qa < (a0.size : Int) := oda; have hx14 := bt_at a0 qa; replace p14 := eq_true p14; replace q14 := eq_true q14; have p16 : 0 ≤ (qa : Int) := oda; have q16 : qa < (a0.size : Int) := oda; have hx16 := bt_at a0 qa; replace p16 := eq_true p16; replace q16 := eq_true q16
             go_wp2
             go_roundg k2
             case measure => have := HJ2.out; have := HK2.out; omega
             case rel => exact ⟨(wrap64 (qa + 1)), Ye1, H', ⟨by have := HJ2.out; have := HK2.out; omega⟩, dz⟩
            ·replace c18 := Bool.eq_false_iff.mpr c18; subst c18
             have H1 : (if (bt a0 qa) = 42 then (some false) else (if (bt a0 qa) = 63 then (some false) else (spec_l4PartOk.l0 k2 a0 false (wrap64 (qa + 1))))) = some r := by rw [if_neg (show ¬ (false = true) by decide)] at H; exact H
             clear H; have H := H1; clear H1
             by_cases c20 : (bt a0 qa) = 42
             ·rw [if_pos c20] at H
              have c20b0 : ((bt a0 qa) == 42) = true := beq_iff_eq.mpr c20; have c20b1 : ((bt a0 qa) != 42) = false := bne_eq_false_iff_eq.mpr c20; clear c20; obtain rfl := Option.some.inj H; have p10 : 0 ≤ (qa : Int) := oda; have q10 : qa < (a0.size : Int) := oda; have hx10 := bt_at a0 qa; replace p10 := eq_true p10; replace q10 := eq_true q10; have p12 : 0 ≤ (qa : Int) := oda; have q12 : qa < (a0.size : Int) := oda; have hx12 := bt_at a0 qa; replace p12 := eq_true p12; replace q12 := eq_true q12; have p14 : 0 ≤ (qa : Int) := oda; have q14 : qa < (a0.size : Int) := oda; have hx14 := bt_at a0 qa; replace p14 := eq_true p14; replace q14 := eq_true q14; have p16 : 0 ≤ (qa : Int) := oda; have q16 : qa < (a0.size : Int) := oda; have hx16 := bt_at a0 qa; replace p16 := eq_true p16; replace q16 := eq_true q16; have p19 : 0 ≤ (qa : Int) := oda; have q19 : qa < (a0.size : Int) := oda; have hx19 := bt_at a0 qa; replace p19 := eq_true p19; replace q19 := eq_true q19
              go_wp2
              go_ret
              exact ⟨Ye1, dz⟩
             ·rw [if_neg c20] at H
              have c20b0 : ((bt a0 qa) == 42) = false := beq_eq_false_iff_ne.mpr c20; have c20b1 : ((bt a0 qa) != 42) = true := bne_iff_ne.mpr c20
              by_cases c22 : (bt a0 qa) = 63
              ·rw [if_pos c22] at H
               have c22b0 : ((bt a0 qa) == 63) = true := beq_iff_eq.mpr c22; have c22b1 : ((bt a0 qa) != 63) = false := bne_eq_false_iff_eq.mpr c22; clear c22; obtain rfl := Option.some.inj H; have p10 : 0 ≤ (qa : Int) := oda; have q10 : qa < (a0.size : Int) := oda; have hx10 := bt_at a0 qa; replace p10 := eq_true p10; replace q10 := eq_true q10; have p12 : 0 ≤ (qa : Int) := oda; have q12 : qa < (a0.size : Int) := oda; have hx12 := bt_at a0 qa; replace p12 := eq_true p12; replace q12 := eq_true q12; have p14 : 0 ≤ (qa : Int) := oda; have q14 : qa < (a0.size : Int) := oda; have hx14 := bt_at a0 qa; replace p14 := eq_true p14; replace q14 := eq_true q14; have p16 : 0 ≤ (qa : Int) := oda; have q16 : qa < (a0.size : Int) := oda; have hx16 := bt_at a0 qa; replace p16 := eq_true p16; replace q16 := eq_true q16; have p19 : 0 ≤ (qa : Int) := oda; have q19 : qa < (a0.size : Int) := oda; have hx19 := bt_at a0 qa; replace p19 := eq_true p19; replace q19 := eq_true q19; have p21 : 0 ≤ (qa : Int) := oda; have q21 : qa < (a0.size : Int) := oda; have hx21 := bt_at a0 qa; replace p21 := eq_true p21; replace q21 := eq_true q21
               go_wp2
               go_ret
               exact ⟨Ye1, dz⟩
              ·rw [if_neg c22] at H
               have c22b0 : ((bt a0 qa) == 63) = false := beq_eq_false_iff_ne.mpr c22; have c22b1 : ((bt a0 qa) != 63) = true := bne_iff_ne.mpr c22; have H' := Aside0.mk H; clear H; have p10 : 0 ≤ (qa : Int) := oda; have q10 : qa < (a0.size : Int) := oda; have hx10 := bt_at a0 qa; replace p10 := eq_true p10; replace q10 := eq_true q10; have p12 : 0 ≤ (qa : Int) := oda; have q12 : qa < (a0.size : Int) := oda; have hx12 := bt_at a0 qa; replace p12 := eq_true p12; replace q12 := eq_true q12; have p14 : 0 ≤ (qa : Int) := oda; have q14 : qa < (a0.size : Int) := oda; have hx14 := bt_at a0 qa; replace p14 := eq_true p14; replace q14 := eq_true q14; have p16 : 0 ≤ (qa : Int) := oda; have q16 : qa < (a0.size : Int) := oda; have hx16 := bt_at a0 qa; replace p16 := eq_true p16; replace q16 := eq_true q16; have p19 : 0 ≤ (qa : Int) := oda; have q19 : qa < (a0.size : Int) := oda; have hx19 := bt_at a0 qa; replace p19 := eq_true p19; replace q19 := eq_true q19; have p21 : 0 ≤ (qa : Int) := oda; have q21 : qa < (a0.size : Int) := oda; have hx21 := bt_at a0 qa; replace p21 := eq_true p21; replace q21 := eq_true q21
               go_wp2
               go_roundg k2
               case measure => have := HJ2.out; have := HK2.out; omega
               case rel => exact ⟨(wrap64 (qa + 1)), Ye1, H', ⟨by have := HJ2.out; have := HK2.out; omega⟩, dz⟩
       ·rw [if_neg c9] at H
        exact absurd H (by simp)
      ·rw [if_neg c8] at H
       have c8b0 : decide (qa < (a0.size : Int)) = false := decide_eq_false c8; clear c8; obtain rfl := Option.some.inj H
       go_wp2
       go_ret
       exact ⟨Ye1, dz⟩

end Go.Proofs.YtgnmledjkamojaaDoor.P


namespace Go.Proofs.YtgnmledjkamojaaDoor.P
open Go.RowKit Go.Proofs.YtgnmledjkamojaaDoorW.PrintWords Go.Proofs.YtgnmledjkamojaaDoorW.PrintLast Go.Proofs.YtgnmledjkamojaaDoorW.PrintMore
attribute [local go_sem] max2_int min2_int max_two min_two max_three min_three max_four min_four
set_option linter.unusedVariables false
set_option linter.unusedSimpArgs false

/-! ### spec_l4Parts: function 87 -/
def spec_l4Parts.l0 : Nat → ByteArray → List ByteArray → Int → Int → Option (List ByteArray)
 | 0, _, _, _, _ => none
 | k + 1, x0, x3, x4, x5 => if x5 < (x0.size : Int) then (if 0 ≤ x5 then (if (bt x0 x5) = 47 then (if 0 ≤ x4 then (if x4 ≤ x5 then (if x5 ≤ (x0.size : Int) then (if x3.length < 8796093022208 then (spec_l4Parts.l0 k x0 (x3 ++ [x0.extract (x4 : Int).toNat (x5 : Int).toNat]) (wrap64 (x5 + 1)) (wrap64 (x5 + 1))) else (none)) else (none)) else (none)) else (none)) else (spec_l4Parts.l0 k x0 x3 x4 (wrap64 (x5 + 1)))) else (none)) else (if 0 ≤ x4 then (if x4 ≤ (x0.size : Int) then (if x3.length < 8796093022208 then (some (x3 ++ [x0.extract (x4 : Int).toNat x0.size])) else (none)) else (none)) else (none))
def spec_l4Parts.f (k : Nat) (a0 : ByteArray) : Option (List ByteArray) := spec_l4Parts.l0 k a0 (([] : List ByteArray)) 0 0
theorem spec_l4Parts.mono_l : ∀ k, (∀ y0 y1 y2 y3, LeO (spec_l4Parts.l0 k y0 y1 y2 y3) (spec_l4Parts.l0 (k + 1) y0 y1 y2 y3))
 | 0 => fun _ _ _ _ r h => by simp [spec_l4Parts.l0] at h
 | k + 1 => by
  have ih0 := spec_l4Parts.mono_l k
  ·intro y0 y1 y2 y3
   unfold spec_l4Parts.l0
   repeat' first
   | (with_reducible exact ih0 _ _ _ _)
   | (with_reducible exact LeO.refl _)
   | (with_reducible exact LeO.none _)
   | (with_reducible refine LeO.ite ?_ ?_)
   | (with_reducible refine LeO.bind ?_ (fun _ => ?_))
   | exact ih0 _ _ _ _
   | exact LeO.none _
   | refine LeO.ite ?_ ?_
   | refine LeO.bind ?_ (fun _ => ?_)
theorem spec_l4Parts.mono : ∀ a0 k, LeO (spec_l4Parts.f k a0) (spec_l4Parts.f (k + 1) a0) := by
 intro a0 k; have ih0 := spec_l4Parts.mono_l k
 unfold spec_l4Parts.f
 repeat' first
   | (with_reducible exact ih0 _ _ _ _)
   | (with_reducible exact LeO.refl _)
   | (with_reducible exact LeO.none _)
   | (with_reducible refine LeO.ite ?_ ?_)
   | (with_reducible refine LeO.bind ?_ (fun _ => ?_))
   | exact ih0 _ _ _ _
   | exact LeO.none _
   | refine LeO.ite ?_ ?_
   | refine LeO.bind ?_ (fun _ => ?_)
set_option maxHeartbeats 8000000 in
set_option maxRecDepth 100000 in
theorem spec_l4Parts.calls (k : Nat) (a0 : ByteArray) (r : List ByteArray) (w : World) (h : spec_l4Parts.f k a0 = some r) :
  Calls Tryd.prog 87 #[.string a0] w fun e w' => ∃ v0_ : Value, e = .returned (v0_) ∧ Kd.R Kd.string 9 w' w.heap.size (fun _ => True) v0_ r ∧ Below w.heap.size w w' := by
 have HB := Aside0.mk (Below.refl w.heap.size w); have H : (spec_l4Parts.l0 k a0 (([] : List ByteArray)) 0 0) = some r := h; clear h
 obtain ⟨y106, hy106⟩ : ∃ y_ : List ByteArray, y_ = (([] : List ByteArray)) := ⟨_, rfl⟩
 replace H : (spec_l4Parts.l0 k a0 y106 0 0) = some r := by first | (rw [hy106]; with_reducible exact H) | (have H2_ := (Option.bind_some _ _).symm.trans H; rw [hy106]; with_reducible exact H2_) | (have H2_ := (Option.bind_some _ _).symm.trans H; with_reducible exact H2_) | with_reducible exact H | (rw [hy106]; exact H) | exact H
 have Ny106 := Aside0.mk hy106; clear hy106; have H' := Aside0.mk H; clear H
 go_enter Tryd.func87, Tryd.ntmps87
 go_wp2_with (first | ((with_reducible refine gd 6 rfl ?_); refine Kd.R_lit Kd.string _ 9 ?hg (N := 6) ?hd (xs := ([] : List ByteArray)) (inner := []) (ok := fun _ => True) (okp := fun _ => True) ?hr ?hp (fun _ hk => hk) trivial (Below.refl _ _) (Nat.le_refl _) (by simp) ?_; (case hd => rfl); (case hg => rfl); (case hr => first | (go_simp; done) | (go_simp; rfl)); (case hp => exact (Reps.none _ _)); intro v107 w2 ho3 hb hg_ hnew_; clear hg_ hnew_; (first | rw [← Ny106.out] at ho3 | (simp only [Int.reduceToNat] at ho3; rw [← Ny106.out] at ho3)); refine Ya2 (Kd.R_lower ho3 (below_size (be HB.out))) (below_step (be HB.out) hb) ?_; clear HB; intro HO108 HB; clear hb ho3))
 go_loopg [3, 4, 5] k (fun kq v3 v4 v5 w' => ∃ (x3_1 : List ByteArray) (x4_1 : Int) (qa : Int), v4 = .int .i64 x4_1 ∧ v5 = .int .i64 qa ∧ Aside0 (spec_l4Parts.l0 kq a0 x3_1 x4_1 qa = some r) ∧ Aside0 (kq ≤ k) ∧ Aside0 (Kd.R Kd.string 9 w' w.heap.size (fun _ => True) v3 x3_1) ∧ Aside0 (Below w.heap.size w w'))
 case atStart => exact ⟨(y106), (0), (0), Ye1, Ye1, H', ⟨Nat.le_refl _⟩, ⟨kr HO108.out⟩, ⟨be HB.out⟩⟩
 case round =>
  clear H'; (try clear p2); obtain ⟨x3_1, x4_1, qa, rfl, rfl, HA, HK1, HO_3, HB⟩ := hrel
  cases gk with
  | zero => exact absurd HA.out (by simp [spec_l4Parts.l0])
  | succ k1 =>
   have H := HA.out; clear HA; simp only [spec_l4Parts.l0] at H
   by_cases c4 : qa < (a0.size : Int)
   ·rw [if_pos c4] at H
    have c4b0 : decide (qa < (a0.size : Int)) = true := decide_eq_true c4; clear c4
    by_cases c5 : 0 ≤ qa
    ·rw [if_pos c5] at H
     have c5b0 : decide (0 ≤ qa) = true := decide_eq_true c5; clear c5
     by_cases c7 : (bt a0 qa) = 47
     ·rw [if_pos c7] at H
      have c7b0 : ((bt a0 qa) == 47) = true := beq_iff_eq.mpr c7; have c7b1 : ((bt a0 qa) != 47) = false := bne_eq_false_iff_eq.mpr c7; clear c7
      by_cases c8 : 0 ≤ x4_1
      ·rw [if_pos c8] at H
       have c8b0 := eq_true c8; have c8b1 : decide (0 ≤ x4_1) = true := decide_eq_true c8; clear c8
       by_cases c9 : x4_1 ≤ qa
       ·rw [if_pos c9] at H
        have c9b0 := eq_true c9; have c9b1 : decide (x4_1 ≤ qa) = true := decide_eq_true c9; clear c9
        by_cases c10 : qa ≤ (a0.size : Int)
        ·rw [if_pos c10] at H
         have c10b0 := eq_true c10; have c10b1 : decide (qa ≤ (a0.size : Int)) = true := decide_eq_true c10; clear c10
         by_cases c11 : x3_1.length < 8796093022208
         ·rw [if_pos c11] at H
          have LMc11 := Aside0.mk c11; clear c11
          obtain ⟨y109, hy109⟩ : ∃ y_ : List ByteArray, y_ = (x3_1 ++ [a0.extract (x4_1 : Int).toNat (qa : Int).toNat]) := ⟨_, rfl⟩
          replace H : (spec_l4Parts.l0 k1 a0 y109 (wrap64 (qa + 1)) (wrap64 (qa + 1))) = some r := by first | (rw [hy109]; with_reducible exact H) | (have H2_ := (Option.bind_some _ _).symm.trans H; rw [hy109]; with_reducible exact H2_) | (have H2_ := (Option.bind_some _ _).symm.trans H; with_reducible exact H2_) | with_reducible exact H | (rw [hy109]; exact H) | exact H
          have Ny109 := Aside0.mk hy109; clear hy109; have H' := Aside0.mk H; clear H; have p6 : 0 ≤ (qa : Int) := oda; have q6 : qa < (a0.size : Int) := oda; have hx6 := bt_at a0 qa; replace p6 := eq_true p6; replace q6 := eq_true q6
          go_wp2_with (first | ((with_reducible refine gate_builtin (b := .append) (xs := #[.tmp 17, .tmp 22]) rfl ?_); at_builtin; refine Kd.R_append Kd.string (w0 := w) w.heap.size rfl (.tmp 17) (.tmp 22) 50 9 (.string ⟨#[]⟩) 16 rfl Tryd.underlying50 info9 rfl (by decide) (by omega) u3 x3_1 (a0.extract (x4_1 : Int).toNat (qa : Int).toNat) [.string (a0.extract (x4_1 : Int).toNat (qa : Int).toNat)] (fun _ => True) (fun _ => False) rfl rfl ?aP (fun _ hk => hk.elim) ?aF ?aO ?aB ?aS ?aL ?_; (case aP => exact rfl); (case aB => exact (be HB.out)); (case aF => exact (fun _ _ => trivial)); (case aO => exact (kr HO_3.out)); (case aS => exact (below_size (be HB.out))); (case aL => have := LMc11.out; omega); intro v110 w12 ho hb hg hat; rw [← Ny109.out] at ho; refine Ya2 (hb) (ho) ?_; clear HB HO_3; intro HB HO111; clear ho hb hg hat))
          go_roundg k1
          case measure => have := HK1.out; omega
          case rel => exact ⟨(y109), (wrap64 (qa + 1)), (wrap64 (qa + 1)), Ye1, Ye1, H', ⟨by have := HK1.out; omega⟩, ⟨kr HO111.out⟩, ⟨be HB.out⟩⟩
         ·rw [if_neg c11] at H
          exact absurd H (by simp)
        ·rw [if_neg c10] at H
         exact absurd H (by simp)
       ·rw [if_neg c9] at H
        exact absurd H (by simp)
      ·rw [if_neg c8] at H
       exact absurd H (by simp)
     ·rw [if_neg c7] at H
      have c7b0 : ((bt a0 qa) == 47) = false := beq_eq_false_iff_ne.mpr c7; have c7b1 : ((bt a0 qa) != 47) = true := bne_iff_ne.mpr c7; have H' := Aside0.mk H; clear H; have p6 : 0 ≤ (qa : Int) := oda; have q6 : qa < (a0.size : Int) := oda; have hx6 := bt_at a0 qa; replace p6 := eq_true p6; replace q6 := eq_true q6
      go_wp2
      go_roundg k1
      case measure => have := HK1.out; omega
      case rel => exact ⟨(x3_1), (x4_1), (wrap64 (qa + 1)), Ye1, Ye1, H', ⟨by have := HK1.out; omega⟩, ⟨kr HO_3.out⟩, ⟨be HB.out⟩⟩
    ·rw [if_neg c5] at H
     exact absurd H (by simp)
   ·rw [if_neg c4] at H
    have c4b0 : decide (qa < (a0.size : Int)) = false := decide_eq_false c4; clear c4
    by_cases c13 : 0 ≤ x4_1
    ·rw [if_pos c13] at H
     have c13b0 := eq_true c13; have c13b1 : decide (0 ≤ x4_1) = true := decide_eq_true c13; clear c13
     by_cases c14 : x4_1 ≤ (a0.size : Int)
     ·rw [if_pos c14] at H
      have c14b0 := eq_true c14; have c14b1 : decide (x4_1 ≤ (a0.size : Int)) = true := decide_eq_true c14; clear c14
      by_cases c15 : x3_1.length < 8796093022208
      ·rw [if_pos c15] at H
       have LMc15 := Aside0.mk c15; clear c15
       obtain ⟨y112, hy112⟩ : ∃ y_ : List ByteArray, y_ = (x3_1 ++ [a0.extract (x4_1 : Int).toNat a0.size]) := ⟨_, rfl⟩
       replace H : (some y112) = some r := by first | (rw [hy112]; with_reducible exact H) | (have H2_ := (Option.bind_some _ _).symm.trans H; rw [hy112]; with_reducible exact H2_) | (have H2_ := (Option.bind_some _ _).symm.trans H; with_reducible exact H2_) | with_reducible exact H | (rw [hy112]; exact H) | exact H
       have Ny112 := Aside0.mk hy112; clear hy112; obtain rfl := Option.some.inj H
       go_wp2_with (first | ((with_reducible refine gate_builtin (b := .append) (xs := #[.tmp 26, .tmp 30]) rfl ?_); at_builtin; refine Kd.R_append Kd.string (w0 := w) w.heap.size rfl (.tmp 26) (.tmp 30) 50 9 (.string ⟨#[]⟩) 16 rfl Tryd.underlying50 info9 rfl (by decide) (by omega) u3 x3_1 (a0.extract (x4_1 : Int).toNat a0.size) [.string (a0.extract (x4_1 : Int).toNat a0.size)] (fun _ => True) (fun _ => False) rfl rfl ?aP (fun _ hk => hk.elim) ?aF ?aO ?aB ?aS ?aL ?_; (case aP => exact rfl); (case aB => exact (be HB.out)); (case aF => exact (fun _ _ => trivial)); (case aO => exact (kr HO_3.out)); (case aS => exact (below_size (be HB.out))); (case aL => have := LMc15.out; omega); intro v113 w16 ho hb hg hat; rw [← Ny112.out] at ho; refine Ya2 (hb) (ho) ?_; clear HB HO_3; intro HB HO114; clear ho hb hg hat))
       go_ret
       exact ⟨_, Ye2, kr HO114.out, be HB.out⟩
      ·rw [if_neg c15] at H
       exact absurd H (by simp)
     ·rw [if_neg c14] at H
      exact absurd H (by simp)
    ·rw [if_neg c13] at H
     exact absurd H (by simp)

end Go.Proofs.YtgnmledjkamojaaDoor.P


namespace Go.Proofs.YtgnmledjkamojaaDoor.P
open Go.RowKit Go.Proofs.YtgnmledjkamojaaDoorW.PrintWords Go.Proofs.YtgnmledjkamojaaDoorW.PrintLast Go.Proofs.YtgnmledjkamojaaDoorW.PrintMore
attribute [local go_sem] max2_int min2_int max_two min_two max_three min_three max_four min_four
set_option linter.unusedVariables false
set_option linter.unusedSimpArgs false

/-! ### spec_l4Ok: function 93 -/
def spec_l4Ok.l0 : Nat → Bool → List ByteArray → Int → Option (Bool)
 | 0, _, _, _ => none
 | k + 1, x1, x5, x6 => if x6 < (x5.length : Int) then (if 0 ≤ x6 then ((spec_l4PartOk.f k (rdOf ByteArray.empty x5 x6) x1).bind fun t120 => (if t120 = true then (spec_l4Ok.l0 k x1 x5 (wrap64 (x6 + 1))) else (some false))) else (none)) else (some true)
def spec_l4Ok.f (k : Nat) (a0 : ByteArray) (a1 : Bool) : Option (Bool) := if (a0.size : Int) > 126 then (some false) else ((spec_l4Parts.f k a0).bind fun t116 => (if (t116.length : Int) > 6 then (some false) else (spec_l4Ok.l0 k a1 t116 0)))
theorem spec_l4Ok.mono_l : ∀ k, (∀ y0 y1 y2, LeO (spec_l4Ok.l0 k y0 y1 y2) (spec_l4Ok.l0 (k + 1) y0 y1 y2))
 | 0 => fun _ _ _ r h => by simp [spec_l4Ok.l0] at h
 | k + 1 => by
  have ih0 := spec_l4Ok.mono_l k
  ·intro y0 y1 y2
   unfold spec_l4Ok.l0
   repeat' first
   | (with_reducible exact ih0 _ _ _)
   | (with_reducible exact spec_l4PartOk.mono _ _ _)
   | (with_reducible exact spec_l4Parts.mono _ _)
   | (with_reducible exact LeO.refl _)
   | (with_reducible exact LeO.none _)
   | (with_reducible refine LeO.ite ?_ ?_)
   | (with_reducible refine LeO.bind ?_ (fun _ => ?_))
   | exact ih0 _ _ _
   | exact spec_l4PartOk.mono _ _ _
   | exact spec_l4Parts.mono _ _
   | exact LeO.none _
   | refine LeO.ite ?_ ?_
   | refine LeO.bind ?_ (fun _ => ?_)
theorem spec_l4Ok.mono : ∀ a0 a1 k, LeO (spec_l4Ok.f k a0 a1) (spec_l4Ok.f (k + 1) a0 a1) := by
 intro a0 a1 k; have ih0 := spec_l4Ok.mono_l k
 unfold spec_l4Ok.f
 repeat' first
   | (with_reducible exact ih0 _ _ _)
   | (with_reducible exact spec_l4PartOk.mono _ _ _)
   | (with_reducible exact spec_l4Parts.mono _ _)
   | (with_reducible exact LeO.refl _)
   | (with_reducible exact LeO.none _)
   | (with_reducible refine LeO.ite ?_ ?_)
   | (with_reducible refine LeO.bind ?_ (fun _ => ?_))
   | exact ih0 _ _ _
   | exact spec_l4PartOk.mono _ _ _
   | exact spec_l4Parts.mono _ _
   | exact LeO.none _
   | refine LeO.ite ?_ ?_
   | refine LeO.bind ?_ (fun _ => ?_)
set_option maxHeartbeats 8000000 in
set_option maxRecDepth 100000 in
theorem spec_l4Ok.calls (k : Nat) (a0 : ByteArray) (a1 : Bool) (r : Bool) (w : World) (h : spec_l4Ok.f k a0 a1 = some r) :
  Calls Tryd.prog 93 #[.string a0, .bool a1] w fun e w' => e = .returned (.bool r) ∧ Below w.heap.size w w' := by
 have HB := Aside0.mk (Below.refl w.heap.size w); have H : (if (a0.size : Int) > 126 then (some false) else ((spec_l4Parts.f k a0).bind fun t116 => (if (t116.length : Int) > 6 then (some false) else (spec_l4Ok.l0 k a1 t116 0)))) = some r := h; clear h
 by_cases c3 : (a0.size : Int) > 126
 ·rw [if_pos c3] at H
  have c3b0 : decide (126 < (a0.size : Int)) = true := decide_eq_true c3; have c3b1 : decide (126 < a0.size) = true := decide_eq_true (by omega); clear c3; obtain rfl := Option.some.inj H
  go_enter Tryd.func93, Tryd.ntmps93
  go_wp2
  go_ret
  exact ⟨Ye2, be HB.out⟩
 ·rw [if_neg c3] at H
  have c3b0 : decide (126 < (a0.size : Int)) = false := decide_eq_false c3; have c3b1 : decide (126 < a0.size) = false := decide_eq_false (by omega); clear c3; replace H := Option.bind_eq_some_iff.mp H; obtain ⟨t116, A40, H⟩ := H; replace H : (if (t116.length : Int) > 6 then (some false) else (spec_l4Ok.l0 k a1 t116 0)) = some r := H; have A4 := Aside0.mk A40; clear A40
  by_cases c5 : (t116.length : Int) > 6
  ·rw [if_pos c5] at H
   have c5b0 : decide (6 < (t116.length : Int)) = true := decide_eq_true c5; have c5b1 : decide (6 < t116.length) = true := decide_eq_true (by omega); clear c5; obtain rfl := Option.some.inj H
   go_enter Tryd.func93, Tryd.ntmps93
   go_wp2_with (first | ((with_reducible refine gc 87 rfl ?_); refine gl (some 11) _ (#[.string a0]) Tryd.func87 ?_; (with_reducible refine (spec_l4Parts.calls k a0 t116 _ A4.out).mono ?_); rintro e w6 ⟨v117, rfl, ho0, hb⟩; refine ⟨_, rfl, ?_⟩; refine Ya2 (Kd.R_lower ho0 (below_size (be HB.out))) (below_step (be HB.out) hb) ?_; clear HB; intro HO118 HB; (try clear hb); (try clear hb2); (try clear hk); (try clear hi); (try clear ho0); obtain ⟨Ao7, co7, eo7⟩ := Kd.R_slice HO118.out; subst eo7))
   go_ret
   exact ⟨Ye2, be HB.out⟩
  ·rw [if_neg c5] at H
   have c5b0 : decide (6 < (t116.length : Int)) = false := decide_eq_false c5; have c5b1 : decide (6 < t116.length) = false := decide_eq_false (by omega); clear c5; have H' := Aside0.mk H; clear H
   go_enter Tryd.func93, Tryd.ntmps93
   go_wp2_with (first | ((with_reducible refine gc 87 rfl ?_); refine gl (some 11) _ (#[.string a0]) Tryd.func87 ?_; (with_reducible refine (spec_l4Parts.calls k a0 t116 _ A4.out).mono ?_); rintro e w8 ⟨v117, rfl, ho0, hb⟩; refine ⟨_, rfl, ?_⟩; refine Ya2 (Kd.R_lower ho0 (below_size (be HB.out))) (below_step (be HB.out) hb) ?_; clear HB; intro HO118 HB; (try clear hb); (try clear hb2); (try clear hk); (try clear hi); (try clear ho0); obtain ⟨Ao9, co9, eo9⟩ := Kd.R_slice HO118.out; subst eo9))
   go_loopg [6] k (fun kq v6 w' => ∃ (qa : Int), v6 = .int .i64 qa ∧ Aside0 (spec_l4Ok.l0 kq a1 t116 qa = some r) ∧ Aside0 (kq ≤ k) ∧ Aside0 (Kd.R Kd.string 9 w' w.heap.size (fun _ => True) (.slice Ao9 t116.length co9) t116) ∧ Aside0 (Below w.heap.size w w'))
   case atStart => exact ⟨(0), Ye1, H', ⟨Nat.le_refl _⟩, ⟨kr HO118.out⟩, ⟨be HB.out⟩⟩
   case round =>
    clear H'; (try clear p2); (try clear c3); (try clear c3b0); (try clear c3b1); (try clear c5); (try clear c5b0); (try clear c5b1); (try clear c8); (try clear c9); obtain ⟨qa, rfl, HA, HK1, HO_5, HB⟩ := hrel
    cases gk with
    | zero => exact absurd HA.out (by simp [spec_l4Ok.l0])
    | succ k1 =>
     have H := HA.out; clear HA; simp only [spec_l4Ok.l0] at H
     by_cases c10 : qa < (t116.length : Int)
     ·rw [if_pos c10] at H
      have c10b0 : decide (qa < (t116.length : Int)) = true := decide_eq_true c10; clear c10
      by_cases c11 : 0 ≤ qa
      ·rw [if_pos c11] at H
       have c11b0 : decide (0 ≤ qa) = true := decide_eq_true c11; clear c11; replace H := Option.bind_eq_some_iff.mp H; obtain ⟨t120, A120, H⟩ := H; replace H : (if t120 = true then (spec_l4Ok.l0 k1 a1 t116 (wrap64 (qa + 1))) else (some false)) = some r := H; have A12 := Aside0.mk A120; clear A120
       by_cases c13 : t120 = true
       ·subst c13
        have H1 : (spec_l4Ok.l0 k1 a1 t116 (wrap64 (qa + 1))) = some r := by rw [if_pos rfl] at H; exact H
        clear H; have H := H1; clear H1; have H' := Aside0.mk H; clear H; have p119 : 0 ≤ (qa : Int) := oda; have q119 : qa < (t116.length : Int) := oda; obtain ⟨ad119, e119, hx119_0⟩ := Kd.at_string (Kd.R_reads' HO_5.out).2.2 qa p119 q119
        cases e119
        replace p119 := eq_true p119; replace q119 := eq_true q119
        go_wp2_with (first | ((with_reducible refine gc 152 rfl ?_); refine gl (some 26) _ (#[.string (rdOf ByteArray.empty t116 qa), .bool a1]) Tryd.func152 ?_; (with_reducible refine (spec_l4PartOk.calls k1 (rdOf ByteArray.empty t116 qa) a1 true _ A12.out).mono ?_); rintro e w' ⟨rfl, ⟨nd, rfl⟩⟩; refine ⟨_, rfl, ?_⟩))
        go_roundg k1
        case measure => have := HK1.out; omega
        case rel => exact ⟨(wrap64 (qa + 1)), Ye1, H', ⟨by have := HK1.out; omega⟩, ⟨kr HO_5.out⟩, ⟨be HB.out⟩⟩
       ·replace c13 := Bool.eq_false_iff.mpr c13; subst c13
        have H1 : (some false) = some r := by rw [if_neg (show ¬ (false = true) by decide)] at H; exact H
        clear H; have H := H1; clear H1; obtain rfl := Option.some.inj H; have p119 : 0 ≤ (qa : Int) := oda; have q119 : qa < (t116.length : Int) := oda; obtain ⟨ad119, e119, hx119_0⟩ := Kd.at_string (Kd.R_reads' HO_5.out).2.2 qa p119 q119
        cases e119
        replace p119 := eq_true p119; replace q119 := eq_true q119
        go_wp2_with (first | ((with_reducible refine gc 152 rfl ?_); refine gl (some 26) _ (#[.string (rdOf ByteArray.empty t116 qa), .bool a1]) Tryd.func152 ?_; (with_reducible refine (spec_l4PartOk.calls k1 (rdOf ByteArray.empty t116 qa) a1 false _ A12.out).mono ?_); rintro e w' ⟨rfl, ⟨nd, rfl⟩⟩; refine ⟨_, rfl, ?_⟩))
        go_ret
        exact ⟨Ye2, be HB.out⟩
      ·rw [if_neg c11] at H
       exact absurd H (by simp)
     ·rw [if_neg c10] at H
      have c10b0 : decide (qa < (t116.length : Int)) = false := decide_eq_false c10; clear c10; obtain rfl := Option.some.inj H
      go_wp2
      go_ret
      exact ⟨Ye2, be HB.out⟩

end Go.Proofs.YtgnmledjkamojaaDoor.P


namespace Go.Proofs.YtgnmledjkamojaaDoor.P
open Go.RowKit Go.Proofs.YtgnmledjkamojaaDoorW.PrintWords Go.Proofs.YtgnmledjkamojaaDoorW.PrintLast Go.Proofs.YtgnmledjkamojaaDoorW.PrintMore
attribute [local go_sem] max2_int min2_int max_two min_two max_three min_three max_four min_four
set_option linter.unusedVariables false
set_option linter.unusedSimpArgs false

/-! ### spec_ValidPath: function 30 -/
def spec_ValidPath.f (k : Nat) (a0 : ByteArray) : Option (Bool) := (spec_l4Ok.f k a0 false).bind fun t121 => (some t121)
theorem spec_ValidPath.mono : ∀ a0 k, LeO (spec_ValidPath.f k a0) (spec_ValidPath.f (k + 1) a0) := by
 intro a0 k
 unfold spec_ValidPath.f
 repeat' first
   | (with_reducible exact spec_l4Ok.mono _ _ _)
   | (with_reducible exact LeO.refl _)
   | (with_reducible exact LeO.none _)
   | (with_reducible refine LeO.ite ?_ ?_)
   | (with_reducible refine LeO.bind ?_ (fun _ => ?_))
   | exact spec_l4Ok.mono _ _ _
   | exact LeO.none _
   | refine LeO.ite ?_ ?_
   | refine LeO.bind ?_ (fun _ => ?_)
set_option maxHeartbeats 8000000 in
set_option maxRecDepth 100000 in
theorem spec_ValidPath.calls (k : Nat) (a0 : ByteArray) (r : Bool) (w : World) (h : spec_ValidPath.f k a0 = some r) :
  Calls Tryd.prog 30 #[.string a0] w fun e w' => e = .returned (.bool r) ∧ Below w.heap.size w w' := by
 have HB := Aside0.mk (Below.refl w.heap.size w); have H : ((spec_l4Ok.f k a0 false).bind fun t121 => (some t121)) = some r := h; clear h; replace H := Option.bind_eq_some_iff.mp H; obtain ⟨t121, A20, H⟩ := H; replace H : (some t121) = some r := H; have A2 := Aside0.mk A20; clear A20; obtain rfl := Option.some.inj H
 go_enter Tryd.func30, Tryd.ntmps30
 go_wp2_with (first | ((with_reducible refine gc 93 rfl ?_); refine gl (some 4) _ (#[.string a0, .bool false]) Tryd.func93 ?_; (with_reducible refine (spec_l4Ok.calls k a0 false t121 _ A2.out).mono ?_); rintro e w3 ⟨rfl, hb⟩; refine ⟨_, rfl, ?_⟩; refine Ya1 (below_step (be HB.out) hb) ?_; clear HB; intro HB; (try clear hb); (try clear hb2); (try clear hk); (try clear hi)))
 go_ret
 exact ⟨Ye2, be HB.out⟩

end Go.Proofs.YtgnmledjkamojaaDoor.P


namespace Go.Proofs.YtgnmledjkamojaaDoor.P
open Go.RowKit Go.Proofs.YtgnmledjkamojaaDoorW.PrintWords Go.Proofs.YtgnmledjkamojaaDoorW.PrintLast Go.Proofs.YtgnmledjkamojaaDoorW.PrintMore
attribute [local go_sem] max2_int min2_int max_two min_two max_three min_three max_four min_four
set_option linter.unusedVariables false
set_option linter.unusedSimpArgs false

/-! ### spec_ValidTree: function 48 -/
mutual
def spec_ValidTree.l0 : Nat → Int → List (S37) → Option (Bool)
 | 0, _, _ => none
 | k + 1, x3, x123000 => if x3 < (x123000.length : Int) then (if 0 ≤ x3 then ((spec_ValidPath.f k ((rd_T37 x123000 x3).f0)).bind fun t125 => (if t125 = true then (if (((rd_T37 x123000 x3).f1).size : Int) > 1500 then (spec_ValidTree.j1 k x3 true x123000 ((rd_T37 x123000 x3).f0) ((rd_T37 x123000 x3).f1) ((rd_T37 x123000 x3).f2)) else (if x3 > 0 then (if 0 ≤ (wrap64 (x3 - 1)) then (if (wrap64 (x3 - 1)) < (x123000.length : Int) then (spec_ValidTree.j1 k x3 (!(Op.bytesLess (((rd_T37 x123000 (wrap64 (x3 - 1))).f0).toList) (((rd_T37 x123000 x3).f0).toList))) x123000 ((rd_T37 x123000 x3).f0) ((rd_T37 x123000 x3).f1) ((rd_T37 x123000 x3).f2)) else (none)) else (none)) else (spec_ValidTree.j1 k x3 false x123000 ((rd_T37 x123000 x3).f0) ((rd_T37 x123000 x3).f1) ((rd_T37 x123000 x3).f2)))) else (spec_ValidTree.j1 k x3 true x123000 ((rd_T37 x123000 x3).f0) ((rd_T37 x123000 x3).f1) ((rd_T37 x123000 x3).f2)))) else (none)) else (some true)
def spec_ValidTree.j1 : Nat → Int → Bool → List (S37) → ByteArray → ByteArray → Bool → Option (Bool)
 | 0, _, _, _, _, _, _ => none
 | k + 1, x3, x47, x123000, x125000, x125001, x125002 => if x47 = true then (some false) else (spec_ValidTree.l1 k x3 0 x123000 x125000 x125001 x125002)
def spec_ValidTree.l1 : Nat → Int → Int → List (S37) → ByteArray → ByteArray → Bool → Option (Bool)
 | 0, _, _, _, _, _, _ => none
 | k + 1, x3, x5, x123000, x125000, x125001, x125002 => if x5 < x3 then (if 0 ≤ x5 then (if x5 < (x123000.length : Int) then ((spec_l5Begins.f ((rd_T37 x123000 x5).f0) x125000).bind fun t128 => (if t128 = true then (some false) else (spec_ValidTree.l1 k x3 (wrap64 (x5 + 1)) x123000 x125000 x125001 x125002))) else (none)) else (none)) else (spec_ValidTree.l0 k (wrap64 (x3 + 1)) x123000)
end
def spec_ValidTree.f (k : Nat) (qa : List (S37)) : Option (Bool) := if (qa.length : Int) > 100 then (some false) else (spec_ValidTree.l0 k 0 qa)
theorem spec_ValidTree.mono_l : ∀ k, (∀ y0 y1, LeO (spec_ValidTree.l0 k y0 y1) (spec_ValidTree.l0 (k + 1) y0 y1)) ∧ (∀ y0 y1 y2 y3 y4 y5, LeO (spec_ValidTree.j1 k y0 y1 y2 y3 y4 y5) (spec_ValidTree.j1 (k + 1) y0 y1 y2 y3 y4 y5)) ∧ (∀ y0 y1 y2 y3 y4 y5, LeO (spec_ValidTree.l1 k y0 y1 y2 y3 y4 y5) (spec_ValidTree.l1 (k + 1) y0 y1 y2 y3 y4 y5))
 | 0 => ⟨fun _ _ r h => by simp [spec_ValidTree.l0] at h, fun _ _ _ _ _ _ r h => by simp [spec_ValidTree.j1] at h, fun _ _ _ _ _ _ r h => by simp [spec_ValidTree.l1] at h⟩
 | k + 1 => by
  obtain ⟨ih0, ih1, ih2⟩ := spec_ValidTree.mono_l k; refine ⟨?_, ?_, ?_⟩
  ·intro y0 y1
   unfold spec_ValidTree.l0
   repeat' first
   | (with_reducible exact ih0 _ _)
   | (with_reducible exact ih1 _ _ _ _ _ _)
   | (with_reducible exact ih2 _ _ _ _ _ _)
   | (with_reducible exact spec_ValidPath.mono _ _)
   | (with_reducible exact LeO.refl _)
   | (with_reducible exact LeO.none _)
   | (with_reducible refine LeO.ite ?_ ?_)
   | (with_reducible refine LeO.bind ?_ (fun _ => ?_))
   | exact ih0 _ _
   | exact ih1 _ _ _ _ _ _
   | exact ih2 _ _ _ _ _ _
   | exact spec_ValidPath.mono _ _
   | exact LeO.none _
   | refine LeO.ite ?_ ?_
   | refine LeO.bind ?_ (fun _ => ?_)
  ·intro y0 y1 y2 y3 y4 y5
   unfold spec_ValidTree.j1
   repeat' first
   | (with_reducible exact ih0 _ _)
   | (with_reducible exact ih1 _ _ _ _ _ _)
   | (with_reducible exact ih2 _ _ _ _ _ _)
   | (with_reducible exact spec_ValidPath.mono _ _)
   | (with_reducible exact LeO.refl _)
   | (with_reducible exact LeO.none _)
   | (with_reducible refine LeO.ite ?_ ?_)
   | (with_reducible refine LeO.bind ?_ (fun _ => ?_))
   | exact ih0 _ _
   | exact ih1 _ _ _ _ _ _
   | exact ih2 _ _ _ _ _ _
   | exact spec_ValidPath.mono _ _
   | exact LeO.none _
   | refine LeO.ite ?_ ?_
   | refine LeO.bind ?_ (fun _ => ?_)
  ·intro y0 y1 y2 y3 y4 y5
   unfold spec_ValidTree.l1
   repeat' first
   | (with_reducible exact ih0 _ _)
   | (with_reducible exact ih1 _ _ _ _ _ _)
   | (with_reducible exact ih2 _ _ _ _ _ _)
   | (with_reducible exact spec_ValidPath.mono _ _)
   | (with_reducible exact LeO.refl _)
   | (with_reducible exact LeO.none _)
   | (with_reducible refine LeO.ite ?_ ?_)
   | (with_reducible refine LeO.bind ?_ (fun _ => ?_))
   | exact ih0 _ _
   | exact ih1 _ _ _ _ _ _
   | exact ih2 _ _ _ _ _ _
   | exact spec_ValidPath.mono _ _
   | exact LeO.none _
   | refine LeO.ite ?_ ?_
   | refine LeO.bind ?_ (fun _ => ?_)
theorem spec_ValidTree.mono : ∀ a0 k, LeO (spec_ValidTree.f k a0) (spec_ValidTree.f (k + 1) a0) := by
 intro a0 k; obtain ⟨ih0, ih1, ih2⟩ := spec_ValidTree.mono_l k
 unfold spec_ValidTree.f
 repeat' first
   | (with_reducible exact ih0 _ _)
   | (with_reducible exact ih1 _ _ _ _ _ _)
   | (with_reducible exact ih2 _ _ _ _ _ _)
   | (with_reducible exact spec_ValidPath.mono _ _)
   | (with_reducible exact LeO.refl _)
   | (with_reducible exact LeO.none _)
   | (with_reducible refine LeO.ite ?_ ?_)
   | (with_reducible refine LeO.bind ?_ (fun _ => ?_))
   | exact ih0 _ _
   | exact ih1 _ _ _ _ _ _
   | exact ih2 _ _ _ _ _ _
   | exact spec_ValidPath.mono _ _
   | exact LeO.none _
   | refine LeO.ite ?_ ?_
   | refine LeO.bind ?_ (fun _ => ?_)
def spec_ValidTree.T7 : Bool × List (List Nat × List Nat) := (true, [([], []), ([0], [0]), ([1], [1]), ([2], [2]), ([3, 2], [3]), ([4], [4]), ([5, 4], [4, 5]), ([6, 4], [4, 6]), ([7, 4], [4, 7]), ([4, 8], [4, 8]), ([9, 4], [9]), ([10], [10]), ([11, 10], [10, 11]), ([12, 10, 10], [10, 12]), ([13], [13]), ([14, 13], [13, 14]), ([13], [13]), ([16, 13], [13, 16]), ([15, 17, 13], [13, 15, 17]), ([18, 13], [13, 18]), ([19, 13], [13, 19]), ([13], [13]), ([21, 13], [13, 21]), ([20, 22, 13], [13, 20, 22]), ([13, 23, 10], [10, 13, 23]), ([10, 24], [10, 24])])
def spec_ValidTree.B7 : List Nat := [0, 1, 3, 7, 15, 31, 63, 127, 255, 511, 1023, 2047, 4095, 8191, 16383, 32767, 16383, 81919, 262143, 524287, 1048575, 16383, 2113535, 8388607, 16777215, 33554431]
theorem spec_ValidTree.tab7 : rtab .any (opsOf Tryd.f48 7) = spec_ValidTree.T7 := by kernel_rfl
theorem spec_ValidTree.bits7 : waitsOk spec_ValidTree.T7.2 spec_ValidTree.B7 = true := by kernel_rfl
def spec_ValidTree.T12 : Bool × List (List Nat × List Nat) := (true, [([], []), ([0], [0]), ([], []), ([1, 2], [1, 2]), ([3], [3]), ([4], [4]), ([], []), ([6], [6]), ([5, 7], [5, 7])])
def spec_ValidTree.B12 : List Nat := [0, 1, 0, 7, 15, 31, 0, 64, 255]
theorem spec_ValidTree.tab12 : rtab .any (opsOf Tryd.f48 12) = spec_ValidTree.T12 := by kernel_rfl
theorem spec_ValidTree.bits12 : waitsOk spec_ValidTree.T12.2 spec_ValidTree.B12 = true := by kernel_rfl
set_option maxHeartbeats 8000000 in
set_option maxRecDepth 100000 in
theorem spec_ValidTree.calls (k : Nat) (A0_0 : Option Addr) (c0_0 : Nat) (qa : List (S37)) (r : Bool) (w : World) (hr0_0 : Kd.C k37 w A0_0 qa.length qa) (hc0_0 : qa.length ≤ c0_0) (h : spec_ValidTree.f k qa = some r) :
  Calls Tryd.prog 48 #[.agg #[.slice A0_0 qa.length c0_0]] w fun e w' => e = .returned (.bool r) ∧ Below w.heap.size w w' := by
 have hu28 := Tryd.underlying28; have hu37 := Tryd.underlying37; have HR0_0 := Aside0.mk hr0_0; have HC0_0 := Aside0.mk hc0_0; clear hr0_0 hc0_0; have HB := Aside0.mk (Below.refl w.heap.size w); have H : (if (qa.length : Int) > 100 then (some false) else (spec_ValidTree.l0 k 0 qa)) = some r := h; clear h
 by_cases c2 : (qa.length : Int) > 100
 ·rw [if_pos c2] at H
  have c2b0 : decide (100 < (qa.length : Int)) = true := decide_eq_true c2; have c2b1 : decide (100 < qa.length) = true := decide_eq_true (by omega); clear c2; obtain rfl := Option.some.inj H
  go_enter Tryd.func48, Tryd.ntmps48
  go_wp2_with (first | ((with_reducible refine gd 1 rfl ?_); (try (refine gate_guard (by rfl) ?_; dsimp only)); refine bx 1 28 (#[.slice A0_0 qa.length c0_0]) ?_; intro gb122 hg w3 hbox hb; refine Ya4 (below_step (be HB.out) hb) (hbox) (bs hg (be HB.out)) (bs hg (be HB.out)) ?_; clear HB; intro HB qd GW122 qg; clear hb hbox hg; have ⟨hcz4_0, hfz4_0⟩ := Yc1 qd.out))
  go_ret
  exact ⟨Ye2, (by first | exact be1 HB.out qg.out | exact be HB.out)⟩
 ·rw [if_neg c2] at H
  have c2b0 : decide (100 < (qa.length : Int)) = false := decide_eq_false c2; have c2b1 : decide (100 < qa.length) = false := decide_eq_false (by omega); clear c2; have H' := Aside0.mk H; clear H
  go_enter Tryd.func48, Tryd.ntmps48
  go_wp2_with (first | ((with_reducible refine gd 1 rfl ?_); (try (refine gate_guard (by rfl) ?_; dsimp only)); refine bx 1 28 (#[.slice A0_0 qa.length c0_0]) ?_; intro gb122 hg w5 hbox hb; refine Ya4 (below_step (be HB.out) hb) (hbox) (bs hg (be HB.out)) (bs hg (be HB.out)) ?_; clear HB; intro HB qd GW122 qg; clear hb hbox hg; have ⟨hcz6_0, hfz6_0⟩ := Yc1 qd.out))
  go_loopg [3] k (fun kq v3 w' => ∃ (qb : Int), v3 = .int .i64 qb ∧ Aside0 (spec_ValidTree.l0 kq qb qa = some r) ∧ Aside0 (kq ≤ k) ∧ Aside0 (w'.heap[gb122]? = some (.cells #[(.slice A0_0 qa.length c0_0)] 28 (0, 0))) ∧ Aside0 (Below w.heap.size w w'))
  case atStart => exact ⟨(0), Ye1, H', ⟨Nat.le_refl _⟩, ⟨bk qd.out⟩, ⟨be1 HB.out qg.out⟩⟩
  case round =>
   clear H'; (try clear c2); (try clear c2b0); (try clear c2b1); (try clear p2); (try clear c4); (try clear hcz4_0); (try clear hcz6_0); (try clear hfz4_0); (try clear hfz6_0); obtain ⟨qb, rfl, HA, HK1, qd, HB⟩ := hrel
   cases gk with
   | zero => exact absurd HA.out (by simp [spec_ValidTree.l0])
   | succ k1 =>
    have H := HA.out; clear HA; simp only [spec_ValidTree.l0] at H
    by_cases c7 : qb < (qa.length : Int)
    ·rw [if_pos c7] at H
     have c7b0 : decide (qb < (qa.length : Int)) = true := decide_eq_true c7; clear c7
     by_cases c8 : 0 ≤ qb
     ·rw [if_pos c8] at H
      have c8b0 : decide (0 ≤ qb) = true := decide_eq_true c8; clear c8; have HC9 := Aside0.mk H; clear H; have ⟨hcz10_0, hfz10_0⟩ := Yc1 qd.out; have p123 : 0 ≤ (qb : Int) := oda; have q123 : qb < (qa.length : Int) := oda; obtain ⟨ad123, e123, hx123_0, hx123_1, hx123_2⟩ := at_T37 (Kd.C_below HR0_0.out HB.out) qb p123 q123
      cases e123
      replace p123 := eq_true p123; replace q123 := eq_true q123
      go_upto_region 7 with (first | ((with_reducible refine gd 4 rfl ?_); (try (refine gate_guard (by rfl) ?_; dsimp only)); refine bx 4 37 (#[.string (⟨#[]⟩ : ByteArray), .string (⟨#[]⟩ : ByteArray), .bool false]) ?_; intro qe hg w11 hbox hb; refine Ya7 (bb qd hb) (below_step (be1 HB.out qg.out) hb) (hbox) (bs hg (be1 HB.out qg.out)) (bs hg (be1 HB.out qg.out)) (bl hg qd) (br hg qd) ?_; clear qd HB; intro qd HB qc GW124 qi qj NB124_122; clear hb hbox hg; have hnb12 := NB124_122.out; have hnc12 := qj.out; have ⟨hcz13_0, hcz13_1, hcz13_2, hfz13_0, hfz13_1, hfz13_2⟩ := Yc3 qc.out))
      (try simp only [Act.put, List.setIfInBounds_toArray, List.set_cons_zero, List.set_cons_succ])
      go_cut [47] (fun v47 wc => ∃ (kq : Nat) (x47_8 : Bool), v47 = .bool x47_8 ∧ Aside0 (spec_ValidTree.j1 kq qb x47_8 qa ((rd_T37 qa qb).f0) ((rd_T37 qa qb).f1) ((rd_T37 qa qb).f2) = some r) ∧ Aside0 (kq ≤ k1) ∧ Aside0 (wc.heap[gb122]? = some (.cells #[(.slice (some ad123) qa.length c0_0)] 28 (0, 0))) ∧ Aside0 (wc.heap[qe]? = some (.cells #[.string ((rd_T37 qa qb).f0), .string ((rd_T37 qa qb).f1), .bool ((rd_T37 qa qb).f2)] 37 (0, 0))) ∧ Aside0 (Below w.heap.size w wc))
      case first =>
       have H := HC9.out; clear HC9; replace H := Option.bind_eq_some_iff.mp H; obtain ⟨t125, A140, H⟩ := H; replace H : (if t125 = true then (if (((rd_T37 qa qb).f1).size : Int) > 1500 then (spec_ValidTree.j1 k1 qb true qa ((rd_T37 qa qb).f0) ((rd_T37 qa qb).f1) ((rd_T37 qa qb).f2)) else (if qb > 0 then (if 0 ≤ (wrap64 (qb - 1)) then (if (wrap64 (qb - 1)) < (qa.length : Int) then (spec_ValidTree.j1 k1 qb (!(Op.bytesLess (((rd_T37 qa (wrap64 (qb - 1))).f0).toList) (((rd_T37 qa qb).f0).toList))) qa ((rd_T37 qa qb).f0) ((rd_T37 qa qb).f1) ((rd_T37 qa qb).f2)) else (none)) else (none)) else (spec_ValidTree.j1 k1 qb false qa ((rd_T37 qa qb).f0) ((rd_T37 qa qb).f1) ((rd_T37 qa qb).f2)))) else (spec_ValidTree.j1 k1 qb true qa ((rd_T37 qa qb).f0) ((rd_T37 qa qb).f1) ((rd_T37 qa qb).f2))) = some r := H; have A14 := Aside0.mk A140; clear A140
       by_cases c15 : t125 = true
       ·subst c15
        have H1 : (if (((rd_T37 qa qb).f1).size : Int) > 1500 then (spec_ValidTree.j1 k1 qb true qa ((rd_T37 qa qb).f0) ((rd_T37 qa qb).f1) ((rd_T37 qa qb).f2)) else (if qb > 0 then (if 0 ≤ (wrap64 (qb - 1)) then (if (wrap64 (qb - 1)) < (qa.length : Int) then (spec_ValidTree.j1 k1 qb (!(Op.bytesLess (((rd_T37 qa (wrap64 (qb - 1))).f0).toList) (((rd_T37 qa qb).f0).toList))) qa ((rd_T37 qa qb).f0) ((rd_T37 qa qb).f1) ((rd_T37 qa qb).f2)) else (none)) else (none)) else (spec_ValidTree.j1 k1 qb false qa ((rd_T37 qa qb).f0) ((rd_T37 qa qb).f1) ((rd_T37 qa qb).f2)))) = some r := by rw [if_pos rfl] at H; exact H
        clear H; have H := H1; clear H1
        by_cases c16 : (((rd_T37 qa qb).f1).size : Int) > 1500
        ·rw [if_pos c16] at H
         have c16b0 : decide (1500 < (((rd_T37 qa qb).f1).size : Int)) = true := decide_eq_true c16; have c16b1 : decide (1500 < ((rd_T37 qa qb).f1).size) = true := decide_eq_true (by omega); clear c16; (first | rw [c16b0] | (simp only [i64_w, i32_w]; rw [c16b0]) | skip); have H' := Aside0.mk H; clear H
         try go_wp2
         have n0_ : Aside0 ((((w11.setCell ⟨qe, 0, none⟩ (.string ((rd_T37 qa qb).f0))).setCell ⟨qe, 1, none⟩ (.string ((rd_T37 qa qb).f1))).setCell ⟨qe, 2, none⟩ (.bool ((rd_T37 qa qb).f2))).heap[gb122]? = some (.cells #[.slice (some ad123) qa.length c0_0] 28 (0, 0))) := ⟨bkf qd.out qj.out⟩
         have n1_ : Aside0 ((((w11.setCell ⟨qe, 0, none⟩ (.string ((rd_T37 qa qb).f0))).setCell ⟨qe, 1, none⟩ (.string ((rd_T37 qa qb).f1))).setCell ⟨qe, 2, none⟩ (.bool ((rd_T37 qa qb).f2))).heap[qe]? = some (.cells #[.string ((rd_T37 qa qb).f0), .string ((rd_T37 qa qb).f1), .bool ((rd_T37 qa qb).f2)] 37 (0, 0))) := ⟨by (with_reducible repeat (first | apply blk_drewN | apply blk_drew | apply blk_alloc)); refine blk_put (cs := #[.string ((rd_T37 qa qb).f0), .string ((rd_T37 qa qb).f1), .bool false]) ?_ 2 _ rfl; (with_reducible repeat (first | apply blk_drewN | apply blk_drew | apply blk_alloc)); refine blk_put (cs := #[.string ((rd_T37 qa qb).f0), .string (⟨#[]⟩ : ByteArray), .bool false]) ?_ 1 _ rfl; (with_reducible repeat (first | apply blk_drewN | apply blk_drew | apply blk_alloc)); refine blk_put (cs := #[.string (⟨#[]⟩ : ByteArray), .string (⟨#[]⟩ : ByteArray), .bool false]) ?_ 0 _ rfl; (with_reducible repeat (first | apply blk_drewN | apply blk_drew | apply blk_alloc)); exact qc.out⟩
         have n2_ : Aside0 (Below w.heap.size w (((w11.setCell ⟨qe, 0, none⟩ (.string ((rd_T37 qa qb).f0))).setCell ⟨qe, 1, none⟩ (.string ((rd_T37 qa qb).f1))).setCell ⟨qe, 2, none⟩ (.bool ((rd_T37 qa qb).f2)))) := ⟨be2 HB.out qg.out qi.out⟩
         (try clear qd); (try clear qc); (try clear HB); generalize (((w11.setCell ⟨qe, 0, none⟩ (.string ((rd_T37 qa qb).f0))).setCell ⟨qe, 1, none⟩ (.string ((rd_T37 qa qb).f1))).setCell ⟨qe, 2, none⟩ (.bool ((rd_T37 qa qb).f2))) = w17 at n0_ n1_ n2_ ⊢; have qd := n0_; have qc := n1_; have HB := n2_; clear n0_ n1_ n2_; refine Ya3 (blk_drew qd.out) (blk_drew qc.out) (below_drew1 HB.out) ?_; clear qd qc HB; intro qd qc HB; refine start_ (n := 26) (S := fun w' => w'.cell? ⟨qe, 0, none⟩ = some (.string ((rd_T37 qa qb).f0)) ∧ w'.cell? ⟨qe, 1, none⟩ = some (.string ((rd_T37 qa qb).f1)) ∧ w'.cell? ⟨qe, 2, none⟩ = some (.bool ((rd_T37 qa qb).f2))) (ds := []) (fb 26 0) (by kernel_rfl) rfl rfl ⟨(blk_cell qc.out 0).trans rfl, (blk_cell qc.out 1).trans rfl, (blk_cell qc.out 2).trans rfl⟩ (fun hHeld => ?_); refine with_tabW spec_ValidTree.tab7 spec_ValidTree.bits7 (fun HT_ HW_ => ?_); generalize w17.drew = w18 at qd qc HB hHeld ⊢; refine pu 0 22 (fb 26 1) HT_ ?_; refine tk 1 23 (fb 26 3) HT_ HW_ hHeld ?_; refine one_ (i := 2) (N := some 24) (fb 26 7) rfl rfl (one_of HT_.out (by kernel_rfl)) (by decide) (fun K hK => ?_); refine gs _ (#[.string ((rd_T37 qa qb).f0)]) Tryd.func30 ?_; (with_reducible refine (spec_ValidPath.calls k1 ((rd_T37 qa qb).f0) true _ A14.out).mono ?_); rintro e w19 ⟨rfl, hb⟩; refine ⟨_, rfl, ?_⟩; refine Ya3 (bb qd hb) (bb qc hb) (below_step (be2 HB.out qg.out qi.out) hb) ?_; clear qd qc HB; intro qd qc HB; (try clear hb); (try clear hb2); (try clear hk); (try clear hi); refine hK.out _ _ ⟨(blk_cell qc.out 0).trans rfl, (blk_cell qc.out 1).trans rfl, (blk_cell qc.out 2).trans rfl⟩ (fun hHeld => ?_); clear hK K; refine norm_ (a' := ?_) ?_ ?_; rotate_left
         ·show Act.put _ (some 24) _ = _
          simp only [Act.put, List.setIfInBounds_toArray, List.set_cons_zero, List.set_cons_succ, i64_w, i32_w]; rfl
         refine pu 3 25 (fb 26 15) HT_ ?_; refine pu 4 26 (fb 26 31) HT_ ?_; refine pu 5 27 (fb 26 63) HT_ ?_; refine tk 6 28 (fb 26 127) HT_ HW_ hHeld ?_; refine pu 7 29 (fb 26 255) HT_ ?_; refine pu 8 30 (fb 26 511) HT_ ?_; refine pu 9 31 (fb 26 1023) HT_ ?_; refine pu 10 32 (fb 26 2047) HT_ ?_; refine pn 11 33 (fb 26 4095) HT_ ?_; refine pn 12 34 (fb 26 8191) HT_ ?_; refine pn 13 35 (fb 26 16383) HT_ ?_; refine pn 14 36 (fb 26 32767) HT_ ?_; refine pn 15 37 (fb 26 65535) HT_ ?_; refine pn 16 38 (fb 26 131071) HT_ ?_; refine pn 17 39 (fb 26 262143) HT_ ?_; refine pn 18 40 (fb 26 524287) HT_ ?_; refine pn 19 41 (fb 26 1048575) HT_ ?_; refine pn 20 42 (fb 26 2097151) HT_ ?_; refine pn 21 43 (fb 26 4194303) HT_ ?_; refine pn 22 44 (fb 26 8388607) HT_ ?_; refine pn 23 45 (fb 26 16777215) HT_ ?_; refine pn 24 46 (fb 26 33554431) HT_ ?_; refine pu 25 47 (fb 26 67108863) HT_ ?_; refine done_ (done_of HT_.out (by kernel_rfl)) ?_
         try go_wp2
         go_meet
         case rel => exact ⟨_, (true), Ye1, H', ⟨by have := HK1.out; first | omega | exact Nat.le_refl _⟩, ⟨bk qd.out⟩, ⟨bk qc.out⟩, ⟨be2 HB.out qg.out qi.out⟩⟩
        ·rw [if_neg c16] at H
         have c16b0 : decide (1500 < (((rd_T37 qa qb).f1).size : Int)) = false := decide_eq_false c16; have c16b1 : decide (1500 < ((rd_T37 qa qb).f1).size) = false := decide_eq_false (by omega); clear c16; (first | rw [c16b0] | (simp only [i64_w, i32_w]; rw [c16b0]) | skip)
         by_cases c20 : qb > 0
         ·rw [if_pos c20] at H
          have c20b0 : decide (0 < qb) = true := decide_eq_true c20; clear c20
          obtain ⟨qh, hji21⟩ : ∃ j_ : Int, (wrap64 (qb - 1)) = j_ := ⟨_, rfl⟩
          replace H : (if 0 ≤ (qh) then (if (qh) < (qa.length : Int) then (spec_ValidTree.j1 k1 qb (!(Op.bytesLess (((rd_T37 qa (qh)).f0).toList) (((rd_T37 qa qb).f0).toList))) qa ((rd_T37 qa qb).f0) ((rd_T37 qa qb).f1) ((rd_T37 qa qb).f2)) else (none)) else (none)) = some r := by first | (rw [hji21] at H; exact H) | (simp only [hji21] at H ⊢; exact H)
          (try rw [hji21] at A14); have hji21w : (IntKind.i64.wrap (qb - 1)) = qh := (i64_w _).trans hji21
          by_cases c22 : 0 ≤ (qh)
          ·rw [if_pos c22] at H
           have c22b0 : decide (0 ≤ (qh)) = true := decide_eq_true c22; clear c22
           by_cases c23 : (qh) < (qa.length : Int)
           ·rw [if_pos c23] at H
            have c23b0 : decide ((qh) < (qa.length : Int)) = true := decide_eq_true c23; clear c23; have H' := Aside0.mk H; clear H
            try go_wp2
            have n0_ : Aside0 ((((w11.setCell ⟨qe, 0, none⟩ (.string ((rd_T37 qa qb).f0))).setCell ⟨qe, 1, none⟩ (.string ((rd_T37 qa qb).f1))).setCell ⟨qe, 2, none⟩ (.bool ((rd_T37 qa qb).f2))).heap[gb122]? = some (.cells #[.slice (some ad123) qa.length c0_0] 28 (0, 0))) := ⟨bkf qd.out qj.out⟩
            have n1_ : Aside0 ((((w11.setCell ⟨qe, 0, none⟩ (.string ((rd_T37 qa qb).f0))).setCell ⟨qe, 1, none⟩ (.string ((rd_T37 qa qb).f1))).setCell ⟨qe, 2, none⟩ (.bool ((rd_T37 qa qb).f2))).heap[qe]? = some (.cells #[.string ((rd_T37 qa qb).f0), .string ((rd_T37 qa qb).f1), .bool ((rd_T37 qa qb).f2)] 37 (0, 0))) := ⟨by (with_reducible repeat (first | apply blk_drewN | apply blk_drew | apply blk_alloc)); refine blk_put (cs := #[.string ((rd_T37 qa qb).f0), .string ((rd_T37 qa qb).f1), .bool false]) ?_ 2 _ rfl; (with_reducible repeat (first | apply blk_drewN | apply blk_drew | apply blk_alloc)); refine blk_put (cs := #[.string ((rd_T37 qa qb).f0), .string (⟨#[]⟩ : ByteArray), .bool false]) ?_ 1 _ rfl; (with_reducible repeat (first | apply blk_drewN | apply blk_drew | apply blk_alloc)); refine blk_put (cs := #[.string (⟨#[]⟩ : ByteArray), .string (⟨#[]⟩ : ByteArray), .bool false]) ?_ 0 _ rfl; (with_reducible repeat (first | apply blk_drewN | apply blk_drew | apply blk_alloc)); exact qc.out⟩
            have n2_ : Aside0 (Below w.heap.size w (((w11.setCell ⟨qe, 0, none⟩ (.string ((rd_T37 qa qb).f0))).setCell ⟨qe, 1, none⟩ (.string ((rd_T37 qa qb).f1))).setCell ⟨qe, 2, none⟩ (.bool ((rd_T37 qa qb).f2)))) := ⟨be2 HB.out qg.out qi.out⟩
            (try clear qd); (try clear qc); (try clear HB); generalize (((w11.setCell ⟨qe, 0, none⟩ (.string ((rd_T37 qa qb).f0))).setCell ⟨qe, 1, none⟩ (.string ((rd_T37 qa qb).f1))).setCell ⟨qe, 2, none⟩ (.bool ((rd_T37 qa qb).f2))) = w24 at n0_ n1_ n2_ ⊢; have qd := n0_; have qc := n1_; have HB := n2_; clear n0_ n1_ n2_; refine Ya3 (blk_drew qd.out) (blk_drew qc.out) (below_drew1 HB.out) ?_; clear qd qc HB; intro qd qc HB; have p126 : 0 ≤ ((qh) : Int) := oda; have q126 : (qh) < (qa.length : Int) := oda; obtain ⟨ad126, e126, hx126_0, hx126_1, hx126_2⟩ := at_T37 HR0_0.out (qh) p126 q126; have hw126_2 := hx126_2; have hw126_1 := hx126_1; have hw126_0 := hx126_0
            obtain rfl : ad123 = ad126 := (by injection e126)
            replace hx126_0 := pw_cell_below HB.out hx126_0; replace hx126_1 := pw_cell_below HB.out hx126_1; replace hx126_2 := pw_cell_below HB.out hx126_2; replace p126 := eq_true p126; replace q126 := eq_true q126; refine start_ (n := 26) (S := fun w' => w'.cell? ⟨qe, 0, none⟩ = some (.string ((rd_T37 qa qb).f0)) ∧ w'.cell? ⟨qe, 1, none⟩ = some (.string ((rd_T37 qa qb).f1)) ∧ w'.cell? ⟨qe, 2, none⟩ = some (.bool ((rd_T37 qa qb).f2)) ∧ w'.cell? ⟨gb122, 0, none⟩ = some (.slice (some ad123) qa.length c0_0) ∧ w'.cell? (ad123.add (((qh)).toNat * 3)) = some (.string ((rd_T37 qa (qh)).f0)) ∧ w'.cell? ⟨(ad123.add (((qh)).toNat * 3)).block, (ad123.add (((qh)).toNat * 3)).off + 1, none⟩ = some (.string ((rd_T37 qa (qh)).f1)) ∧ w'.cell? ⟨(ad123.add (((qh)).toNat * 3)).block, (ad123.add (((qh)).toNat * 3)).off + 2, none⟩ = some (.bool ((rd_T37 qa (qh)).f2))) (ds := []) (fb 26 0) (by kernel_rfl) rfl rfl ⟨(blk_cell qc.out 0).trans rfl, (blk_cell qc.out 1).trans rfl, (blk_cell qc.out 2).trans rfl, (blk_cell qd.out 0).trans rfl, (pw_cell_below HB.out hw126_0), (pw_cell_below HB.out hw126_1), (pw_cell_below HB.out hw126_2)⟩ (fun hHeld => ?_); refine with_tabW spec_ValidTree.tab7 spec_ValidTree.bits7 (fun HT_ HW_ => ?_); generalize w24.drew = w25 at qd qc HB hx126_0 hx126_1 hx126_2 hHeld ⊢; refine pu 0 22 (fb 26 1) HT_ ?_; refine tk 1 23 (fb 26 3) HT_ HW_ hHeld ?_; refine one_ (i := 2) (N := some 24) (fb 26 7) rfl rfl (one_of HT_.out (by kernel_rfl)) (by decide) (fun K hK => ?_); refine gs _ (#[.string ((rd_T37 qa qb).f0)]) Tryd.func30 ?_; (with_reducible refine (spec_ValidPath.calls k1 ((rd_T37 qa qb).f0) true _ A14.out).mono ?_); rintro e w26 ⟨rfl, hb⟩; refine ⟨_, rfl, ?_⟩; refine Ya3 (bb qd hb) (bb qc hb) (below_step (be2 HB.out qg.out qi.out) hb) ?_; clear qd qc HB; intro qd qc HB; (try clear hb); (try clear hb2); (try clear hk); (try clear hi); refine hK.out _ _ ⟨(blk_cell qc.out 0).trans rfl, (blk_cell qc.out 1).trans rfl, (blk_cell qc.out 2).trans rfl, (blk_cell qd.out 0).trans rfl, (pw_cell_below HB.out hw126_0), (pw_cell_below HB.out hw126_1), (pw_cell_below HB.out hw126_2)⟩ (fun hHeld => ?_); clear hK K; refine norm_ (a' := ?_) ?_ ?_; rotate_left
            ·show Act.put _ (some 24) _ = _
             simp only [Act.put, List.setIfInBounds_toArray, List.set_cons_zero, List.set_cons_succ, i64_w, i32_w]; rfl
            refine pu 3 25 (fb 26 15) HT_ ?_; refine pu 4 26 (fb 26 31) HT_ ?_; refine pu 5 27 (fb 26 63) HT_ ?_; refine tk 6 28 (fb 26 127) HT_ HW_ hHeld ?_; refine pu 7 29 (fb 26 255) HT_ ?_; refine pu 8 30 (fb 26 511) HT_ ?_; refine pu 9 31 (fb 26 1023) HT_ ?_; refine pu 10 32 (fb 26 2047) HT_ ?_; refine pu 11 33 (fb 26 4095) HT_ ?_; refine pu 12 34 (fb 26 8191) HT_ ?_; refine pu 13 35 (fb 26 16383) HT_ ?_; refine pu 14 36 (fb 26 32767) HT_ ?_; refine pu 16 38 (fb 26 98303) HT_ ?_; refine pu 17 39 (fb 26 229375) HT_ ?_; refine pu 21 43 (fb 26 2326527) HT_ ?_; refine tk 15 37 (fb 26 2359295) HT_ HW_ hHeld ?_; refine pu 18 40 (fb 26 2621439) HT_ ?_; refine pu 19 41 (fb 26 3145727) HT_ ?_; refine tk 20 42 (fb 26 4194303) HT_ HW_ hHeld ?_; refine tk 22 44 (fb 26 8388607) HT_ HW_ hHeld ?_; refine pu 23 45 (fb 26 16777215) HT_ ?_; refine pu 24 46 (fb 26 33554431) HT_ ?_; refine pu 25 47 (fb 26 67108863) HT_ ?_; refine done_ (done_of HT_.out (by kernel_rfl)) ?_
            try go_wp2
            go_meet
            case rel => exact ⟨_, (!(Op.bytesLess (((rd_T37 qa (qh)).f0).toList) (((rd_T37 qa qb).f0).toList))), (by first | rfl | (simp; done) | (simp only [← hji21] <;> (first | rfl | simp)) | (simp [*]; done)), (by first | exact H' | (subst hji21; exact H') | (simp only [← hji21] at H' ⊢; exact H')), ⟨by have := HK1.out; first | omega | exact Nat.le_refl _⟩, ⟨bk qd.out⟩, ⟨bk qc.out⟩, ⟨be2 HB.out qg.out qi.out⟩⟩
           ·rw [if_neg c23] at H
            exact absurd H (by simp)
          ·rw [if_neg c22] at H
           exact absurd H (by simp)
         ·rw [if_neg c20] at H
          have c20b0 : decide (0 < qb) = false := decide_eq_false c20; clear c20; have H' := Aside0.mk H; clear H
          try go_wp2
          have n0_ : Aside0 ((((w11.setCell ⟨qe, 0, none⟩ (.string ((rd_T37 qa qb).f0))).setCell ⟨qe, 1, none⟩ (.string ((rd_T37 qa qb).f1))).setCell ⟨qe, 2, none⟩ (.bool ((rd_T37 qa qb).f2))).heap[gb122]? = some (.cells #[.slice (some ad123) qa.length c0_0] 28 (0, 0))) := ⟨bkf qd.out qj.out⟩
          have n1_ : Aside0 ((((w11.setCell ⟨qe, 0, none⟩ (.string ((rd_T37 qa qb).f0))).setCell ⟨qe, 1, none⟩ (.string ((rd_T37 qa qb).f1))).setCell ⟨qe, 2, none⟩ (.bool ((rd_T37 qa qb).f2))).heap[qe]? = some (.cells #[.string ((rd_T37 qa qb).f0), .string ((rd_T37 qa qb).f1), .bool ((rd_T37 qa qb).f2)] 37 (0, 0))) := ⟨by (with_reducible repeat (first | apply blk_drewN | apply blk_drew | apply blk_alloc)); refine blk_put (cs := #[.string ((rd_T37 qa qb).f0), .string ((rd_T37 qa qb).f1), .bool false]) ?_ 2 _ rfl; (with_reducible repeat (first | apply blk_drewN | apply blk_drew | apply blk_alloc)); refine blk_put (cs := #[.string ((rd_T37 qa qb).f0), .string (⟨#[]⟩ : ByteArray), .bool false]) ?_ 1 _ rfl; (with_reducible repeat (first | apply blk_drewN | apply blk_drew | apply blk_alloc)); refine blk_put (cs := #[.string (⟨#[]⟩ : ByteArray), .string (⟨#[]⟩ : ByteArray), .bool false]) ?_ 0 _ rfl; (with_reducible repeat (first | apply blk_drewN | apply blk_drew | apply blk_alloc)); exact qc.out⟩
          have n2_ : Aside0 (Below w.heap.size w (((w11.setCell ⟨qe, 0, none⟩ (.string ((rd_T37 qa qb).f0))).setCell ⟨qe, 1, none⟩ (.string ((rd_T37 qa qb).f1))).setCell ⟨qe, 2, none⟩ (.bool ((rd_T37 qa qb).f2)))) := ⟨be2 HB.out qg.out qi.out⟩
          (try clear qd); (try clear qc); (try clear HB); generalize (((w11.setCell ⟨qe, 0, none⟩ (.string ((rd_T37 qa qb).f0))).setCell ⟨qe, 1, none⟩ (.string ((rd_T37 qa qb).f1))).setCell ⟨qe, 2, none⟩ (.bool ((rd_T37 qa qb).f2))) = w27 at n0_ n1_ n2_ ⊢; have qd := n0_; have qc := n1_; have HB := n2_; clear n0_ n1_ n2_; refine Ya3 (blk_drew qd.out) (blk_drew qc.out) (below_drew1 HB.out) ?_; clear qd qc HB; intro qd qc HB; refine start_ (n := 26) (S := fun w' => w'.cell? ⟨qe, 0, none⟩ = some (.string ((rd_T37 qa qb).f0)) ∧ w'.cell? ⟨qe, 1, none⟩ = some (.string ((rd_T37 qa qb).f1)) ∧ w'.cell? ⟨qe, 2, none⟩ = some (.bool ((rd_T37 qa qb).f2))) (ds := []) (fb 26 0) (by kernel_rfl) rfl rfl ⟨(blk_cell qc.out 0).trans rfl, (blk_cell qc.out 1).trans rfl, (blk_cell qc.out 2).trans rfl⟩ (fun hHeld => ?_); refine with_tabW spec_ValidTree.tab7 spec_ValidTree.bits7 (fun HT_ HW_ => ?_); generalize w27.drew = w28 at qd qc HB hHeld ⊢; refine pu 0 22 (fb 26 1) HT_ ?_; refine tk 1 23 (fb 26 3) HT_ HW_ hHeld ?_; refine one_ (i := 2) (N := some 24) (fb 26 7) rfl rfl (one_of HT_.out (by kernel_rfl)) (by decide) (fun K hK => ?_); refine gs _ (#[.string ((rd_T37 qa qb).f0)]) Tryd.func30 ?_; (with_reducible refine (spec_ValidPath.calls k1 ((rd_T37 qa qb).f0) true _ A14.out).mono ?_); rintro e w29 ⟨rfl, hb⟩; refine ⟨_, rfl, ?_⟩; refine Ya3 (bb qd hb) (bb qc hb) (below_step (be2 HB.out qg.out qi.out) hb) ?_; clear qd qc HB; intro qd qc HB; (try clear hb); (try clear hb2); (try clear hk); (try clear hi); refine hK.out _ _ ⟨(blk_cell qc.out 0).trans rfl, (blk_cell qc.out 1).trans rfl, (blk_cell qc.out 2).trans rfl⟩ (fun hHeld => ?_); clear hK K; refine norm_ (a' := ?_) ?_ ?_; rotate_left
          ·show Act.put _ (some 24) _ = _
           simp only [Act.put, List.setIfInBounds_toArray, List.set_cons_zero, List.set_cons_succ, i64_w, i32_w]; rfl
          refine pu 3 25 (fb 26 15) HT_ ?_; refine pu 4 26 (fb 26 31) HT_ ?_; refine pu 5 27 (fb 26 63) HT_ ?_; refine tk 6 28 (fb 26 127) HT_ HW_ hHeld ?_; refine pu 7 29 (fb 26 255) HT_ ?_; refine pu 8 30 (fb 26 511) HT_ ?_; refine pu 9 31 (fb 26 1023) HT_ ?_; refine pu 10 32 (fb 26 2047) HT_ ?_; refine pu 11 33 (fb 26 4095) HT_ ?_; refine pu 12 34 (fb 26 8191) HT_ ?_; refine pu 13 35 (fb 26 16383) HT_ ?_; refine pn 14 36 (fb 26 32767) HT_ ?_; refine pn 15 37 (fb 26 65535) HT_ ?_; refine pn 16 38 (fb 26 131071) HT_ ?_; refine pn 17 39 (fb 26 262143) HT_ ?_; refine pn 18 40 (fb 26 524287) HT_ ?_; refine pn 19 41 (fb 26 1048575) HT_ ?_; refine pn 20 42 (fb 26 2097151) HT_ ?_; refine pn 21 43 (fb 26 4194303) HT_ ?_; refine pn 22 44 (fb 26 8388607) HT_ ?_; refine pn 23 45 (fb 26 16777215) HT_ ?_; refine pu 24 46 (fb 26 33554431) HT_ ?_; refine pu 25 47 (fb 26 67108863) HT_ ?_; refine done_ (done_of HT_.out (by kernel_rfl)) ?_
          try go_wp2
          go_meet
          case rel => exact ⟨_, (false), Ye1, H', ⟨by have := HK1.out; first | omega | exact Nat.le_refl _⟩, ⟨bk qd.out⟩, ⟨bk qc.out⟩, ⟨be2 HB.out qg.out qi.out⟩⟩
       ·replace c15 := Bool.eq_false_iff.mpr c15; subst c15
        have H1 : (spec_ValidTree.j1 k1 qb true qa ((rd_T37 qa qb).f0) ((rd_T37 qa qb).f1) ((rd_T37 qa qb).f2)) = some r := by rw [if_neg (show ¬ (false = true) by decide)] at H; exact H
        clear H; have H := H1; clear H1; have H' := Aside0.mk H; clear H
        try go_wp2
        have n0_ : Aside0 ((((w11.setCell ⟨qe, 0, none⟩ (.string ((rd_T37 qa qb).f0))).setCell ⟨qe, 1, none⟩ (.string ((rd_T37 qa qb).f1))).setCell ⟨qe, 2, none⟩ (.bool ((rd_T37 qa qb).f2))).heap[gb122]? = some (.cells #[.slice (some ad123) qa.length c0_0] 28 (0, 0))) := ⟨bkf qd.out qj.out⟩
        have n1_ : Aside0 ((((w11.setCell ⟨qe, 0, none⟩ (.string ((rd_T37 qa qb).f0))).setCell ⟨qe, 1, none⟩ (.string ((rd_T37 qa qb).f1))).setCell ⟨qe, 2, none⟩ (.bool ((rd_T37 qa qb).f2))).heap[qe]? = some (.cells #[.string ((rd_T37 qa qb).f0), .string ((rd_T37 qa qb).f1), .bool ((rd_T37 qa qb).f2)] 37 (0, 0))) := ⟨by (with_reducible repeat (first | apply blk_drewN | apply blk_drew | apply blk_alloc)); refine blk_put (cs := #[.string ((rd_T37 qa qb).f0), .string ((rd_T37 qa qb).f1), .bool false]) ?_ 2 _ rfl; (with_reducible repeat (first | apply blk_drewN | apply blk_drew | apply blk_alloc)); refine blk_put (cs := #[.string ((rd_T37 qa qb).f0), .string (⟨#[]⟩ : ByteArray), .bool false]) ?_ 1 _ rfl; (with_reducible repeat (first | apply blk_drewN | apply blk_drew | apply blk_alloc)); refine blk_put (cs := #[.string (⟨#[]⟩ : ByteArray), .string (⟨#[]⟩ : ByteArray), .bool false]) ?_ 0 _ rfl; (with_reducible repeat (first | apply blk_drewN | apply blk_drew | apply blk_alloc)); exact qc.out⟩
        have n2_ : Aside0 (Below w.heap.size w (((w11.setCell ⟨qe, 0, none⟩ (.string ((rd_T37 qa qb).f0))).setCell ⟨qe, 1, none⟩ (.string ((rd_T37 qa qb).f1))).setCell ⟨qe, 2, none⟩ (.bool ((rd_T37 qa qb).f2)))) := ⟨be2 HB.out qg.out qi.out⟩
        (try clear qd); (try clear qc); (try clear HB); generalize (((w11.setCell ⟨qe, 0, none⟩ (.string ((rd_T37 qa qb).f0))).setCell ⟨qe, 1, none⟩ (.string ((rd_T37 qa qb).f1))).setCell ⟨qe, 2, none⟩ (.bool ((rd_T37 qa qb).f2))) = w30 at n0_ n1_ n2_ ⊢; have qd := n0_; have qc := n1_; have HB := n2_; clear n0_ n1_ n2_; refine Ya3 (blk_drew qd.out) (blk_drew qc.out) (below_drew1 HB.out) ?_; clear qd qc HB; intro qd qc HB; refine start_ (n := 26) (S := fun w' => w'.cell? ⟨qe, 0, none⟩ = some (.string ((rd_T37 qa qb).f0)) ∧ w'.cell? ⟨qe, 1, none⟩ = some (.string ((rd_T37 qa qb).f1)) ∧ w'.cell? ⟨qe, 2, none⟩ = some (.bool ((rd_T37 qa qb).f2))) (ds := []) (fb 26 0) (by kernel_rfl) rfl rfl ⟨(blk_cell qc.out 0).trans rfl, (blk_cell qc.out 1).trans rfl, (blk_cell qc.out 2).trans rfl⟩ (fun hHeld => ?_); refine with_tabW spec_ValidTree.tab7 spec_ValidTree.bits7 (fun HT_ HW_ => ?_); generalize w30.drew = w31 at qd qc HB hHeld ⊢; refine pu 0 22 (fb 26 1) HT_ ?_; refine tk 1 23 (fb 26 3) HT_ HW_ hHeld ?_; refine one_ (i := 2) (N := some 24) (fb 26 7) rfl rfl (one_of HT_.out (by kernel_rfl)) (by decide) (fun K hK => ?_); refine gs _ (#[.string ((rd_T37 qa qb).f0)]) Tryd.func30 ?_; (with_reducible refine (spec_ValidPath.calls k1 ((rd_T37 qa qb).f0) false _ A14.out).mono ?_); rintro e w32 ⟨rfl, hb⟩; refine ⟨_, rfl, ?_⟩; refine Ya3 (bb qd hb) (bb qc hb) (below_step (be2 HB.out qg.out qi.out) hb) ?_; clear qd qc HB; intro qd qc HB; (try clear hb); (try clear hb2); (try clear hk); (try clear hi); refine hK.out _ _ ⟨(blk_cell qc.out 0).trans rfl, (blk_cell qc.out 1).trans rfl, (blk_cell qc.out 2).trans rfl⟩ (fun hHeld => ?_); clear hK K; refine norm_ (a' := ?_) ?_ ?_; rotate_left
        ·show Act.put _ (some 24) _ = _
         simp only [Act.put, List.setIfInBounds_toArray, List.set_cons_zero, List.set_cons_succ, i64_w, i32_w]; rfl
        refine pu 3 25 (fb 26 15) HT_ ?_; refine pu 4 26 (fb 26 31) HT_ ?_; refine pn 5 27 (fb 26 63) HT_ ?_; refine pn 6 28 (fb 26 127) HT_ ?_; refine pn 7 29 (fb 26 255) HT_ ?_; refine pn 8 30 (fb 26 511) HT_ ?_; refine pu 9 31 (fb 26 1023) HT_ ?_; refine pu 10 32 (fb 26 2047) HT_ ?_; refine pn 11 33 (fb 26 4095) HT_ ?_; refine pn 12 34 (fb 26 8191) HT_ ?_; refine pn 13 35 (fb 26 16383) HT_ ?_; refine pn 14 36 (fb 26 32767) HT_ ?_; refine pn 15 37 (fb 26 65535) HT_ ?_; refine pn 16 38 (fb 26 131071) HT_ ?_; refine pn 17 39 (fb 26 262143) HT_ ?_; refine pn 18 40 (fb 26 524287) HT_ ?_; refine pn 19 41 (fb 26 1048575) HT_ ?_; refine pn 20 42 (fb 26 2097151) HT_ ?_; refine pn 21 43 (fb 26 4194303) HT_ ?_; refine pn 22 44 (fb 26 8388607) HT_ ?_; refine pn 23 45 (fb 26 16777215) HT_ ?_; refine pn 24 46 (fb 26 33554431) HT_ ?_; refine pu 25 47 (fb 26 67108863) HT_ ?_; refine done_ (done_of HT_.out (by kernel_rfl)) ?_
        try go_wp2
        go_meet
        case rel => exact ⟨_, (true), Ye1, H', ⟨by have := HK1.out; first | omega | exact Nat.le_refl _⟩, ⟨bk qd.out⟩, ⟨bk qc.out⟩, ⟨be2 HB.out qg.out qi.out⟩⟩
      case rest =>
       clear HC9; (try clear c1); (try clear c2); (try clear p2); (try clear c3); (try clear c15); (try clear c20); (try clear c20b0); (try clear c22); (try clear c23); (try clear c30); obtain ⟨kq, x47_8, rfl, HA, HJ8, qd, qc, HB⟩ := hcut
       cases kq with
       | zero => exact absurd HA.out (by simp [spec_ValidTree.j1])
       | succ kj8 =>
        have H := HA.out; clear HA; simp only [spec_ValidTree.j1] at H
        by_cases c33 : x47_8 = true
        ·subst c33
         have H1 : (some false) = some r := by rw [if_pos rfl] at H; exact H
         clear H; have H := H1; clear H1; obtain rfl := Option.some.inj H
         go_wp2
         go_ret
         exact ⟨Ye2, (by first | exact be2 HB.out qg.out qi.out | exact be1 HB.out qg.out | exact be HB.out)⟩
        ·replace c33 := Bool.eq_false_iff.mpr c33; subst c33
         have H1 : (spec_ValidTree.l1 kj8 qb 0 qa ((rd_T37 qa qb).f0) ((rd_T37 qa qb).f1) ((rd_T37 qa qb).f2)) = some r := by rw [if_neg (show ¬ (false = true) by decide)] at H; exact H
         clear H; have H := H1; clear H1; have H' := Aside0.mk H; clear H
         go_wp2
         go_loopg [5] kj8 (fun kq v5 w' => ∃ (qf : Int), v5 = .int .i64 qf ∧ Aside0 (spec_ValidTree.l1 kq qb qf qa ((rd_T37 qa qb).f0) ((rd_T37 qa qb).f1) ((rd_T37 qa qb).f2) = some r) ∧ Aside0 (kq ≤ kj8) ∧ Aside0 (w'.heap[gb122]? = some (.cells #[(.slice (some ad123) qa.length c0_0)] 28 (0, 0))) ∧ Aside0 (w'.heap[qe]? = some (.cells #[.string ((rd_T37 qa qb).f0), .string ((rd_T37 qa qb).f1), .bool ((rd_T37 qa qb).f2)] 37 (0, 0))) ∧ Aside0 (Below w.heap.size w w'))
         case atStart => exact ⟨(0), Ye1, H', ⟨Nat.le_refl _⟩, ⟨bk qd.out⟩, ⟨bk qc.out⟩, ⟨be2 HB.out qg.out qi.out⟩⟩
         case round =>
          clear H'; (try clear c1); (try clear c2); (try clear p2); (try clear c3); (try clear c15); (try clear c20); (try clear c20b0); (try clear c22); (try clear c23); (try clear c30); (try clear c33); (try clear p2); obtain ⟨qf, rfl, HA, HK3, qd, qc, HB⟩ := hrel
          cases gk with
          | zero => exact absurd HA.out (by simp [spec_ValidTree.l1])
          | succ k3 =>
           have H := HA.out; clear HA; simp only [spec_ValidTree.l1] at H
           by_cases c34 : qf < qb
           ·rw [if_pos c34] at H
            have c34b0 : decide (qf < qb) = true := decide_eq_true c34; clear c34
            by_cases c35 : 0 ≤ qf
            ·rw [if_pos c35] at H
             have c35b0 : decide (0 ≤ qf) = true := decide_eq_true c35; clear c35
             by_cases c36 : qf < (qa.length : Int)
             ·rw [if_pos c36] at H
              have c36b0 : decide (qf < (qa.length : Int)) = true := decide_eq_true c36; clear c36; replace H := Option.bind_eq_some_iff.mp H; obtain ⟨t128, A370, H⟩ := H; replace H : (if t128 = true then (some false) else (spec_ValidTree.l1 k3 qb (wrap64 (qf + 1)) qa ((rd_T37 qa qb).f0) ((rd_T37 qa qb).f1) ((rd_T37 qa qb).f2))) = some r := H; have A37 := Aside0.mk A370; clear A370
              by_cases c38 : t128 = true
              ·subst c38
               have H1 : (some false) = some r := by rw [if_pos rfl] at H; exact H
               clear H; have H := H1; clear H1; obtain rfl := Option.some.inj H
               try go_wp2
               refine Ya3 (blk_drew qd.out) (blk_drew qc.out) (below_drew1 HB.out) ?_; clear qd qc HB; intro qd qc HB; have p127 : 0 ≤ (qf : Int) := oda; have q127 : qf < (qa.length : Int) := oda; obtain ⟨ad127, e127, hx127_0, hx127_1, hx127_2⟩ := at_T37 HR0_0.out qf p127 q127; have hw127_2 := hx127_2; have hw127_1 := hx127_1; have hw127_0 := hx127_0
               obtain rfl : ad123 = ad127 := (by injection e127)
               replace hx127_0 := pw_cell_below HB.out hx127_0; replace hx127_1 := pw_cell_below HB.out hx127_1; replace hx127_2 := pw_cell_below HB.out hx127_2; replace p127 := eq_true p127; replace q127 := eq_true q127; refine start_ (n := 9) (S := fun w' => w'.cell? ⟨gb122, 0, none⟩ = some (.slice (some ad123) qa.length c0_0) ∧ w'.cell? ⟨qe, 0, none⟩ = some (.string ((rd_T37 qa qb).f0)) ∧ w'.cell? ⟨qe, 1, none⟩ = some (.string ((rd_T37 qa qb).f1)) ∧ w'.cell? ⟨qe, 2, none⟩ = some (.bool ((rd_T37 qa qb).f2)) ∧ w'.cell? (ad123.add ((qf).toNat * 3)) = some (.string ((rd_T37 qa qf).f0)) ∧ w'.cell? ⟨(ad123.add ((qf).toNat * 3)).block, (ad123.add ((qf).toNat * 3)).off + 1, none⟩ = some (.string ((rd_T37 qa qf).f1)) ∧ w'.cell? ⟨(ad123.add ((qf).toNat * 3)).block, (ad123.add ((qf).toNat * 3)).off + 2, none⟩ = some (.bool ((rd_T37 qa qf).f2))) (ds := []) (fb 9 0) (by kernel_rfl) rfl rfl ⟨(blk_cell qd.out 0).trans rfl, (blk_cell qc.out 0).trans rfl, (blk_cell qc.out 1).trans rfl, (blk_cell qc.out 2).trans rfl, (pw_cell_below HB.out hw127_0), (pw_cell_below HB.out hw127_1), (pw_cell_below HB.out hw127_2)⟩ (fun hHeld => ?_); refine with_tabW spec_ValidTree.tab12 spec_ValidTree.bits12 (fun HT_ HW_ => ?_); generalize wr.drew = w39 at qd qc HB hx127_0 hx127_1 hx127_2 hHeld ⊢; refine pu 0 53 (fb 9 1) HT_ ?_; refine pu 2 55 (fb 9 5) HT_ ?_; refine pu 6 59 (fb 9 69) HT_ ?_; refine tk 1 54 (fb 9 71) HT_ HW_ hHeld ?_; refine pu 3 56 (fb 9 79) HT_ ?_; refine pu 4 57 (fb 9 95) HT_ ?_; refine tk 5 58 (fb 9 127) HT_ HW_ hHeld ?_; refine tk 7 60 (fb 9 255) HT_ HW_ hHeld ?_; refine one_ (i := 8) (N := some 61) (fb 9 511) rfl rfl (one_of HT_.out (by kernel_rfl)) (by decide) (fun K hK => ?_); refine gs _ (#[.string ((rd_T37 qa qf).f0), .string ((rd_T37 qa qb).f0)]) Tryd.func64 ?_; (with_reducible refine (spec_l5Begins.calls ((rd_T37 qa qf).f0) ((rd_T37 qa qb).f0) true _ A37.out).mono ?_); rintro e w' ⟨rfl, ⟨nd, rfl⟩⟩; refine ⟨_, rfl, ?_⟩; refine hK.out _ _ ⟨(blk_cell qd.out 0).trans rfl, (blk_cell qc.out 0).trans rfl, (blk_cell qc.out 1).trans rfl, (blk_cell qc.out 2).trans rfl, (pw_cell_below HB.out hw127_0), (pw_cell_below HB.out hw127_1), (pw_cell_below HB.out hw127_2)⟩ (fun hHeld => ?_); clear hK K; refine norm_ (a' := ?_) ?_ ?_; rotate_left
               ·show Act.put _ (some 61) _ = _
                simp only [Act.put, List.setIfInBounds_toArray, List.set_cons_zero, List.set_cons_succ, i64_w, i32_w]; rfl
               refine done_ (done_of HT_.out (by kernel_rfl)) ?_
               try go_wp2
               go_ret
               exact ⟨Ye2, (by first | exact be2 HB.out qg.out qi.out | exact be1 HB.out qg.out | exact be HB.out)⟩
              ·replace c38 := Bool.eq_false_iff.mpr c38; subst c38
               have H1 : (spec_ValidTree.l1 k3 qb (wrap64 (qf + 1)) qa ((rd_T37 qa qb).f0) ((rd_T37 qa qb).f1) ((rd_T37 qa qb).f2)) = some r := by rw [if_neg (show ¬ (false = true) by decide)] at H; exact H
               clear H; have H := H1; clear H1; have H' := Aside0.mk H; clear H
               try go_wp2
               refine Ya3 (blk_drew qd.out) (blk_drew qc.out) (below_drew1 HB.out) ?_; clear qd qc HB; intro qd qc HB; have p127 : 0 ≤ (qf : Int) := oda; have q127 : qf < (qa.length : Int) := oda; obtain ⟨ad127, e127, hx127_0, hx127_1, hx127_2⟩ := at_T37 HR0_0.out qf p127 q127; have hw127_2 := hx127_2; have hw127_1 := hx127_1; have hw127_0 := hx127_0
               obtain rfl : ad123 = ad127 := (by injection e127)
               replace hx127_0 := pw_cell_below HB.out hx127_0; replace hx127_1 := pw_cell_below HB.out hx127_1; replace hx127_2 := pw_cell_below HB.out hx127_2; replace p127 := eq_true p127; replace q127 := eq_true q127; refine start_ (n := 9) (S := fun w' => w'.cell? ⟨gb122, 0, none⟩ = some (.slice (some ad123) qa.length c0_0) ∧ w'.cell? ⟨qe, 0, none⟩ = some (.string ((rd_T37 qa qb).f0)) ∧ w'.cell? ⟨qe, 1, none⟩ = some (.string ((rd_T37 qa qb).f1)) ∧ w'.cell? ⟨qe, 2, none⟩ = some (.bool ((rd_T37 qa qb).f2)) ∧ w'.cell? (ad123.add ((qf).toNat * 3)) = some (.string ((rd_T37 qa qf).f0)) ∧ w'.cell? ⟨(ad123.add ((qf).toNat * 3)).block, (ad123.add ((qf).toNat * 3)).off + 1, none⟩ = some (.string ((rd_T37 qa qf).f1)) ∧ w'.cell? ⟨(ad123.add ((qf).toNat * 3)).block, (ad123.add ((qf).toNat * 3)).off + 2, none⟩ = some (.bool ((rd_T37 qa qf).f2))) (ds := []) (fb 9 0) (by kernel_rfl) rfl rfl ⟨(blk_cell qd.out 0).trans rfl, (blk_cell qc.out 0).trans rfl, (blk_cell qc.out 1).trans rfl, (blk_cell qc.out 2).trans rfl, (pw_cell_below HB.out hw127_0), (pw_cell_below HB.out hw127_1), (pw_cell_below HB.out hw127_2)⟩ (fun hHeld => ?_); refine with_tabW spec_ValidTree.tab12 spec_ValidTree.bits12 (fun HT_ HW_ => ?_); generalize wr.drew = w40 at qd qc HB hx127_0 hx127_1 hx127_2 hHeld ⊢; refine pu 0 53 (fb 9 1) HT_ ?_; refine pu 2 55 (fb 9 5) HT_ ?_; refine pu 6 59 (fb 9 69) HT_ ?_; refine tk 1 54 (fb 9 71) HT_ HW_ hHeld ?_; refine pu 3 56 (fb 9 79) HT_ ?_; refine pu 4 57 (fb 9 95) HT_ ?_; refine tk 5 58 (fb 9 127) HT_ HW_ hHeld ?_; refine tk 7 60 (fb 9 255) HT_ HW_ hHeld ?_; refine one_ (i := 8) (N := some 61) (fb 9 511) rfl rfl (one_of HT_.out (by kernel_rfl)) (by decide) (fun K hK => ?_); refine gs _ (#[.string ((rd_T37 qa qf).f0), .string ((rd_T37 qa qb).f0)]) Tryd.func64 ?_; (with_reducible refine (spec_l5Begins.calls ((rd_T37 qa qf).f0) ((rd_T37 qa qb).f0) false _ A37.out).mono ?_); rintro e w' ⟨rfl, ⟨nd, rfl⟩⟩; refine ⟨_, rfl, ?_⟩; refine hK.out _ _ ⟨(blk_cell qd.out 0).trans rfl, (blk_cell qc.out 0).trans rfl, (blk_cell qc.out 1).trans rfl, (blk_cell qc.out 2).trans rfl, (pw_cell_below HB.out hw127_0), (pw_cell_below HB.out hw127_1), (pw_cell_below HB.out hw127_2)⟩ (fun hHeld => ?_); clear hK K; refine norm_ (a' := ?_) ?_ ?_; rotate_left
               ·show Act.put _ (some 61) _ = _
                simp only [Act.put, List.setIfInBounds_toArray, List.set_cons_zero, List.set_cons_succ, i64_w, i32_w]; rfl
               refine done_ (done_of HT_.out (by kernel_rfl)) ?_
               try go_wp2
               go_roundg k3
               case measure => have := HK1.out; have := HJ8.out; have := HK3.out; omega
               case rel => exact ⟨(wrap64 (qf + 1)), Ye1, H', ⟨by have := HK1.out; have := HJ8.out; have := HK3.out; omega⟩, ⟨bk qd.out⟩, ⟨bk qc.out⟩, ⟨be2 HB.out qg.out qi.out⟩⟩
             ·rw [if_neg c36] at H
              exact absurd H (by simp)
            ·rw [if_neg c35] at H
             exact absurd H (by simp)
           ·rw [if_neg c34] at H
            have c34b0 : decide (qf < qb) = false := decide_eq_false c34; clear c34; have H' := Aside0.mk H; clear H
            go_wp2
            go_roundg k3
            case measure => have := HK1.out; have := HJ8.out; have := HK3.out; omega
            case rel => exact ⟨(wrap64 (qb + 1)), Ye1, H', ⟨by have := HK1.out; have := HJ8.out; have := HK3.out; omega⟩, ⟨bk qd.out⟩, ⟨be2 HB.out qg.out qi.out⟩⟩
     ·rw [if_neg c8] at H
      exact absurd H (by simp)
    ·rw [if_neg c7] at H
     have c7b0 : decide (qb < (qa.length : Int)) = false := decide_eq_false c7; clear c7; obtain rfl := Option.some.inj H; have ⟨hcz41_0, hfz41_0⟩ := Yc1 qd.out
     go_wp2
     go_ret
     exact ⟨Ye2, (by first | exact be1 HB.out qg.out | exact be HB.out)⟩

end Go.Proofs.YtgnmledjkamojaaDoor.P


namespace Go.Proofs.YtgnmledjkamojaaDoor.P
open Go.RowKit Go.Proofs.YtgnmledjkamojaaDoorW.PrintWords Go.Proofs.YtgnmledjkamojaaDoorW.PrintLast Go.Proofs.YtgnmledjkamojaaDoorW.PrintMore
attribute [local go_sem] max2_int min2_int max_two min_two max_three min_three max_four min_four
set_option linter.unusedVariables false
set_option linter.unusedSimpArgs false

/-! ### spec_Overlay: function 14 -/
mutual
def spec_Overlay.j0 : Nat → Bool → List (S37) → List (S37) → Option ((List (S37)) × Int)
 | 0, _, _, _ => none
 | k + 1, x19, x159000, x160000 => if x19 = true then (some (([] : List (S37)), 1)) else ((spec_l5Copy.f x160000).bind fun t163 => (spec_Overlay.l0 k 0 x159000 x160000 t163))
def spec_Overlay.l0 : Nat → Int → List (S37) → List (S37) → List (S37) → Option ((List (S37)) × Int)
 | 0, _, _, _, _ => none
 | k + 1, x7, x159000, x160000, x167000 => if x7 < (x159000.length : Int) then (if 0 ≤ x7 then (spec_Overlay.l1 k x7 ((rd_T37 x159000 x7).f0) true 0 x159000 x160000 x167000) else (none)) else (if (x167000.length : Int) > 100 then (some (([] : List (S37)), 4)) else (some (x167000, 0)))
def spec_Overlay.l1 : Nat → Int → ByteArray → Bool → Int → List (S37) → List (S37) → List (S37) → Option ((List (S37)) × Int)
 | 0, _, _, _, _, _, _, _ => none
 | k + 1, x7, x8, x9, x10, x159000, x160000, x167000 => if x10 < (x160000.length : Int) then (if 0 ≤ x10 then (if x8.toList = ((rd_T37 x160000 x10).f0).toList then (spec_Overlay.l1 k x7 x8 false (wrap64 (x10 + 1)) x159000 x160000 x167000) else ((spec_l5Begins.f x8 ((rd_T37 x160000 x10).f0)).bind fun t173 => (if t173 = true then (spec_Overlay.l1 k x7 x8 false (wrap64 (x10 + 1)) x159000 x160000 x167000) else ((spec_l5Begins.f ((rd_T37 x160000 x10).f0) x8).bind fun t174 => (if t174 = true then (spec_Overlay.l1 k x7 x8 false (wrap64 (x10 + 1)) x159000 x160000 x167000) else (spec_Overlay.l1 k x7 x8 x9 (wrap64 (x10 + 1)) x159000 x160000 x167000)))))) else (none)) else (if x9 = true then (if 0 ≤ x7 then (if x7 < (x159000.length : Int) then ((spec_l5Set.f k x167000 ((rd_T37 x159000 x7).f0) ((rd_T37 x159000 x7).f1) ((rd_T37 x159000 x7).f2)).bind fun t169 => (spec_Overlay.l0 k (wrap64 (x7 + 1)) x159000 x160000 t169)) else (none)) else (none)) else (spec_Overlay.l0 k (wrap64 (x7 + 1)) x159000 x160000 x167000))
end
def spec_Overlay.f (k : Nat) (qa : List (S37)) (qc : List (S37)) : Option ((List (S37)) × Int) := (spec_ValidTree.f k qa).bind fun t161 => (if t161 = true then ((spec_ValidTree.f k qc).bind fun t162 => (spec_Overlay.j0 k (!t162) qa qc)) else (spec_Overlay.j0 k true qa qc))
theorem spec_Overlay.mono_l : ∀ k, (∀ y0 y1 y2, LeO (spec_Overlay.j0 k y0 y1 y2) (spec_Overlay.j0 (k + 1) y0 y1 y2)) ∧ (∀ y0 y1 y2 y3, LeO (spec_Overlay.l0 k y0 y1 y2 y3) (spec_Overlay.l0 (k + 1) y0 y1 y2 y3)) ∧ (∀ y0 y1 y2 y3 y4 y5 y6, LeO (spec_Overlay.l1 k y0 y1 y2 y3 y4 y5 y6) (spec_Overlay.l1 (k + 1) y0 y1 y2 y3 y4 y5 y6))
 | 0 => ⟨fun _ _ _ r h => by simp [spec_Overlay.j0] at h, fun _ _ _ _ r h => by simp [spec_Overlay.l0] at h, fun _ _ _ _ _ _ _ r h => by simp [spec_Overlay.l1] at h⟩
 | k + 1 => by
  obtain ⟨ih0, ih1, ih2⟩ := spec_Overlay.mono_l k; refine ⟨?_, ?_, ?_⟩
  ·intro y0 y1 y2
   unfold spec_Overlay.j0
   repeat' first
   | (with_reducible exact ih0 _ _ _)
   | (with_reducible exact ih1 _ _ _ _)
   | (with_reducible exact ih2 _ _ _ _ _ _ _)
   | (with_reducible exact spec_ValidTree.mono _ _)
   | (with_reducible exact spec_l5Set.mono _ _ _ _ _)
   | (with_reducible exact LeO.refl _)
   | (with_reducible exact LeO.none _)
   | (with_reducible refine LeO.ite ?_ ?_)
   | (with_reducible refine LeO.bind ?_ (fun _ => ?_))
   | exact ih0 _ _ _
   | exact ih1 _ _ _ _
   | exact ih2 _ _ _ _ _ _ _
   | exact spec_ValidTree.mono _ _
   | exact spec_l5Set.mono _ _ _ _ _
   | exact LeO.none _
   | refine LeO.ite ?_ ?_
   | refine LeO.bind ?_ (fun _ => ?_)
  ·intro y0 y1 y2 y3
   unfold spec_Overlay.l0
   repeat' first
   | (with_reducible exact ih0 _ _ _)
   | (with_reducible exact ih1 _ _ _ _)
   | (with_reducible exact ih2 _ _ _ _ _ _ _)
   | (with_reducible exact spec_ValidTree.mono _ _)
   | (with_reducible exact spec_l5Set.mono _ _ _ _ _)
   | (with_reducible exact LeO.refl _)
   | (with_reducible exact LeO.none _)
   | (with_reducible refine LeO.ite ?_ ?_)
   | (with_reducible refine LeO.bind ?_ (fun _ => ?_))
   | exact ih0 _ _ _
   | exact ih1 _ _ _ _
   | exact ih2 _ _ _ _ _ _ _
   | exact spec_ValidTree.mono _ _
   | exact spec_l5Set.mono _ _ _ _ _
   | exact LeO.none _
   | refine LeO.ite ?_ ?_
   | refine LeO.bind ?_ (fun _ => ?_)
  ·intro y0 y1 y2 y3 y4 y5 y6
   unfold spec_Overlay.l1
   repeat' first
   | (with_reducible exact ih0 _ _ _)
   | (with_reducible exact ih1 _ _ _ _)
   | (with_reducible exact ih2 _ _ _ _ _ _ _)
   | (with_reducible exact spec_ValidTree.mono _ _)
   | (with_reducible exact spec_l5Set.mono _ _ _ _ _)
   | (with_reducible exact LeO.refl _)
   | (with_reducible exact LeO.none _)
   | (with_reducible refine LeO.ite ?_ ?_)
   | (with_reducible refine LeO.bind ?_ (fun _ => ?_))
   | exact ih0 _ _ _
   | exact ih1 _ _ _ _
   | exact ih2 _ _ _ _ _ _ _
   | exact spec_ValidTree.mono _ _
   | exact spec_l5Set.mono _ _ _ _ _
   | exact LeO.none _
   | refine LeO.ite ?_ ?_
   | refine LeO.bind ?_ (fun _ => ?_)
theorem spec_Overlay.mono : ∀ a0 a1 k, LeO (spec_Overlay.f k a0 a1) (spec_Overlay.f (k + 1) a0 a1) := by
 intro a0 a1 k; obtain ⟨ih0, ih1, ih2⟩ := spec_Overlay.mono_l k
 unfold spec_Overlay.f
 repeat' first
   | (with_reducible exact ih0 _ _ _)
   | (with_reducible exact ih1 _ _ _ _)
   | (with_reducible exact ih2 _ _ _ _ _ _ _)
   | (with_reducible exact spec_ValidTree.mono _ _)
   | (with_reducible exact spec_l5Set.mono _ _ _ _ _)
   | (with_reducible exact LeO.refl _)
   | (with_reducible exact LeO.none _)
   | (with_reducible refine LeO.ite ?_ ?_)
   | (with_reducible refine LeO.bind ?_ (fun _ => ?_))
   | exact ih0 _ _ _
   | exact ih1 _ _ _ _
   | exact ih2 _ _ _ _ _ _ _
   | exact spec_ValidTree.mono _ _
   | exact spec_l5Set.mono _ _ _ _ _
   | exact LeO.none _
   | refine LeO.ite ?_ ?_
   | refine LeO.bind ?_ (fun _ => ?_)
def spec_Overlay.T16 : Bool × List (List Nat × List Nat) := (true, [([], []), ([], []), ([1], [1]), ([], []), ([2, 3], [2, 3]), ([4], [4]), ([0, 5], [0, 5]), ([6, 6, 0, 1, 2, 3, 4, 5, 6], [6])])
def spec_Overlay.B16 : List Nat := [0, 0, 2, 0, 14, 30, 63, 127]
theorem spec_Overlay.tab16 : rtab .any (opsOf Tryd.f14 16) = spec_Overlay.T16 := by kernel_rfl
theorem spec_Overlay.bits16 : waitsOk spec_Overlay.T16.2 spec_Overlay.B16 = true := by kernel_rfl
set_option maxHeartbeats 8000000 in
set_option maxRecDepth 100000 in
theorem spec_Overlay.calls (k : Nat) (A0_0 : Option Addr) (c0_0 : Nat) (qa : List (S37)) (A1_0 : Option Addr) (c1_0 : Nat) (qc : List (S37)) (r1 : List (S37)) (r2 : Int) (w : World) (hr0_0 : Kd.C k37 w A0_0 qa.length qa) (hc0_0 : qa.length ≤ c0_0) (hr1_0 : Kd.C k37 w A1_0 qc.length qc) (hc1_0 : qc.length ≤ c1_0) (h : spec_Overlay.f k qa qc = some (r1, r2)) :
  Calls Tryd.prog 14 #[.agg #[.slice A0_0 qa.length c0_0], .agg #[.slice A1_0 qc.length c1_0]] w fun e w' => ∃ v0_ : Value, e = .returned (.tuple #[.agg #[v0_], .int .i64 r2]) ∧ Kd.R k37 37 w' w.heap.size (fun _ => True) v0_ r1 ∧ Below w.heap.size w w' := by
 have hu28 := Tryd.underlying28; have hu37 := Tryd.underlying37; have HR0_0 := Aside0.mk hr0_0; have HC0_0 := Aside0.mk hc0_0; clear hr0_0 hc0_0; have HR1_0 := Aside0.mk hr1_0; have HC1_0 := Aside0.mk hc1_0; clear hr1_0 hc1_0; have HB := Aside0.mk (Below.refl w.heap.size w); have H : ((spec_ValidTree.f k qa).bind fun t161 => (if t161 = true then ((spec_ValidTree.f k qc).bind fun t162 => (spec_Overlay.j0 k (!t162) qa qc)) else (spec_Overlay.j0 k true qa qc))) = some (r1, r2) := h; clear h; have HC3 := Aside0.mk H; clear H
 go_enter Tryd.func14, Tryd.ntmps14
 go_upto_region 1 with (first | ((with_reducible refine gd 2 rfl ?_); refine bx 2 28 (#[.slice A0_0 qa.length c0_0]) ?_; intro gb158 hg w4 hbox hb; refine Ya4 (below_step (be HB.out) hb) (hbox) (bs hg (be HB.out)) (bs hg (be HB.out)) ?_; clear HB; intro HB qd GW158 qh; clear hb hbox hg) | ((with_reducible refine gd 3 rfl ?_); refine bx 3 28 (#[.slice A1_0 qc.length c1_0]) ?_; intro gb159 hg w5 hbox hb; refine Ya7 (bb qd hb) (below_step (be1 HB.out qh.out) hb) (hbox) (bs hg (be1 HB.out qh.out)) (bs hg (be1 HB.out qh.out)) (bl hg qd) (br hg qd) ?_; clear qd HB; intro qd HB qe GW159 qi qn qo; clear hb hbox hg) | ((with_reducible refine gd 4 rfl ?_); refine bx 4 28 (#[.slice none 0 0]) ?_; intro gb160 hg w6 hbox hb; have n0_ := Aside0.mk (bb qd hb); have n1_ := Aside0.mk (bb qe hb); have n2_ := Aside0.mk (below_step (be2 HB.out qh.out qi.out) hb); have n3_ := Aside0.mk (hbox); have n4_ := Aside0.mk (bs hg (be2 HB.out qh.out qi.out)); have n5_ := Aside0.mk (bs hg (be2 HB.out qh.out qi.out)); have n6_ := Aside0.mk (bl hg qd); have n7_ := Aside0.mk (br hg qd); have n8_ := Aside0.mk (bl hg qe); have n9_ := Aside0.mk (br hg qe); clear qd; clear qe; clear HB; have qd := n0_; have qe := n1_; have HB := n2_; have qg := n3_; have GW160 := n4_; have ql := n5_; have qw := n6_; have qx := n7_; have qr := n8_; have qt := n9_; clear n0_ n1_ n2_ n3_ n4_ n5_ n6_ n7_ n8_ n9_; clear hb hbox hg))
 (try simp only [Act.put, List.setIfInBounds_toArray, List.set_cons_zero, List.set_cons_succ])
 go_cut [19] (fun v19 wc => ∃ (kq : Nat) (x19_2 : Bool), v19 = .bool x19_2 ∧ Aside0 (spec_Overlay.j0 kq x19_2 qa qc = some (r1, r2)) ∧ Aside0 (kq ≤ k) ∧ Aside0 (wc.heap[gb158]? = some (.cells #[(.slice A0_0 qa.length c0_0)] 28 (0, 0))) ∧ Aside0 (wc.heap[gb159]? = some (.cells #[(.slice A1_0 qc.length c1_0)] 28 (0, 0))) ∧ Aside0 (wc.heap[gb160]? = some (.cells #[(.slice none 0 0)] 28 (0, 0))) ∧ Aside0 (Below w.heap.size w wc))
 case first =>
  have H := HC3.out; clear HC3; replace H := Option.bind_eq_some_iff.mp H; obtain ⟨t161, A70, H⟩ := H; replace H : (if t161 = true then ((spec_ValidTree.f k qc).bind fun t162 => (spec_Overlay.j0 k (!t162) qa qc)) else (spec_Overlay.j0 k true qa qc)) = some (r1, r2) := H; have A7 := Aside0.mk A70; clear A70
  by_cases c8 : t161 = true
  ·subst c8
   have H1 : ((spec_ValidTree.f k qc).bind fun t162 => (spec_Overlay.j0 k (!t162) qa qc)) = some (r1, r2) := by rw [if_pos rfl] at H; exact H
   clear H; have H := H1; clear H1; replace H := Option.bind_eq_some_iff.mp H; obtain ⟨t162, A90, H⟩ := H; replace H : (spec_Overlay.j0 k (!t162) qa qc) = some (r1, r2) := H; have A9 := Aside0.mk A90; clear A90; have H' := Aside0.mk H; clear H; have hnb10 := qn.out; have hnc10 := qo.out; have hnb11 := qw.out; have hnc11 := qx.out; have ⟨hcz12_0, hfz12_0⟩ := Yc1 qd.out
   go_wp2_with (first | ((with_reducible refine gc 48 rfl ?_); refine gl (some 13) _ (#[.agg #[.slice A0_0 qa.length c0_0]]) Tryd.func48 ?_; (with_reducible refine (spec_ValidTree.calls k _ _ qa true _ ?side1 ?side2 A7.out).mono ?_); (case side1 => exact cb (Kd.C_below HR0_0.out HB.out)); (case side2 => exact HC0_0.out); rintro e w13 ⟨rfl, hb⟩; refine ⟨_, rfl, ?_⟩; refine Ya4 (bb qd hb) (bb qe hb) (bb qg hb) (below_step (be3 HB.out qh.out qi.out ql.out) hb) ?_; clear qd qe qg HB; intro qd qe qg HB; (try clear hb); (try clear hb2); (try clear hk); (try clear hi); have hnb14 := qr.out; have hnc14 := qt.out; have ⟨hcz15_0, hfz15_0⟩ := Yc1 qe.out) | (go_at_call 48; (with_reducible refine (spec_ValidTree.calls k _ _ qc t162 _ ?side1 ?side2 A9.out).mono ?_); (case side1 => exact cb (Kd.C_below HR1_0.out HB.out)); (case side2 => exact HC1_0.out); rintro e w16 ⟨rfl, hb⟩; refine Ya4 (bb qd hb) (bb qe hb) (bb qg hb) (below_step (be3 HB.out qh.out qi.out ql.out) hb) ?_; clear qd qe qg HB; intro qd qe qg HB; (try clear hb); (try clear hb2); (try clear hk); (try clear hi)))
   go_meet
   case rel => exact ⟨_, (!t162), Ye1, H', ⟨by first | omega | exact Nat.le_refl _⟩, ⟨bk qd.out⟩, ⟨bk qe.out⟩, ⟨bk qg.out⟩, ⟨be3 HB.out qh.out qi.out ql.out⟩⟩
  ·replace c8 := Bool.eq_false_iff.mpr c8; subst c8
   have H1 : (spec_Overlay.j0 k true qa qc) = some (r1, r2) := by rw [if_neg (show ¬ (false = true) by decide)] at H; exact H
   clear H; have H := H1; clear H1; have H' := Aside0.mk H; clear H; have hnb17 := qn.out; have hnc17 := qo.out; have hnb18 := qw.out; have hnc18 := qx.out; have ⟨hcz19_0, hfz19_0⟩ := Yc1 qd.out
   go_wp2_with (first | ((with_reducible refine gc 48 rfl ?_); refine gl (some 13) _ (#[.agg #[.slice A0_0 qa.length c0_0]]) Tryd.func48 ?_; (with_reducible refine (spec_ValidTree.calls k _ _ qa false _ ?side1 ?side2 A7.out).mono ?_); (case side1 => exact cb (Kd.C_below HR0_0.out HB.out)); (case side2 => exact HC0_0.out); rintro e w20 ⟨rfl, hb⟩; refine ⟨_, rfl, ?_⟩; refine Ya4 (bb qd hb) (bb qe hb) (bb qg hb) (below_step (be3 HB.out qh.out qi.out ql.out) hb) ?_; clear qd qe qg HB; intro qd qe qg HB; (try clear hb); (try clear hb2); (try clear hk); (try clear hi)))
   go_meet
   case rel => exact ⟨_, (true), Ye1, H', ⟨by first | omega | exact Nat.le_refl _⟩, ⟨bk qd.out⟩, ⟨bk qe.out⟩, ⟨bk qg.out⟩, ⟨be3 HB.out qh.out qi.out ql.out⟩⟩
 case rest =>
  clear HC3; (try clear c1); (try clear p2); (try clear c4); (try clear c8); (try clear c10); (try clear c11); (try clear c14); (try clear c17); (try clear c18); (try clear hcz12_0); (try clear hcz15_0); (try clear hcz19_0); (try clear hfz12_0); (try clear hfz15_0); (try clear hfz19_0); obtain ⟨kq, x19_2, rfl, HA, HJ2, qd, qe, qg, HB⟩ := hcut
  cases kq with
  | zero => exact absurd HA.out (by simp [spec_Overlay.j0])
  | succ kj2 =>
   have H := HA.out; clear HA; simp only [spec_Overlay.j0] at H
   by_cases c21 : x19_2 = true
   ·subst c21
    have H1 : (some (([] : List (S37)), 1)) = some (r1, r2) := by rw [if_pos rfl] at H; exact H
    clear H; have H := H1; clear H1; simp only [Option.some.injEq, Prod.mk.injEq] at H; obtain ⟨rfl, rfl⟩ := H; have hnb22 := qx.out; have hnc22 := qw.out; have hnb23 := qt.out; have hnc23 := qr.out; have ⟨hcz24_0, hfz24_0⟩ := Yc1 qg.out
    go_wp2
    refine bodyPost_ret (results_ct rfl _ _ gb160 28 #[.slice none 0 0] (0, 0) _ rfl (by (with_reducible repeat (first | apply blk_drewN | apply blk_drew | apply blk_alloc)); refine blk_put (cs := #[.slice none 0 0]) ?_ 0 _ rfl; (with_reducible repeat (first | apply blk_drewN | apply blk_drew | apply blk_alloc)); exact qg.out) Tryd.underlying28 rfl (by kernel_rfl)) rfl ?_; exact ⟨_, Ye2, nl, (by first | exact be3 HB.out qh.out qi.out ql.out | exact be2 HB.out qh.out qi.out | exact be1 HB.out qh.out)⟩
   ·replace c21 := Bool.eq_false_iff.mpr c21; subst c21
    have H1 : ((spec_l5Copy.f qc).bind fun t163 => (spec_Overlay.l0 kj2 0 qa qc t163)) = some (r1, r2) := by rw [if_neg (show ¬ (false = true) by decide)] at H; exact H
    clear H; have H := H1; clear H1; replace H := Option.bind_eq_some_iff.mp H; obtain ⟨t163, A250, H⟩ := H; replace H : (spec_Overlay.l0 kj2 0 qa qc t163) = some (r1, r2) := H; have A25 := Aside0.mk A250; clear A250; have H' := Aside0.mk H; clear H; have hnb26 := qo.out; have hnc26 := qn.out; have hnb27 := qr.out; have hnc27 := qt.out; have ⟨hcz28_0, hfz28_0⟩ := Yc1 qe.out
    go_wp2_with (first | ((with_reducible refine gc 63 rfl ?_); refine gl (some 22) _ (#[.agg #[.slice A1_0 qc.length c1_0]]) Tryd.func63 ?_; (with_reducible refine (spec_l5Copy.calls _ _ qc t163 _ ?side1 ?side2 A25.out).mono ?_); (case side1 => exact cb (Kd.C_below HR1_0.out HB.out)); (case side2 => exact HC1_0.out); rintro e w29 ⟨v164, rfl, ho0, hb⟩; refine ⟨_, rfl, ?_⟩; refine Ya5 (Kd.R_lower ho0 (below_size (be3 HB.out qh.out qi.out ql.out))) (bb qd hb) (bb qe hb) (bb qg hb) (below_step (be3 HB.out qh.out qi.out ql.out) hb) ?_; clear qd qe qg HB; intro HO165 qd qe qg HB; (try clear hb); (try clear hb2); (try clear hk); (try clear hi); (try clear ho0)) | ((with_reducible refine gd 6 rfl ?_); refine bx 6 28 (#[.slice none 0 0]) ?_; intro gb166 hg w30 hbox hb; have n0_ := Aside0.mk (Kd.R_below (kr HO165.out) hb); have n1_ := Aside0.mk (bb qd hb); have n2_ := Aside0.mk (bb qe hb); have n3_ := Aside0.mk (bb qg hb); have n4_ := Aside0.mk (below_step (be3 HB.out qh.out qi.out ql.out) hb); have n5_ := Aside0.mk (hbox); have n6_ := Aside0.mk (bs hg (be3 HB.out qh.out qi.out ql.out)); have n7_ := Aside0.mk (bs hg (be3 HB.out qh.out qi.out ql.out)); have n8_ := Aside0.mk (bl hg qd); have n9_ := Aside0.mk (br hg qd); have n10_ := Aside0.mk (bl hg qe); have n11_ := Aside0.mk (br hg qe); have n12_ := Aside0.mk (bl hg qg); have n13_ := Aside0.mk (br hg qg); clear HO165; clear qd; clear qe; clear qg; clear HB; have HO165 := n0_; have qd := n1_; have qe := n2_; have qg := n3_; have HB := n4_; have qk := n5_; have GW166 := n6_; have GE166 := n7_; have qv := n8_; have qz := n9_; have qp := n10_; have qu := n11_; have qy := n12_; have NB166_160 := n13_; clear n0_ n1_ n2_ n3_ n4_ n5_ n6_ n7_ n8_ n9_ n10_ n11_ n12_ n13_; clear hb hbox hg; obtain ⟨Ao31, co31, eo31⟩ := Kd.R_slice HO165.out; subst eo31; have hnb32 := qz.out; have hnc32 := qv.out; have hnb33 := qu.out; have hnc33 := qp.out; have hnb34 := NB166_160.out; have hnc34 := qy.out; have ⟨hcz35_0, hfz35_0⟩ := Yc1 qk.out))
    go_loopg [7] kj2 (fun kq v7 w' => ∃ (qb : Int) (qj : List (S37)) (u167000 : Value), v7 = .int .i64 qb ∧ Aside0 (spec_Overlay.l0 kq qb qa qc qj = some (r1, r2)) ∧ Aside0 (kq ≤ kj2) ∧ Aside0 (Kd.R k37 37 w' w.heap.size (fun _ => True) u167000 qj) ∧ Aside0 (w'.heap[gb158]? = some (.cells #[(.slice A0_0 qa.length c0_0)] 28 (0, 0))) ∧ Aside0 (w'.heap[gb159]? = some (.cells #[(.slice A1_0 qc.length c1_0)] 28 (0, 0))) ∧ Aside0 (w'.heap[gb160]? = some (.cells #[(.slice none 0 0)] 28 (0, 0))) ∧ Aside0 (w'.heap[gb166]? = some (.cells #[u167000] 28 (0, 0))) ∧ Aside0 (Below w.heap.size w w'))
    case atStart => exact ⟨(0), (t163), (.slice Ao31 t163.length co31), Ye1, H', ⟨Nat.le_refl _⟩, ⟨by (with_reducible repeat (first | apply Kd.R_alloc | apply Kd.R_drewN | apply Kd.R_drew)); exact Kd.R_mono (Kd.R_far (p := ⟨gb166, 0, none⟩) (Kd.R_types HO165.out qk.out (by decide)) (fun _ hk => hk.2) (.slice Ao31 t163.length co31)) (fun _ hk => trivial)⟩, ⟨bkf qd.out qv.out⟩, ⟨bkf qe.out qp.out⟩, ⟨bkf qg.out qy.out⟩, ⟨by (with_reducible repeat (first | apply blk_drewN | apply blk_drew | apply blk_alloc)); refine blk_put (cs := #[.slice none 0 0]) ?_ 0 _ rfl; (with_reducible repeat (first | apply blk_drewN | apply blk_drew | apply blk_alloc)); exact qk.out⟩, ⟨be4 HB.out qh.out qi.out ql.out GE166.out⟩⟩
    case round =>
     clear H'; (try clear c1); (try clear c2); (try clear p2); (try clear c3); (try clear c4); (try clear c6); (try clear c8); (try clear c10); (try clear c11); (try clear c14); (try clear c17); (try clear c18); (try clear c21); (try clear c22); (try clear c23); (try clear c26); (try clear c27); (try clear c32); (try clear c33); (try clear c34); (try clear hcz12_0); (try clear hcz15_0); (try clear hcz19_0); (try clear hcz24_0); (try clear hcz28_0); (try clear hcz35_0); (try clear hfz12_0); (try clear hfz15_0); (try clear hfz19_0); (try clear hfz24_0); (try clear hfz28_0); (try clear hfz35_0); (try clear p2); obtain ⟨qb, qj, u167000, rfl, HA, HK2, qm, qd, qe, qg, qk, HB⟩ := hrel
     cases gk with
     | zero => exact absurd HA.out (by simp [spec_Overlay.l0])
     | succ k2 =>
      have H := HA.out; clear HA; simp only [spec_Overlay.l0] at H
      by_cases c36 : qb < (qa.length : Int)
      ·rw [if_pos c36] at H
       have c36b0 : decide (qb < (qa.length : Int)) = true := decide_eq_true c36; clear c36
       by_cases c37 : 0 ≤ qb
       ·rw [if_pos c37] at H
        have c37b0 : decide (0 ≤ qb) = true := decide_eq_true c37; clear c37; have H' := Aside0.mk H; clear H; have hnb38 := qn.out; have hnc38 := qo.out; have hnb39 := qw.out; have hnc39 := qx.out; have hnb40 := qv.out; have hnc40 := qz.out; have ⟨hcz41_0, hfz41_0⟩ := Yc1 qd.out; have p167 : 0 ≤ (qb : Int) := oda; have q167 : qb < (qa.length : Int) := oda; obtain ⟨ad167, e167, hx167_0, hx167_1, hx167_2⟩ := at_T37 (Kd.C_below HR0_0.out HB.out) qb p167 q167
        cases e167
        replace p167 := eq_true p167; replace q167 := eq_true q167
        go_wp2
        go_loopg [9, 10] k2 (fun kq v9 v10 w' => ∃ (x9_3 : Bool) (qf : Int), v9 = .bool x9_3 ∧ v10 = .int .i64 qf ∧ Aside0 (spec_Overlay.l1 kq qb ((rd_T37 qa qb).f0) x9_3 qf qa qc qj = some (r1, r2)) ∧ Aside0 (kq ≤ k2) ∧ Aside0 (Kd.R k37 37 w' w.heap.size (fun _ => True) u167000 qj) ∧ Aside0 (w'.heap[gb158]? = some (.cells #[(.slice (some ad167) qa.length c0_0)] 28 (0, 0))) ∧ Aside0 (w'.heap[gb159]? = some (.cells #[(.slice A1_0 qc.length c1_0)] 28 (0, 0))) ∧ Aside0 (w'.heap[gb160]? = some (.cells #[(.slice none 0 0)] 28 (0, 0))) ∧ Aside0 (w'.heap[gb166]? = some (.cells #[u167000] 28 (0, 0))) ∧ Aside0 (Below w.heap.size w w'))
        case atStart => exact ⟨(true), (0), Ye1, Ye1, H', ⟨Nat.le_refl _⟩, ⟨kr qm.out⟩, ⟨bk qd.out⟩, ⟨bk qe.out⟩, ⟨bk qg.out⟩, ⟨bk qk.out⟩, ⟨be4 HB.out qh.out qi.out ql.out GE166.out⟩⟩
        case round =>
         clear H'; (try clear c1); (try clear p1); (try clear q1); (try clear hx1); (try clear c2); (try clear p2); (try clear c3); (try clear c4); (try clear c6); (try clear c8); (try clear c10); (try clear c11); (try clear c14); (try clear p16); (try clear q16); (try clear hx16); (try clear c17); (try clear c18); (try clear c21); (try clear c22); (try clear c23); (try clear c26); (try clear c27); (try clear c32); (try clear c33); (try clear c34); (try clear c36); (try clear c36b0); (try clear c37); (try clear c37b0); (try clear c38); (try clear c39); (try clear c40); (try clear hcz12_0); (try clear hcz15_0); (try clear hcz19_0); (try clear hcz24_0); (try clear hcz28_0); (try clear hcz35_0); (try clear hcz41_0); (try clear hfz12_0); (try clear hfz15_0); (try clear hfz19_0); (try clear hfz24_0); (try clear hfz28_0); (try clear hfz35_0); (try clear hfz41_0); (try clear hx167_0); (try clear hx167_1); (try clear hx167_2); (try clear p167); (try clear p2); (try clear q167); obtain ⟨x9_3, qf, rfl, rfl, HA, HK3, qm, qd, qe, qg, qk, HB⟩ := hrel
         cases gk with
         | zero => exact absurd HA.out (by simp [spec_Overlay.l1])
         | succ k3 =>
          have H := HA.out; clear HA; simp only [spec_Overlay.l1] at H
          by_cases c42 : qf < (qc.length : Int)
          ·rw [if_pos c42] at H
           have c42b0 : decide (qf < (qc.length : Int)) = true := decide_eq_true c42; clear c42
           by_cases c43 : 0 ≤ qf
           ·rw [if_pos c43] at H
            have c43b0 : decide (0 ≤ qf) = true := decide_eq_true c43; clear c43
            by_cases c44 : ((rd_T37 qa qb).f0).toList = ((rd_T37 qc qf).f0).toList
            ·rw [if_pos c44] at H
             have c44b0 : (((rd_T37 qa qb).f0).toList == ((rd_T37 qc qf).f0).toList) = true := beq_iff_eq.mpr c44; have c44b1 : (((rd_T37 qa qb).f0).toList != ((rd_T37 qc qf).f0).toList) = false := bne_eq_false_iff_eq.mpr c44; clear c44; have H' := Aside0.mk H; clear H; have hnb45 := qo.out; have hnc45 := qn.out; have hnb46 := qr.out; have hnc46 := qt.out; have hnb47 := qp.out; have hnc47 := qu.out; have ⟨hcz48_0, hfz48_0⟩ := Yc1 qe.out; have p172 : 0 ≤ (qf : Int) := oda; have q172 : qf < (qc.length : Int) := oda; obtain ⟨ad172, e172, hx172_0, hx172_1, hx172_2⟩ := at_T37 (Kd.C_below HR1_0.out HB.out) qf p172 q172
             cases e172
             replace p172 := eq_true p172; replace q172 := eq_true q172
             go_wp2
             go_roundg k3
             case measure => have := HJ2.out; have := HK2.out; have := HK3.out; omega
             case rel => exact ⟨(false), (wrap64 (qf + 1)), Ye1, Ye1, H', ⟨by have := HJ2.out; have := HK2.out; have := HK3.out; omega⟩, ⟨kr qm.out⟩, ⟨bk qd.out⟩, ⟨bk qe.out⟩, ⟨bk qg.out⟩, ⟨bk qk.out⟩, ⟨be4 HB.out qh.out qi.out ql.out GE166.out⟩⟩
            ·rw [if_neg c44] at H
             have c44b0 : (((rd_T37 qa qb).f0).toList == ((rd_T37 qc qf).f0).toList) = false := beq_eq_false_iff_ne.mpr c44; have c44b1 : (((rd_T37 qa qb).f0).toList != ((rd_T37 qc qf).f0).toList) = true := bne_iff_ne.mpr c44; replace H := Option.bind_eq_some_iff.mp H; obtain ⟨t173, A490, H⟩ := H; replace H : (if t173 = true then (spec_Overlay.l1 k3 qb ((rd_T37 qa qb).f0) false (wrap64 (qf + 1)) qa qc qj) else ((spec_l5Begins.f ((rd_T37 qc qf).f0) ((rd_T37 qa qb).f0)).bind fun t174 => (if t174 = true then (spec_Overlay.l1 k3 qb ((rd_T37 qa qb).f0) false (wrap64 (qf + 1)) qa qc qj) else (spec_Overlay.l1 k3 qb ((rd_T37 qa qb).f0) x9_3 (wrap64 (qf + 1)) qa qc qj)))) = some (r1, r2) := H; have A49 := Aside0.mk A490; clear A490
             by_cases c50 : t173 = true
             ·subst c50
              have H1 : (spec_Overlay.l1 k3 qb ((rd_T37 qa qb).f0) false (wrap64 (qf + 1)) qa qc qj) = some (r1, r2) := by rw [if_pos rfl] at H; exact H
              clear H; have H := H1; clear H1; have H' := Aside0.mk H; clear H; have hnb51 := qo.out; have hnc51 := qn.out; have hnb52 := qr.out; have hnc52 := qt.out; have hnb53 := qp.out; have hnc53 := qu.out; have ⟨hcz54_0, hfz54_0⟩ := Yc1 qe.out; have p172 : 0 ≤ (qf : Int) := oda; have q172 : qf < (qc.length : Int) := oda; obtain ⟨ad172, e172, hx172_0, hx172_1, hx172_2⟩ := at_T37 (Kd.C_below HR1_0.out HB.out) qf p172 q172
              cases e172
              replace p172 := eq_true p172; replace q172 := eq_true q172
              go_wp2_with (first | (go_at_call 64; (with_reducible refine (spec_l5Begins.calls ((rd_T37 qa qb).f0) ((rd_T37 qc qf).f0) true _ A49.out).mono ?_); rintro e w' ⟨rfl, ⟨nd, rfl⟩⟩))
              go_roundg k3
              case measure => have := HJ2.out; have := HK2.out; have := HK3.out; omega
              case rel => exact ⟨(false), (wrap64 (qf + 1)), Ye1, Ye1, H', ⟨by have := HJ2.out; have := HK2.out; have := HK3.out; omega⟩, ⟨kr qm.out⟩, ⟨bk qd.out⟩, ⟨bk qe.out⟩, ⟨bk qg.out⟩, ⟨bk qk.out⟩, ⟨be4 HB.out qh.out qi.out ql.out GE166.out⟩⟩
             ·replace c50 := Bool.eq_false_iff.mpr c50; subst c50
              have H1 : ((spec_l5Begins.f ((rd_T37 qc qf).f0) ((rd_T37 qa qb).f0)).bind fun t174 => (if t174 = true then (spec_Overlay.l1 k3 qb ((rd_T37 qa qb).f0) false (wrap64 (qf + 1)) qa qc qj) else (spec_Overlay.l1 k3 qb ((rd_T37 qa qb).f0) x9_3 (wrap64 (qf + 1)) qa qc qj))) = some (r1, r2) := by rw [if_neg (show ¬ (false = true) by decide)] at H; exact H
              clear H; have H := H1; clear H1; replace H := Option.bind_eq_some_iff.mp H; obtain ⟨t174, A550, H⟩ := H; replace H : (if t174 = true then (spec_Overlay.l1 k3 qb ((rd_T37 qa qb).f0) false (wrap64 (qf + 1)) qa qc qj) else (spec_Overlay.l1 k3 qb ((rd_T37 qa qb).f0) x9_3 (wrap64 (qf + 1)) qa qc qj)) = some (r1, r2) := H; have A55 := Aside0.mk A550; clear A550
              by_cases c56 : t174 = true
              ·subst c56
               have H1 : (spec_Overlay.l1 k3 qb ((rd_T37 qa qb).f0) false (wrap64 (qf + 1)) qa qc qj) = some (r1, r2) := by rw [if_pos rfl] at H; exact H
               clear H; have H := H1; clear H1; have H' := Aside0.mk H; clear H; have hnb57 := qo.out; have hnc57 := qn.out; have hnb58 := qr.out; have hnc58 := qt.out; have hnb59 := qp.out; have hnc59 := qu.out; have ⟨hcz60_0, hfz60_0⟩ := Yc1 qe.out; have p172 : 0 ≤ (qf : Int) := oda; have q172 : qf < (qc.length : Int) := oda; obtain ⟨ad172, e172, hx172_0, hx172_1, hx172_2⟩ := at_T37 (Kd.C_below HR1_0.out HB.out) qf p172 q172
               cases e172
               replace p172 := eq_true p172; replace q172 := eq_true q172
               go_wp2_with (first | (go_at_call 64; (with_reducible refine (spec_l5Begins.calls ((rd_T37 qa qb).f0) ((rd_T37 qc qf).f0) false _ A49.out).mono ?_); rintro e w' ⟨rfl, ⟨nd, rfl⟩⟩) | (go_at_call 64; (with_reducible refine (spec_l5Begins.calls ((rd_T37 qc qf).f0) ((rd_T37 qa qb).f0) true _ A55.out).mono ?_); rintro e w' ⟨rfl, ⟨nd, rfl⟩⟩))
               go_roundg k3
               case measure => have := HJ2.out; have := HK2.out; have := HK3.out; omega
               case rel => exact ⟨(false), (wrap64 (qf + 1)), Ye1, Ye1, H', ⟨by have := HJ2.out; have := HK2.out; have := HK3.out; omega⟩, ⟨kr qm.out⟩, ⟨bk qd.out⟩, ⟨bk qe.out⟩, ⟨bk qg.out⟩, ⟨bk qk.out⟩, ⟨be4 HB.out qh.out qi.out ql.out GE166.out⟩⟩
              ·replace c56 := Bool.eq_false_iff.mpr c56; subst c56
               have H1 : (spec_Overlay.l1 k3 qb ((rd_T37 qa qb).f0) x9_3 (wrap64 (qf + 1)) qa qc qj) = some (r1, r2) := by rw [if_neg (show ¬ (false = true) by decide)] at H; exact H
               clear H; have H := H1; clear H1; have H' := Aside0.mk H; clear H; have hnb61 := qo.out; have hnc61 := qn.out; have hnb62 := qr.out; have hnc62 := qt.out; have hnb63 := qp.out; have hnc63 := qu.out; have ⟨hcz64_0, hfz64_0⟩ := Yc1 qe.out; have p172 : 0 ≤ (qf : Int) := oda; have q172 : qf < (qc.length : Int) := oda; obtain ⟨ad172, e172, hx172_0, hx172_1, hx172_2⟩ := at_T37 (Kd.C_below HR1_0.out HB.out) qf p172 q172
               cases e172
               replace p172 := eq_true p172; replace q172 := eq_true q172
               go_wp2_with (first | (go_at_call 64; (with_reducible refine (spec_l5Begins.calls ((rd_T37 qa qb).f0) ((rd_T37 qc qf).f0) false _ A49.out).mono ?_); rintro e w' ⟨rfl, ⟨nd, rfl⟩⟩) | (go_at_call 64; (with_reducible refine (spec_l5Begins.calls ((rd_T37 qc qf).f0) ((rd_T37 qa qb).f0) false _ A55.out).mono ?_); rintro e w' ⟨rfl, ⟨nd, rfl⟩⟩))
               go_roundg k3
               case measure => have := HJ2.out; have := HK2.out; have := HK3.out; omega
               case rel => exact ⟨(x9_3), (wrap64 (qf + 1)), Ye1, Ye1, H', ⟨by have := HJ2.out; have := HK2.out; have := HK3.out; omega⟩, ⟨kr qm.out⟩, ⟨bk qd.out⟩, ⟨bk qe.out⟩, ⟨bk qg.out⟩, ⟨bk qk.out⟩, ⟨be4 HB.out qh.out qi.out ql.out GE166.out⟩⟩
           ·rw [if_neg c43] at H
            exact absurd H (by simp)
          ·rw [if_neg c42] at H
           have c42b0 : decide (qf < (qc.length : Int)) = false := decide_eq_false c42; clear c42
           by_cases c65 : x9_3 = true
           ·subst c65
            have H1 : (if 0 ≤ qb then (if qb < (qa.length : Int) then ((spec_l5Set.f k3 qj ((rd_T37 qa qb).f0) ((rd_T37 qa qb).f1) ((rd_T37 qa qb).f2)).bind fun t169 => (spec_Overlay.l0 k3 (wrap64 (qb + 1)) qa qc t169)) else (none)) else (none)) = some (r1, r2) := by rw [if_pos rfl] at H; exact H
            clear H; have H := H1; clear H1
            by_cases c66 : 0 ≤ qb
            ·rw [if_pos c66] at H
             have c66b0 : decide (0 ≤ qb) = true := decide_eq_true c66; clear c66
             by_cases c67 : qb < (qa.length : Int)
             ·rw [if_pos c67] at H
              have c67b0 : decide (qb < (qa.length : Int)) = true := decide_eq_true c67; clear c67; replace H := Option.bind_eq_some_iff.mp H; obtain ⟨t169, A680, H⟩ := H; replace H : (spec_Overlay.l0 k3 (wrap64 (qb + 1)) qa qc t169) = some (r1, r2) := H; have A68 := Aside0.mk A680; clear A680; have H' := Aside0.mk H; clear H; have hnb69 := qo.out; have hnc69 := qn.out; have hnb70 := qr.out; have hnc70 := qt.out; have hnb71 := qp.out; have hnc71 := qu.out; have ⟨hcz72_0, hfz72_0⟩ := Yc1 qe.out
              try go_wp2
              refine Ya6 (Kd.R_drew qm.out) (blk_drew qd.out) (blk_drew qe.out) (blk_drew qg.out) (blk_drew qk.out) (below_drew1 HB.out) ?_; clear qm qd qe qg qk HB; intro qm qd qe qg qk HB; have p168 : 0 ≤ (qb : Int) := oda; have q168 : qb < (qa.length : Int) := oda; obtain ⟨ad168, e168, hx168_0, hx168_1, hx168_2⟩ := at_T37 HR0_0.out qb p168 q168; have hw168_2 := hx168_2; have hw168_1 := hx168_1; have hw168_0 := hx168_0
              obtain rfl : ad167 = ad168 := (by injection e168)
              replace hx168_0 := pw_cell_below HB.out hx168_0; replace hx168_1 := pw_cell_below HB.out hx168_1; replace hx168_2 := pw_cell_below HB.out hx168_2; replace p168 := eq_true p168; replace q168 := eq_true q168; obtain ⟨Ao74, co74, eo74⟩ := Kd.R_slice qm.out; (first | subst eo74 | (injection eo74 with f1_ f2_ f3_; have f4_ := f1_.symm; have f5_ := f3_.symm; clear f1_ f2_ f3_; subst f4_; subst f5_)); refine start_ (n := 8) (S := fun w' => w'.cell? ⟨gb166, 0, none⟩ = some (.slice Ao74 qj.length co74) ∧ w'.cell? ⟨gb158, 0, none⟩ = some (.slice (some ad167) qa.length c0_0) ∧ w'.cell? (ad167.add ((qb).toNat * 3)) = some (.string ((rd_T37 qa qb).f0)) ∧ w'.cell? ⟨(ad167.add ((qb).toNat * 3)).block, (ad167.add ((qb).toNat * 3)).off + 1, none⟩ = some (.string ((rd_T37 qa qb).f1)) ∧ w'.cell? ⟨(ad167.add ((qb).toNat * 3)).block, (ad167.add ((qb).toNat * 3)).off + 2, none⟩ = some (.bool ((rd_T37 qa qb).f2))) (ds := [7]) (fb 8 0) (by kernel_rfl) rfl rfl ⟨(blk_cell qk.out 0).trans rfl, (blk_cell qd.out 0).trans rfl, (pw_cell_below HB.out hw168_0), (pw_cell_below HB.out hw168_1), (pw_cell_below HB.out hw168_2)⟩ (fun hHeld => ?_); refine with_tabW spec_Overlay.tab16 spec_Overlay.bits16 (fun HT_ HW_ => ?_); generalize wr.drew = w73 at qm qd qe qg qk HB hx168_0 hx168_1 hx168_2 hHeld ⊢; refine pu 1 64 (fb 8 2) HT_ ?_; refine pu 3 66 (fb 8 10) HT_ ?_; refine tk 0 63 (fb 8 11) HT_ HW_ hHeld ?_; refine tk 2 65 (fb 8 15) HT_ HW_ hHeld ?_; refine pu 4 67 (fb 8 31) HT_ ?_; refine tk 5 68 (fb 8 63) HT_ HW_ hHeld ?_; refine one_ (i := 6) (N := some 69) (fb 8 127) rfl rfl (one_of HT_.out (by kernel_rfl)) (by decide) (fun K hK => ?_); refine gs _ (#[.agg #[.slice Ao74 qj.length co74], .agg #[.string ((rd_T37 qa qb).f0), .string ((rd_T37 qa qb).f1), .bool ((rd_T37 qa qb).f2)]]) Tryd.func65 ?_; (with_reducible refine (spec_l5Set.calls k3 _ _ qj ((rd_T37 qa qb).f0) ((rd_T37 qa qb).f1) ((rd_T37 qa qb).f2) t169 _ ?side1 ?side2 A68.out).mono ?_); (case side1 => repeat (first | exact (Kd.R_reads' qm.out).2.2 | (with_reducible refine Kd.C_alloc ?_ _) | (with_reducible refine Kd.C_drewN ?_ _) | (with_reducible refine Kd.C_drew ?_))); (case side2 => exact (Kd.R_reads' qm.out).2.1); rintro e w75 ⟨v170, rfl, ho0, hb⟩; refine ⟨_, rfl, ?_⟩; refine Ya7 (Kd.R_elder' (kr qm.out) (Kd.R_base ho0) hb) (Kd.R_lower (Kd.R_new' ho0 (Kd.R_lt (kr qm.out))) (below_size (be4 HB.out qh.out qi.out ql.out GE166.out))) (bb qd hb) (bb qe hb) (bb qg hb) (bb qk hb) (below_step (be4 HB.out qh.out qi.out ql.out GE166.out) hb) ?_; clear qm qd qe qg qk HB; intro qm HO171 qd qe qg qk HB; (try clear hb); (try clear hb2); (try clear hk); (try clear hi); (try clear ho0); obtain ⟨Ao76, co76, eo76⟩ := Kd.R_slice HO171.out; (first | subst eo76 | (injection eo76 with f1_ f2_ f3_; have f4_ := f1_.symm; have f5_ := f3_.symm; clear f1_ f2_ f3_; subst f4_; subst f5_)); refine hK.out _ _ ⟨(blk_cell qk.out 0).trans rfl, (blk_cell qd.out 0).trans rfl, (pw_cell_below HB.out hw168_0), (pw_cell_below HB.out hw168_1), (pw_cell_below HB.out hw168_2)⟩ (fun hHeld => ?_); clear hK K; refine norm_ (a' := ?_) ?_ ?_; rotate_left
              ·show Act.put _ (some 69) _ = _
               simp only [Act.put, List.setIfInBounds_toArray, List.set_cons_zero, List.set_cons_succ, i64_w, i32_w]; rfl
              refine last_ (i := 7) (N := none) (fb 8 255) rfl rfl (one_of HT_.out (by kernel_rfl)) (by decide) (fun K hK => ?_); have hs77 : w75.cell? ⟨gb166, 0, none⟩ = some (.slice Ao74 qj.length co74) := (blk_cell qk.out 0).trans rfl; have hfs77 := blk_frozen qk.out 0; have hns77_0 := qv.out; have hns77_1 := qp.out; have hns77_2 := qy.out; have hms77_0 := qz.out; have hms77_1 := qu.out; have hms77_2 := NB166_160.out; refine skip_ (w1 := ?_) (by rfl) rfl ?_ ?_; rotate_left
              ·go_simp; rfl
              refine hK.out _ _ ?_; clear hK K; refine done_ (done_of HT_.out (by kernel_rfl)) ?_
              try go_wp2
              go_roundg k3
              case measure => have := HJ2.out; have := HK2.out; have := HK3.out; omega
              case rel => exact ⟨(wrap64 (qb + 1)), (t169), (.slice Ao76 t169.length co76), Ye1, H', ⟨by have := HJ2.out; have := HK2.out; have := HK3.out; omega⟩, ⟨by (with_reducible repeat (first | apply Kd.R_alloc | apply Kd.R_drewN | apply Kd.R_drew)); exact Kd.R_mono (Kd.R_far (p := ⟨gb166, 0, none⟩) (Kd.R_types HO171.out qk.out (by decide)) (fun _ hk => hk.2) (.slice Ao76 t169.length co76)) (fun _ hk => trivial)⟩, ⟨bkf qd.out qv.out⟩, ⟨bkf qe.out qp.out⟩, ⟨bkf qg.out qy.out⟩, ⟨by (with_reducible repeat (first | apply blk_drewN | apply blk_drew | apply blk_alloc)); refine blk_put (cs := #[.slice Ao74 qj.length co74]) ?_ 0 _ rfl; (with_reducible repeat (first | apply blk_drewN | apply blk_drew | apply blk_alloc)); exact qk.out⟩, ⟨be4 HB.out qh.out qi.out ql.out GE166.out⟩⟩
             ·rw [if_neg c67] at H
              exact absurd H (by simp)
            ·rw [if_neg c66] at H
             exact absurd H (by simp)
           ·replace c65 := Bool.eq_false_iff.mpr c65; subst c65
            have H1 : (spec_Overlay.l0 k3 (wrap64 (qb + 1)) qa qc qj) = some (r1, r2) := by rw [if_neg (show ¬ (false = true) by decide)] at H; exact H
            clear H; have H := H1; clear H1; have H' := Aside0.mk H; clear H; have hnb78 := qo.out; have hnc78 := qn.out; have hnb79 := qr.out; have hnc79 := qt.out; have hnb80 := qp.out; have hnc80 := qu.out; have ⟨hcz81_0, hfz81_0⟩ := Yc1 qe.out
            go_wp2
            go_roundg k3
            case measure => have := HJ2.out; have := HK2.out; have := HK3.out; omega
            case rel => exact ⟨(wrap64 (qb + 1)), (qj), (u167000), Ye1, H', ⟨by have := HJ2.out; have := HK2.out; have := HK3.out; omega⟩, ⟨kr qm.out⟩, ⟨bk qd.out⟩, ⟨bk qe.out⟩, ⟨bk qg.out⟩, ⟨bk qk.out⟩, ⟨be4 HB.out qh.out qi.out ql.out GE166.out⟩⟩
       ·rw [if_neg c37] at H
        exact absurd H (by simp)
      ·rw [if_neg c36] at H
       have c36b0 : decide (qb < (qa.length : Int)) = false := decide_eq_false c36; clear c36
       by_cases c82 : (qj.length : Int) > 100
       ·rw [if_pos c82] at H
        have c82b0 : decide (100 < (qj.length : Int)) = true := decide_eq_true c82; have c82b1 : decide (100 < qj.length) = true := decide_eq_true (by omega); clear c82; simp only [Option.some.injEq, Prod.mk.injEq] at H; obtain ⟨rfl, rfl⟩ := H; have hnb83 := qn.out; have hnc83 := qo.out; have hnb84 := qw.out; have hnc84 := qx.out; have hnb85 := qv.out; have hnc85 := qz.out; have ⟨hcz86_0, hfz86_0⟩ := Yc1 qd.out; have hnb87 := qu.out; have hnc87 := qp.out; have hnb88 := NB166_160.out; have hnc88 := qy.out; have ⟨hcz89_0, hfz89_0⟩ := Yc1 qk.out; obtain ⟨Ao90, co90, eo90⟩ := Kd.R_slice qm.out; subst eo90; have hnb91 := qt.out; have hnc91 := qr.out; have ⟨hcz92_0, hfz92_0⟩ := Yc1 qg.out
        go_wp2
        refine bodyPost_ret (results_ct rfl _ _ gb160 28 #[.slice none 0 0] (0, 0) _ rfl (by (with_reducible repeat (first | apply blk_drewN | apply blk_drew | apply blk_alloc)); refine blk_put (cs := #[.slice none 0 0]) ?_ 0 _ rfl; (with_reducible repeat (first | apply blk_drewN | apply blk_drew | apply blk_alloc)); exact qg.out) Tryd.underlying28 rfl (by kernel_rfl)) rfl ?_; exact ⟨_, Ye2, nl, (by first | exact be4 HB.out qh.out qi.out ql.out GE166.out | exact be3 HB.out qh.out qi.out ql.out | exact be2 HB.out qh.out qi.out)⟩
       ·rw [if_neg c82] at H
        have c82b0 : decide (100 < (qj.length : Int)) = false := decide_eq_false c82; have c82b1 : decide (100 < qj.length) = false := decide_eq_false (by omega); clear c82; simp only [Option.some.injEq, Prod.mk.injEq] at H; obtain ⟨rfl, rfl⟩ := H; have hnb93 := qn.out; have hnc93 := qo.out; have hnb94 := qw.out; have hnc94 := qx.out; have hnb95 := qv.out; have hnc95 := qz.out; have ⟨hcz96_0, hfz96_0⟩ := Yc1 qd.out; have hnb97 := qu.out; have hnc97 := qp.out; have hnb98 := NB166_160.out; have hnc98 := qy.out; have ⟨hcz99_0, hfz99_0⟩ := Yc1 qk.out; obtain ⟨Ao100, co100, eo100⟩ := Kd.R_slice qm.out; subst eo100; have hnb101 := qt.out; have hnc101 := qr.out; have ⟨hcz102_0, hfz102_0⟩ := Yc1 qg.out
        go_wp2
        refine bodyPost_ret (results_ct rfl _ _ gb160 28 #[.slice Ao100 qj.length co100] (0, 0) _ rfl (by (with_reducible repeat (first | apply blk_drewN | apply blk_drew | apply blk_alloc)); refine blk_put (cs := #[.slice none 0 0]) ?_ 0 _ rfl; (with_reducible repeat (first | apply blk_drewN | apply blk_drew | apply blk_alloc)); exact qg.out) Tryd.underlying28 rfl (by kernel_rfl)) rfl ?_; exact ⟨_, Ye2, by (with_reducible repeat (first | apply Kd.R_alloc | apply Kd.R_drewN | apply Kd.R_drew)); exact Kd.R_mono (Kd.R_far (p := ⟨gb160, 0, none⟩) (Kd.R_types qm.out qg.out (by decide)) (fun _ hk => hk.2) (.slice Ao100 qj.length co100)) (fun _ hk => trivial), (by first | exact be4 HB.out qh.out qi.out ql.out GE166.out | exact be3 HB.out qh.out qi.out ql.out | exact be2 HB.out qh.out qi.out)⟩

end Go.Proofs.YtgnmledjkamojaaDoor.P


namespace Go.Proofs.YtgnmledjkamojaaDoor.P
open Go.RowKit Go.Proofs.YtgnmledjkamojaaDoorW.PrintWords Go.Proofs.YtgnmledjkamojaaDoorW.PrintLast Go.Proofs.YtgnmledjkamojaaDoorW.PrintMore
attribute [local go_sem] max2_int min2_int max_two min_two max_three min_three max_four min_four
set_option linter.unusedVariables false
set_option linter.unusedSimpArgs false

/-! ### impl_find: function 83 -/
def impl_find.g (l : List S37) (path : ByteArray) (i : Nat) : Int := Go.Lib.compareBytes path.data.toList (rd_T37 l (i : Int)).f0.data.toList
def impl_find.l0 (g : Nat → Int) : Nat → Nat → Nat → Option Nat
 | 0, _, _ => none
 | k + 1, i, j => if i < j then (if g ((i + j) / 2) > 0 then impl_find.l0 g k ((i + j) / 2 + 1) j else impl_find.l0 g k i ((i + j) / 2)) else some i
def impl_find.f (k : Nat) (l0 : List S37) (a1 : ByteArray) : Option (Int × Bool) := if l0.length ≤ 4611686018427387904 then ((impl_find.l0 (impl_find.g l0 a1) k 0 l0.length).bind fun i => some ((i : Int), if i < l0.length then (impl_find.g l0 a1 i == 0) else false)) else none
theorem impl_find.mono_l (g : Nat → Int) : ∀ k i j, LeO (impl_find.l0 g k i j) (impl_find.l0 g (k + 1) i j)
 | 0, _, _ => fun r h => by simp [impl_find.l0] at h
 | k + 1, i, j => by
  unfold impl_find.l0
  exact LeO.ite (LeO.ite (impl_find.mono_l g k _ _) (impl_find.mono_l g k _ _)) (LeO.refl _)
theorem impl_find.mono : ∀ l0 a1 k, LeO (impl_find.f k l0 a1) (impl_find.f (k + 1) l0 a1) := fun l0 a1 k => by
 unfold impl_find.f
 exact LeO.ite (LeO.bind (impl_find.mono_l _ _ _ _) (fun _ => LeO.refl _)) (LeO.refl _)
set_option maxHeartbeats 1000000 in
set_option maxRecDepth 100000 in
theorem impl_find.cmp_calls (A : Option Addr) (c : Nat) (l : List S37) (path : ByteArray) (Bp Bt : Nat) (W : World) (hp : W.cell? ⟨Bp, 0, none⟩ = some (.string path)) (ht : W.cell? ⟨Bt, 0, none⟩ = some (.slice A l.length c)) (hc : Kd.C k37 W A l.length l) (i : Nat) (hi : i < l.length) :
  Calls Tryd.prog 146 #[.int .i64 (i : Int), .pointer (some ⟨Bp, 0, none⟩), .pointer (some ⟨Bt, 0, none⟩)] W fun e w' => e = .returned (.int .i64 (impl_find.g l path i)) ∧ ∃ nd, w' = W.drewN nd := by
 obtain ⟨ad, e1, hx0⟩ := at_T37 hc (i : Int) (by omega) (by omega); subst e1; have hu29 := Tryd.underlying28; have hu45 := Tryd.underlying37; obtain ⟨hx1, hx2, hx3⟩ := hx0
 rw [Int.toNat_natCast] at hx1 hx2 hx3
 have c1 : decide ((i : Int) < (l.length : Int)) = true := decide_eq_true (by omega); have c2 : decide (0 ≤ (i : Int)) = true := decide_eq_true (by omega); have c3 : decide (i < l.length) = true := decide_eq_true hi
 go_enter Tryd.func146, Tryd.ntmps146
 go_wp2
 go_quiet (first | (go_at_call 147; exact Calls.quiet_of_same (Tryd.strings_Compare path (rd_T37 l (i : Int)).f0 _)))
 go_wp2
 go_ret
 exact ⟨rfl, nq, rfl⟩
set_option maxHeartbeats 1000000 in
set_option maxRecDepth 100000 in
theorem impl_find.calls (k : Nat) (A0_0 : Option Addr) (c0_0 : Nat) (qa : List S37) (a1 : ByteArray) (r1 : Int) (r2 : Bool) (w : World) (hr0_0 : Kd.C k37 w A0_0 qa.length qa) (hc0_0 : qa.length ≤ c0_0) (h : impl_find.f k qa a1 = some (r1, r2)) :
  Calls Tryd.prog 83 #[.agg #[.slice A0_0 qa.length c0_0], .string a1] w fun e w' => e = .returned (.tuple #[.int .i64 r1, .bool r2]) ∧ Below w.heap.size w w' := by
 have hu29 := Tryd.underlying28; have hu45 := Tryd.underlying37
 unfold impl_find.f at h
 have hl62 : qa.length ≤ 4611686018427387904 := by
  refine Classical.byContradiction fun hn => ?_
  rw [if_neg hn] at h
  cases h
 rw [if_pos hl62] at h
 have HL := Aside0.mk hl62; clear hl62; obtain ⟨m, hm, h2⟩ := Option.bind_eq_some_iff.1 h; obtain ⟨rfl, rfl⟩ := Prod.mk.inj (Option.some.inj h2); clear h h2; have HM := Aside0.mk hm; clear hm
 go_enter Tryd.func83, Tryd.ntmps83
 go_wp2
 have ht : ((w.alloc (.cells #[.slice A0_0 qa.length c0_0] 28)).alloc (.cells #[.string a1] 9)).cell? ⟨w.heap.size, 0, none⟩ = some (.slice A0_0 qa.length c0_0) := by simp
 have hp : ((w.alloc (.cells #[.slice A0_0 qa.length c0_0] 28)).alloc (.cells #[.string a1] 9)).cell? ⟨w.heap.size + 1, 0, none⟩ = some (.string a1) := by simp
 have hc : Kd.C k37 ((w.alloc (.cells #[.slice A0_0 qa.length c0_0] 28)).alloc (.cells #[.string a1] 9)) A0_0 qa.length qa := Kd.C_alloc (Kd.C_alloc hr0_0 _) _; have hb : Below w.heap.size w ((w.alloc (.cells #[.slice A0_0 qa.length c0_0] 28)).alloc (.cells #[.string a1] 9)) := below_alloc (below_alloc (Below.refl _ _) _) _; generalize ((w.alloc (.cells #[.slice A0_0 qa.length c0_0] 28)).alloc (.cells #[.string a1] 9)) = W at ht hp hc hb ⊢
 have HC := fun (nd i : Nat) (hi : i < qa.length) => impl_find.cmp_calls A0_0 c0_0 qa a1 (w.heap.size + 1) w.heap.size (W.drewN nd) hp ht (Kd.C_drewN hc nd) i hi
 clear hc hp ht hr0_0
 go_loopg [4, 6] k (fun kq v4 v6 w' => ∃ (i j nd : Nat), v4 = .int .i64 (i : Int) ∧ v6 = .int .i64 (j : Int) ∧ Aside0 (impl_find.l0 (impl_find.g qa a1) kq i j = some m) ∧ Aside0 (j ≤ qa.length) ∧ w' = W.drewN nd)
 case atStart => exact ⟨0, qa.length, 0, rfl, rfl, HM, ⟨Nat.le_refl _⟩, rfl⟩
 case round =>
  clear HM; obtain ⟨i, j, nd, rfl, rfl, HM, HJ, rfl⟩ := hrel
  cases gk with
  | zero => exact absurd HM.out (by simp [impl_find.l0])
  | succ k1 =>
   have H := HM.out; clear HM
   unfold impl_find.l0 at H
   by_cases hij : i < j
   ·rw [if_pos hij] at H
    have c1 : decide ((i : Int) < (j : Int)) = true := decide_eq_true (by omega); have c2 : decide (i < j) = true := decide_eq_true hij
    have he : wrap64 (IntKind.u64.wrap (wrap64 ((i : Int) + (j : Int))) / 2) = (((i + j) / 2 : Nat) : Int) := by
     have hl := HL.out; have hj := HJ.out
     have e1 : wrap64 ((i : Int) + (j : Int)) = (i : Int) + (j : Int) := by unfold wrap64; omega
     have e2 : IntKind.u64.wrap ((i : Int) + (j : Int)) = (i : Int) + (j : Int) := by simp [IntKind.wrap, IntKind.bits, IntKind.signed]; omega
     rw [e1, e2]
     unfold wrap64
     omega
    have hh : (i + j) / 2 < qa.length := by have := HJ.out; omega
    by_cases hg : impl_find.g qa a1 ((i + j) / 2) > 0
    ·rw [if_pos hg] at H
     have d1 : decide (0 < impl_find.g qa a1 ((i + j) / 2)) = true := decide_eq_true hg; have H' := Aside0.mk H; clear H
     go_wp2_with (go_at_call 146; rw [he]; refine (HC nd _ hh).mono ?_; rintro e w' ⟨rfl, nd2, rfl⟩)
     go_roundg k1
     case measure => omega
     case rel => exact ⟨(i + j) / 2 + 1, j, nd + nd2, by rw [show wrap64 (((i : Int) + (j : Int)) / 2 + 1) = (((i + j) / 2 + 1 : Nat) : Int) from by have := HL.out; have := HJ.out; unfold wrap64; omega], rfl, H', HJ, rfl⟩
    ·rw [if_neg hg] at H
     have d1 : decide (0 < impl_find.g qa a1 ((i + j) / 2)) = false := decide_eq_false hg; have H' := Aside0.mk H; clear H
     go_wp2_with (go_at_call 146; rw [he]; refine (HC nd _ hh).mono ?_; rintro e w' ⟨rfl, nd2, rfl⟩)
     go_roundg k1
     case measure => omega
     case rel => exact ⟨i, (i + j) / 2, nd + nd2, rfl, by rw [show ((i : Int) + (j : Int)) / 2 = (((i + j) / 2 : Nat) : Int) from by omega], H', ⟨by have := HJ.out; omega⟩, rfl⟩
   ·rw [if_neg hij] at H
    obtain rfl := Option.some.inj H; have c1 : decide ((i : Int) < (j : Int)) = false := decide_eq_false (by omega); have c2 : decide (i < j) = false := decide_eq_false hij
    by_cases hi : i < qa.length
    ·have d1 : decide ((i : Int) < (qa.length : Int)) = true := decide_eq_true (by omega); have d2 : decide (i < qa.length) = true := decide_eq_true hi
     go_wp2_with (go_at_call 146; refine (HC nd i hi).mono ?_; rintro e w' ⟨rfl, nd2, rfl⟩)
     go_ret2
     exact ⟨by simp [hi], pw_below_drewN hb _⟩
    ·have d1 : decide ((i : Int) < (qa.length : Int)) = false := decide_eq_false (by omega); have d2 : decide (i < qa.length) = false := decide_eq_false hi
     go_wp2
     go_ret2
     exact ⟨by simp [hi], pw_below_drewN hb _⟩


end Go.Proofs.YtgnmledjkamojaaDoor.P

