-- Printed for this claim by a small program of this session (kprint.py), which drives the kit's print program.
import Derived.Test.YtnndpbkcldkbgaaP0
import Derived.Test.YtnndpbkcldkbgaaSqueeze
namespace Go.Proofs.Ytnndpbkcldkbgaa.P
open Go.RowKit Go.Proofs.YtnndpbkcldkbgaaW.PrintWords Go.Proofs.YtnndpbkcldkbgaaW.PrintLast Go.Proofs.YtnndpbkcldkbgaaW.PrintMore
attribute [local go_sem] max2_int min2_int max_two min_two max_three min_three max_four min_four
set_option linter.unusedVariables false
set_option linter.unusedSimpArgs false

/-! ### laws_eqPair: function 88 -/
def laws_eqPair.f (a0_0 : Int) (a0_1 : Int) (a1_0 : Int) (a1_1 : Int) : Option (Bool) := if a0_0 = a1_0 then (if a0_1 = a1_1 then (some true) else (some false)) else (some false)
set_option maxHeartbeats 8000000 in
set_option maxRecDepth 100000 in
theorem laws_eqPair.calls (a0_0 : Int) (a0_1 : Int) (a1_0 : Int) (a1_1 : Int) (r : Bool) (w : World) (h : laws_eqPair.f a0_0 a0_1 a1_0 a1_1 = some r) :
  Calls Try.prog 88 #[.agg #[.int .i64 a0_0, .int .i64 a0_1], .agg #[.int .i64 a1_0, .int .i64 a1_1]] w fun e w' => e = .returned (.bool r) ∧ Below w.heap.size w w' := by
 have hu69 := Try.underlying69
 have HB := Aside0.mk (Below.refl w.heap.size w)
 have H : (if a0_0 = a1_0 then (if a0_1 = a1_1 then (some true) else (some false)) else (some false)) = some r := h
 clear h
 by_cases c3 : a0_0 = a1_0
 ·rw [if_pos c3] at H
  have c3b0 : (a0_0 == a1_0) = true := beq_iff_eq.mpr c3
  have c3b1 : (a0_0 != a1_0) = false := bne_eq_false_iff_eq.mpr c3
  clear c3
  by_cases c4 : a0_1 = a1_1
  ·rw [if_pos c4] at H
   have c4b0 : (a0_1 == a1_1) = true := beq_iff_eq.mpr c4
   have c4b1 : (a0_1 != a1_1) = false := bne_eq_false_iff_eq.mpr c4
   clear c4
   obtain rfl := Option.some.inj H
   go_enter Try.func88, Try.ntmps88
   go_wp2_with (first | ((with_reducible refine gd 2 rfl ?_); refine bx 2 69 (#[.int .i64 a0_0, .int .i64 a0_1]) ?_; intro gb1082 hg w5 hbox hb; refine Ya4 (below_step (be HB.out) hb) (hbox) (bs hg (be HB.out)) (bs hg (be HB.out)) ?_; clear HB; intro HB BK1082 GW1082 GE1082; clear hb hbox hg) | ((with_reducible refine gd 3 rfl ?_); refine bx 3 69 (#[.int .i64 a1_0, .int .i64 a1_1]) ?_; intro gb1083 hg w6 hbox hb; refine Ya7 (bb BK1082 hb) (below_step (be1 HB.out GE1082.out) hb) (hbox) (bs hg (be1 HB.out GE1082.out)) (bs hg (be1 HB.out GE1082.out)) (bl hg BK1082) (br hg BK1082) ?_; clear BK1082 HB; intro BK1082 HB BK1083 GW1083 GE1083 NB1082_1083 NB1083_1082; clear hb hbox hg; have hnb7 := NB1082_1083.out; have hnc7 := NB1083_1082.out; have ⟨hcz8_0, hcz8_1, hfz8_0, hfz8_1⟩ := Yc2 BK1082.out; have ⟨hcz9_0, hcz9_1, hfz9_0, hfz9_1⟩ := Yc2 BK1083.out))
   go_ret
   exact ⟨Ye2, (by first | exact be2 HB.out GE1082.out GE1083.out | exact be1 HB.out GE1082.out | exact be HB.out)⟩
  ·rw [if_neg c4] at H
   have c4b0 : (a0_1 == a1_1) = false := beq_eq_false_iff_ne.mpr c4
   have c4b1 : (a0_1 != a1_1) = true := bne_iff_ne.mpr c4
   obtain rfl := Option.some.inj H
   go_enter Try.func88, Try.ntmps88
   go_wp2_with (first | ((with_reducible refine gd 2 rfl ?_); refine bx 2 69 (#[.int .i64 a0_0, .int .i64 a0_1]) ?_; intro gb1082 hg w10 hbox hb; refine Ya4 (below_step (be HB.out) hb) (hbox) (bs hg (be HB.out)) (bs hg (be HB.out)) ?_; clear HB; intro HB BK1082 GW1082 GE1082; clear hb hbox hg) | ((with_reducible refine gd 3 rfl ?_); refine bx 3 69 (#[.int .i64 a1_0, .int .i64 a1_1]) ?_; intro gb1083 hg w11 hbox hb; refine Ya7 (bb BK1082 hb) (below_step (be1 HB.out GE1082.out) hb) (hbox) (bs hg (be1 HB.out GE1082.out)) (bs hg (be1 HB.out GE1082.out)) (bl hg BK1082) (br hg BK1082) ?_; clear BK1082 HB; intro BK1082 HB BK1083 GW1083 GE1083 NB1082_1083 NB1083_1082; clear hb hbox hg; have hnb12 := NB1082_1083.out; have hnc12 := NB1083_1082.out; have ⟨hcz13_0, hcz13_1, hfz13_0, hfz13_1⟩ := Yc2 BK1082.out; have ⟨hcz14_0, hcz14_1, hfz14_0, hfz14_1⟩ := Yc2 BK1083.out))
   go_ret
   exact ⟨Ye2, (by first | exact be2 HB.out GE1082.out GE1083.out | exact be1 HB.out GE1082.out | exact be HB.out)⟩
 ·rw [if_neg c3] at H
  have c3b0 : (a0_0 == a1_0) = false := beq_eq_false_iff_ne.mpr c3
  have c3b1 : (a0_0 != a1_0) = true := bne_iff_ne.mpr c3
  obtain rfl := Option.some.inj H
  go_enter Try.func88, Try.ntmps88
  go_wp2_with (first | ((with_reducible refine gd 2 rfl ?_); refine bx 2 69 (#[.int .i64 a0_0, .int .i64 a0_1]) ?_; intro gb1082 hg w15 hbox hb; refine Ya4 (below_step (be HB.out) hb) (hbox) (bs hg (be HB.out)) (bs hg (be HB.out)) ?_; clear HB; intro HB BK1082 GW1082 GE1082; clear hb hbox hg) | ((with_reducible refine gd 3 rfl ?_); refine bx 3 69 (#[.int .i64 a1_0, .int .i64 a1_1]) ?_; intro gb1083 hg w16 hbox hb; refine Ya7 (bb BK1082 hb) (below_step (be1 HB.out GE1082.out) hb) (hbox) (bs hg (be1 HB.out GE1082.out)) (bs hg (be1 HB.out GE1082.out)) (bl hg BK1082) (br hg BK1082) ?_; clear BK1082 HB; intro BK1082 HB BK1083 GW1083 GE1083 NB1082_1083 NB1083_1082; clear hb hbox hg; have hnb17 := NB1082_1083.out; have hnc17 := NB1083_1082.out; have ⟨hcz18_0, hcz18_1, hfz18_0, hfz18_1⟩ := Yc2 BK1082.out; have ⟨hcz19_0, hcz19_1, hfz19_0, hfz19_1⟩ := Yc2 BK1083.out))
  go_ret
  exact ⟨Ye2, (by first | exact be2 HB.out GE1082.out GE1083.out | exact be1 HB.out GE1082.out | exact be HB.out)⟩

/-! ### laws_eqPairS: function 41 -/
def laws_eqPairS.l0 : Nat → List (S69) → List (S69) → Int → Option (Bool)
 | 0, _, _, _ => none
 | k + 1, x0, x1, x5 => if x5 < (x0.length : Int) then (if 0 ≤ x5 then (if x5 < (x1.length : Int) then ((laws_eqPair.f ((rd_T69 x0 x5).f0) ((rd_T69 x0 x5).f1) ((rd_T69 x1 x5).f0) ((rd_T69 x1 x5).f1)).bind fun t1086 => (if t1086 = true then (laws_eqPairS.l0 k x0 x1 (wrap64 (x5 + 1))) else (some false))) else (none)) else (none)) else (some true)
def laws_eqPairS.f (k : Nat) (l0 : List (S69)) (l1 : List (S69)) : Option (Bool) := if (l0.length : Int) = (l1.length : Int) then (laws_eqPairS.l0 k l0 l1 0) else (some false)
theorem laws_eqPairS.mono_l : ∀ k, (∀ y0 y1 y2, LeO (laws_eqPairS.l0 k y0 y1 y2) (laws_eqPairS.l0 (k + 1) y0 y1 y2))
 | 0 => fun _ _ _ r h => by simp [laws_eqPairS.l0] at h
 | k + 1 => by
  have ih0 := laws_eqPairS.mono_l k
  ·intro y0 y1 y2
   unfold laws_eqPairS.l0
   repeat' first
   | (with_reducible exact ih0 _ _ _)
   | (with_reducible exact LeO.refl _)
   | (with_reducible exact LeO.none _)
   | (with_reducible refine LeO.ite ?_ ?_)
   | (with_reducible refine LeO.bind ?_ (fun _ => ?_))
   | exact ih0 _ _ _
   | exact LeO.none _
   | refine LeO.ite ?_ ?_
   | refine LeO.bind ?_ (fun _ => ?_)
theorem laws_eqPairS.mono : ∀ a0 a1 k, LeO (laws_eqPairS.f k a0 a1) (laws_eqPairS.f (k + 1) a0 a1) := by
 intro a0 a1 k
 have ih0 := laws_eqPairS.mono_l k
 unfold laws_eqPairS.f
 repeat' first
   | (with_reducible exact ih0 _ _ _)
   | (with_reducible exact LeO.refl _)
   | (with_reducible exact LeO.none _)
   | (with_reducible refine LeO.ite ?_ ?_)
   | (with_reducible refine LeO.bind ?_ (fun _ => ?_))
   | exact ih0 _ _ _
   | exact LeO.none _
   | refine LeO.ite ?_ ?_
   | refine LeO.bind ?_ (fun _ => ?_)
def laws_eqPairS.T6 : Bool × List (List Nat × List Nat) := (true, [([], []), ([], []), ([0, 1], [0, 1]), ([2], [2]), ([], []), ([], []), ([4, 5], [4, 5]), ([6], [6]), ([3, 7], [3, 7]), ([8], [8])])
def laws_eqPairS.B6 : List Nat := [0, 0, 3, 7, 0, 0, 48, 112, 255, 511]
theorem laws_eqPairS.tab6 : rtab .any (opsOf Try.f41 6) = laws_eqPairS.T6 := by kernel_rfl
theorem laws_eqPairS.bits6 : waitsOk laws_eqPairS.T6.2 laws_eqPairS.B6 = true := by kernel_rfl
set_option maxHeartbeats 8000000 in
set_option maxRecDepth 100000 in
theorem laws_eqPairS.calls (k : Nat) (A0 : Option Addr) (c0 : Nat) (l0 : List (S69)) (A1 : Option Addr) (c1 : Nat) (l1 : List (S69)) (r : Bool) (w : World) (hr0 : Kd.C k69 w A0 l0.length l0) (hc0 : l0.length ≤ c0) (hr1 : Kd.C k69 w A1 l1.length l1) (hc1 : l1.length ≤ c1) (h : laws_eqPairS.f k l0 l1 = some r) :
  Calls Try.prog 41 #[.slice A0 l0.length c0, .slice A1 l1.length c1] w fun e w' => e = .returned (.bool r) ∧ Below w.heap.size w w' := by
 have hu69 := Try.underlying69
 have HR0 := Aside0.mk hr0
 have HC0 := Aside0.mk hc0
 clear hr0 hc0
 have HR1 := Aside0.mk hr1
 have HC1 := Aside0.mk hc1
 clear hr1 hc1
 have HB := Aside0.mk (Below.refl w.heap.size w)
 have H : (if (l0.length : Int) = (l1.length : Int) then (laws_eqPairS.l0 k l0 l1 0) else (some false)) = some r := h
 clear h
 by_cases c3 : (l0.length : Int) = (l1.length : Int)
 ·rw [if_pos c3] at H
  have c3b0 : ((l0.length : Int) == (l1.length : Int)) = true := beq_iff_eq.mpr c3
  have c3b1 : ((l0.length : Int) != (l1.length : Int)) = false := bne_eq_false_iff_eq.mpr c3
  have c3b2 : (l0.length == l1.length) = true := by first | simpa using c3 | (simp at c3 ⊢; omega)
  clear c3
  have H' := Aside0.mk H
  clear H
  go_enter Try.func41, Try.ntmps41
  go_wp2
  go_loopg [5] k (fun kq v5 w' => ∃ (x5_1 : Int), v5 = .int .i64 x5_1 ∧ Aside0 (laws_eqPairS.l0 kq l0 l1 x5_1 = some r) ∧ Aside0 (kq ≤ k) ∧ Aside0 (Below w.heap.size w w'))
  case atStart => exact ⟨(0), Ye1, H', ⟨Nat.le_refl _⟩, ⟨be HB.out⟩⟩
  case round =>
   clear H'
   try clear c1
   try clear p2
   try clear c3
   try clear c3b0
   try clear c3b1
   try clear c3b2
   obtain ⟨x5_1, rfl, HA, HK1, HB⟩ := hrel
   cases gk with
   | zero => exact absurd HA.out (by simp [laws_eqPairS.l0])
   | succ k1 =>
    have H := HA.out
    clear HA
    simp only [laws_eqPairS.l0] at H
    by_cases c4 : x5_1 < (l0.length : Int)
    ·rw [if_pos c4] at H
     have c4b0 : decide (x5_1 < (l0.length : Int)) = true := decide_eq_true c4
     clear c4
     by_cases c5 : 0 ≤ x5_1
     ·rw [if_pos c5] at H
      have c5b0 : decide (0 ≤ x5_1) = true := decide_eq_true c5
      clear c5
      by_cases c6 : x5_1 < (l1.length : Int)
      ·rw [if_pos c6] at H
       have c6b0 : decide (x5_1 < (l1.length : Int)) = true := decide_eq_true c6
       clear c6
       replace H := Option.bind_eq_some_iff.mp H
       obtain ⟨t1086, A70, H⟩ := H
       replace H : (if t1086 = true then (laws_eqPairS.l0 k1 l0 l1 (wrap64 (x5_1 + 1))) else (some false)) = some r := H
       have A7 := Aside0.mk A70
       clear A70
       by_cases c8 : t1086 = true
       ·subst c8
        have H1 : (laws_eqPairS.l0 k1 l0 l1 (wrap64 (x5_1 + 1))) = some r := by rw [if_pos rfl] at H; exact H
        clear H
        have H := H1
        clear H1
        have H' := Aside0.mk H
        clear H
        try go_wp2
        refine Ya1 (below_drew1 HB.out) ?_
        clear HB
        intro HB
        have p1084 : 0 ≤ (x5_1 : Int) := oda
        have q1084 : x5_1 < (l0.length : Int) := oda
        obtain ⟨ad1084, e1084, hx1084_0, hx1084_1⟩ := at_T69 HR0.out x5_1 p1084 q1084
        have hw1084_1 := hx1084_1
        have hw1084_0 := hx1084_0
        cases e1084
        replace hx1084_0 := pw_cell_below HB.out hx1084_0
        replace hx1084_1 := pw_cell_below HB.out hx1084_1
        replace p1084 := eq_true p1084
        replace q1084 := eq_true q1084
        have p1085 : 0 ≤ (x5_1 : Int) := oda
        have q1085 : x5_1 < (l1.length : Int) := oda
        obtain ⟨ad1085, e1085, hx1085_0, hx1085_1⟩ := at_T69 HR1.out x5_1 p1085 q1085
        have hw1085_1 := hx1085_1
        have hw1085_0 := hx1085_0
        cases e1085
        replace hx1085_0 := pw_cell_below HB.out hx1085_0
        replace hx1085_1 := pw_cell_below HB.out hx1085_1
        replace p1085 := eq_true p1085
        replace q1085 := eq_true q1085
        refine start_ (n := 10) (S := fun w' => w'.cell? (ad1084.add ((x5_1).toNat * 2)) = some (.int .i64 ((rd_T69 l0 x5_1).f0)) ∧ w'.cell? ⟨(ad1084.add ((x5_1).toNat * 2)).block, (ad1084.add ((x5_1).toNat * 2)).off + 1, none⟩ = some (.int .i64 ((rd_T69 l0 x5_1).f1)) ∧ w'.cell? (ad1085.add ((x5_1).toNat * 2)) = some (.int .i64 ((rd_T69 l1 x5_1).f0)) ∧ w'.cell? ⟨(ad1085.add ((x5_1).toNat * 2)).block, (ad1085.add ((x5_1).toNat * 2)).off + 1, none⟩ = some (.int .i64 ((rd_T69 l1 x5_1).f1))) (ds := []) (fb 10 0) (by kernel_rfl) rfl rfl ⟨(pw_cell_below HB.out hw1084_0), (pw_cell_below HB.out hw1084_1), (pw_cell_below HB.out hw1085_0), (pw_cell_below HB.out hw1085_1)⟩ (fun hHeld => ?_); refine with_tabW laws_eqPairS.tab6 laws_eqPairS.bits6 (fun HT_ HW_ => ?_)
        generalize wr.drew = w9 at HB hx1084_0 hx1084_1 hx1085_0 hx1085_1 hHeld ⊢
        refine pu 0 17 (fb 10 1) HT_ ?_
        refine pu 1 18 (fb 10 3) HT_ ?_
        refine pu 2 19 (fb 10 7) HT_ ?_
        refine pu 4 21 (fb 10 23) HT_ ?_
        refine pu 5 22 (fb 10 55) HT_ ?_
        refine pu 6 23 (fb 10 119) HT_ ?_
        refine tk 3 20 (fb 10 127) HT_ HW_ hHeld ?_
        refine tk 7 24 (fb 10 255) HT_ HW_ hHeld ?_
        refine one_ (i := 8) (N := some 25) (fb 10 511) rfl rfl (one_of HT_.out (by kernel_rfl)) (by decide) (fun K hK => ?_)
        refine gs _ (#[.agg #[.int .i64 ((rd_T69 l0 x5_1).f0), .int .i64 ((rd_T69 l0 x5_1).f1)], .agg #[.int .i64 ((rd_T69 l1 x5_1).f0), .int .i64 ((rd_T69 l1 x5_1).f1)]]) Try.func88 ?_
        with_reducible refine (laws_eqPair.calls ((rd_T69 l0 x5_1).f0) ((rd_T69 l0 x5_1).f1) ((rd_T69 l1 x5_1).f0) ((rd_T69 l1 x5_1).f1) true _ A7.out).mono ?_
        rintro e w10 ⟨rfl, hb⟩
        refine ⟨_, rfl, ?_⟩
        refine Ya1 (below_step (be HB.out) hb) ?_
        clear HB
        intro HB
        (try clear hb)
        (try clear hb2)
        (try clear hk)
        (try clear hi)
        refine hK.out _ _ ⟨(pw_cell_below HB.out hw1084_0), (pw_cell_below HB.out hw1084_1), (pw_cell_below HB.out hw1085_0), (pw_cell_below HB.out hw1085_1)⟩ (fun hHeld => ?_)
        clear hK K
        refine norm_ (a' := ?_) ?_ ?_
        rotate_left
        ·show Act.put _ (some 25) _ = _
         simp only [Act.put, List.setIfInBounds_toArray, List.set_cons_zero, List.set_cons_succ, i64_w, i32_w]
         rfl
        refine pu 9 26 (fb 10 1023) HT_ ?_
        refine done_ (done_of HT_.out (by kernel_rfl)) ?_
        try go_wp2
        go_roundg k1
        case measure => have := HK1.out; omega
        case rel => exact ⟨(wrap64 (x5_1 + 1)), Ye1, H', ⟨by have := HK1.out; omega⟩, ⟨be HB.out⟩⟩
       ·replace c8 := Bool.eq_false_iff.mpr c8
        subst c8
        have H1 : (some false) = some r := by rw [if_neg (show ¬ (false = true) by decide)] at H; exact H
        clear H
        have H := H1
        clear H1
        obtain rfl := Option.some.inj H
        try go_wp2
        refine Ya1 (below_drew1 HB.out) ?_
        clear HB
        intro HB
        have p1084 : 0 ≤ (x5_1 : Int) := oda
        have q1084 : x5_1 < (l0.length : Int) := oda
        obtain ⟨ad1084, e1084, hx1084_0, hx1084_1⟩ := at_T69 HR0.out x5_1 p1084 q1084
        have hw1084_1 := hx1084_1
        have hw1084_0 := hx1084_0
        cases e1084
        replace hx1084_0 := pw_cell_below HB.out hx1084_0
        replace hx1084_1 := pw_cell_below HB.out hx1084_1
        replace p1084 := eq_true p1084
        replace q1084 := eq_true q1084
        have p1085 : 0 ≤ (x5_1 : Int) := oda
        have q1085 : x5_1 < (l1.length : Int) := oda
        obtain ⟨ad1085, e1085, hx1085_0, hx1085_1⟩ := at_T69 HR1.out x5_1 p1085 q1085
        have hw1085_1 := hx1085_1
        have hw1085_0 := hx1085_0
        cases e1085
        replace hx1085_0 := pw_cell_below HB.out hx1085_0
        replace hx1085_1 := pw_cell_below HB.out hx1085_1
        replace p1085 := eq_true p1085
        replace q1085 := eq_true q1085
        refine start_ (n := 10) (S := fun w' => w'.cell? (ad1084.add ((x5_1).toNat * 2)) = some (.int .i64 ((rd_T69 l0 x5_1).f0)) ∧ w'.cell? ⟨(ad1084.add ((x5_1).toNat * 2)).block, (ad1084.add ((x5_1).toNat * 2)).off + 1, none⟩ = some (.int .i64 ((rd_T69 l0 x5_1).f1)) ∧ w'.cell? (ad1085.add ((x5_1).toNat * 2)) = some (.int .i64 ((rd_T69 l1 x5_1).f0)) ∧ w'.cell? ⟨(ad1085.add ((x5_1).toNat * 2)).block, (ad1085.add ((x5_1).toNat * 2)).off + 1, none⟩ = some (.int .i64 ((rd_T69 l1 x5_1).f1))) (ds := []) (fb 10 0) (by kernel_rfl) rfl rfl ⟨(pw_cell_below HB.out hw1084_0), (pw_cell_below HB.out hw1084_1), (pw_cell_below HB.out hw1085_0), (pw_cell_below HB.out hw1085_1)⟩ (fun hHeld => ?_); refine with_tabW laws_eqPairS.tab6 laws_eqPairS.bits6 (fun HT_ HW_ => ?_)
        generalize wr.drew = w11 at HB hx1084_0 hx1084_1 hx1085_0 hx1085_1 hHeld ⊢
        refine pu 0 17 (fb 10 1) HT_ ?_
        refine pu 1 18 (fb 10 3) HT_ ?_
        refine pu 2 19 (fb 10 7) HT_ ?_
        refine pu 4 21 (fb 10 23) HT_ ?_
        refine pu 5 22 (fb 10 55) HT_ ?_
        refine pu 6 23 (fb 10 119) HT_ ?_
        refine tk 3 20 (fb 10 127) HT_ HW_ hHeld ?_
        refine tk 7 24 (fb 10 255) HT_ HW_ hHeld ?_
        refine one_ (i := 8) (N := some 25) (fb 10 511) rfl rfl (one_of HT_.out (by kernel_rfl)) (by decide) (fun K hK => ?_)
        refine gs _ (#[.agg #[.int .i64 ((rd_T69 l0 x5_1).f0), .int .i64 ((rd_T69 l0 x5_1).f1)], .agg #[.int .i64 ((rd_T69 l1 x5_1).f0), .int .i64 ((rd_T69 l1 x5_1).f1)]]) Try.func88 ?_
        with_reducible refine (laws_eqPair.calls ((rd_T69 l0 x5_1).f0) ((rd_T69 l0 x5_1).f1) ((rd_T69 l1 x5_1).f0) ((rd_T69 l1 x5_1).f1) false _ A7.out).mono ?_
        rintro e w12 ⟨rfl, hb⟩
        refine ⟨_, rfl, ?_⟩
        refine Ya1 (below_step (be HB.out) hb) ?_
        clear HB
        intro HB
        (try clear hb)
        (try clear hb2)
        (try clear hk)
        (try clear hi)
        refine hK.out _ _ ⟨(pw_cell_below HB.out hw1084_0), (pw_cell_below HB.out hw1084_1), (pw_cell_below HB.out hw1085_0), (pw_cell_below HB.out hw1085_1)⟩ (fun hHeld => ?_)
        clear hK K
        refine norm_ (a' := ?_) ?_ ?_
        rotate_left
        ·show Act.put _ (some 25) _ = _
         simp only [Act.put, List.setIfInBounds_toArray, List.set_cons_zero, List.set_cons_succ, i64_w, i32_w]
         rfl
        refine pu 9 26 (fb 10 1023) HT_ ?_
        refine done_ (done_of HT_.out (by kernel_rfl)) ?_
        try go_wp2
        go_ret
        exact ⟨Ye2, be HB.out⟩
      ·rw [if_neg c6] at H
       exact absurd H (by simp)
     ·rw [if_neg c5] at H
      exact absurd H (by simp)
    ·rw [if_neg c4] at H
     have c4b0 : decide (x5_1 < (l0.length : Int)) = false := decide_eq_false c4
     clear c4
     obtain rfl := Option.some.inj H
     go_wp2
     go_ret
     exact ⟨Ye2, be HB.out⟩
 ·rw [if_neg c3] at H
  have c3b0 : ((l0.length : Int) == (l1.length : Int)) = false := beq_eq_false_iff_ne.mpr c3
  have c3b1 : ((l0.length : Int) != (l1.length : Int)) = true := bne_iff_ne.mpr c3
  have c3b2 : (l0.length == l1.length) = false := by first | simpa using c3 | (simp at c3 ⊢; omega)
  obtain rfl := Option.some.inj H
  go_enter Try.func41, Try.ntmps41
  go_wp2
  go_ret
  exact ⟨Ye2, be HB.out⟩

end Go.Proofs.Ytnndpbkcldkbgaa.P
