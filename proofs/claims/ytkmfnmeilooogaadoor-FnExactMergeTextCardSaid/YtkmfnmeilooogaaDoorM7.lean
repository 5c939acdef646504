/- Several texts of this claim in one file: YtkmfnmeilooogaaDoorPSpecLines, YtkmfnmeilooogaaDoorPSpecL7Text, YtkmfnmeilooogaaDoorPSpecL4Parts, YtkmfnmeilooogaaDoorPStringsSplit, YtkmfnmeilooogaaDoorPSpecL7Three, YtkmfnmeilooogaaDoorPSpecL7With, YtkmfnmeilooogaaDoorPSpecMergeText. -/
import Derived.Test.YtkmfnmeilooogaaDoorM3
import Derived.Test.YtkmfnmeilooogaaDoorM4
import Derived.Lib.SplitLaws
import Derived.Test.YtkmfnmeilooogaaDoorM6
namespace Go.Proofs.YtkmfnmeilooogaaDoor.P
open Go.RowKit Go.Proofs.YtkmfnmeilooogaaDoorW.PrintWords Go.Proofs.YtkmfnmeilooogaaDoorW.PrintLast Go.Proofs.YtkmfnmeilooogaaDoorW.PrintMore
attribute [local go_sem] max2_int min2_int max_two min_two max_three min_three max_four min_four
set_option linter.unusedVariables false
set_option linter.unusedSimpArgs false

/-! ### spec_Lines: function 24 -/
def spec_Lines.l0 : Nat → ByteArray → List ByteArray → Int → Int → Option (List ByteArray)
 | 0, _, _, _, _ => none
 | k + 1, x0, x3, x4, x5 => if x5 < (x0.size : Int) then (if 0 ≤ x5 then (if (bt x0 x5) = 10 then (if 0 ≤ x4 then (if x4 ≤ (wrap64 (x5 + 1)) then (if (wrap64 (x5 + 1)) ≤ (x0.size : Int) then (if x3.length < 8796093022208 then (spec_Lines.l0 k x0 (x3 ++ [x0.extract (x4 : Int).toNat ((wrap64 (x5 + 1)) : Int).toNat]) (wrap64 (x5 + 1)) (wrap64 (x5 + 1))) else (none)) else (none)) else (none)) else (none)) else (spec_Lines.l0 k x0 x3 x4 (wrap64 (x5 + 1)))) else (none)) else (if x4 < (x0.size : Int) then (if 0 ≤ x4 then (if x4 ≤ (x0.size : Int) then (if x3.length < 8796093022208 then (some (x3 ++ [x0.extract (x4 : Int).toNat x0.size])) else (none)) else (none)) else (none)) else (some x3))
def spec_Lines.f (k : Nat) (a0 : ByteArray) : Option (List ByteArray) := (some (([] : List ByteArray) : List ByteArray)).bind fun y101 => (if (a0.size : Int) > 1500 then (some y101) else (spec_Lines.l0 k a0 y101 0 0))
theorem spec_Lines.mono_l : ∀ k, (∀ y0 y1 y2 y3, LeO (spec_Lines.l0 k y0 y1 y2 y3) (spec_Lines.l0 (k + 1) y0 y1 y2 y3))
 | 0 => fun _ _ _ _ r h => by simp [spec_Lines.l0] at h
 | k + 1 => by
  have ih0 := spec_Lines.mono_l k
  ·intro y0 y1 y2 y3
   unfold spec_Lines.l0
   repeat' first
   | (with_reducible exact ih0 _ _ _ _)
   | (with_reducible exact LeO.refl _)
   | (with_reducible exact LeO.none _)
   | (with_reducible refine LeO.ite ?_ ?_)
   | (with_reducible refine LeO.bind ?_ (fun _ => ?_))
   | exact ih0 _ _ _ _
   | exact LeO.none _
   | refine LeO.ite ?_ ?_
   | refine LeO.bind ?_ (fun _ => ?_)
theorem spec_Lines.mono : ∀ a0 k, LeO (spec_Lines.f k a0) (spec_Lines.f (k + 1) a0) := by
 intro a0 k
 have ih0 := spec_Lines.mono_l k
 unfold spec_Lines.f
 repeat' first
   | (with_reducible exact ih0 _ _ _ _)
   | (with_reducible exact LeO.refl _)
   | (with_reducible exact LeO.none _)
   | (with_reducible refine LeO.ite ?_ ?_)
   | (with_reducible refine LeO.bind ?_ (fun _ => ?_))
   | exact ih0 _ _ _ _
   | exact LeO.none _
   | refine LeO.ite ?_ ?_
   | refine LeO.bind ?_ (fun _ => ?_)
set_option maxHeartbeats 8000000 in
set_option maxRecDepth 100000 in
theorem spec_Lines.calls (k : Nat) (a0 : ByteArray) (r : List ByteArray) (w : World) (h : spec_Lines.f k a0 = some r) :
  Calls Tryd.prog 24 #[.string a0] w fun e w' => ∃ v0_ : Value, e = .returned (v0_) ∧ Kd.R Kd.string 9 w' w.heap.size (fun _ => True) v0_ r ∧ Below w.heap.size w w' := by
 have HB := Aside0.mk (Below.refl w.heap.size w)
 have H : ((some (([] : List ByteArray) : List ByteArray)).bind fun y101 => (if (a0.size : Int) > 1500 then (some y101) else (spec_Lines.l0 k a0 y101 0 0))) = some r := h
 clear h
 obtain ⟨y101, hy101⟩ : ∃ y_ : List ByteArray, y_ = (([] : List ByteArray)) := ⟨_, rfl⟩
 replace H : (if (a0.size : Int) > 1500 then (some y101) else (spec_Lines.l0 k a0 y101 0 0)) = some r := by first | (rw [hy101]; with_reducible exact H) | (have H2_ := (Option.bind_some _ _).symm.trans H; rw [hy101]; with_reducible exact H2_) | (have H2_ := (Option.bind_some _ _).symm.trans H; with_reducible exact H2_) | with_reducible exact H | (rw [hy101]; exact H) | exact H
 have Ny101 := Aside0.mk hy101
 clear hy101
 by_cases c2 : (a0.size : Int) > 1500
 ·rw [if_pos c2] at H
  have c2b0 : decide (1500 < (a0.size : Int)) = true := decide_eq_true c2
  have c2b1 : decide (1500 < a0.size) = true := decide_eq_true (by omega)
  clear c2
  obtain rfl := Option.some.inj H
  go_enter Tryd.func24, Tryd.ntmps24
  go_wp2_with (first | ((with_reducible refine gd 6 rfl ?_); refine Kd.R_lit Kd.string _ 9 ?hg (N := 6) ?hd (xs := ([] : List ByteArray)) (inner := []) (ok := fun _ => True) (okp := fun _ => True) ?hr ?hp (fun _ hk => hk) trivial (Below.refl _ _) (Nat.le_refl _) (by simp) ?_; (case hd => rfl); (case hg => rfl); (case hr => first | (go_simp; done) | (go_simp; rfl)); (case hp => exact (Reps.none _ _)); intro v102 w3 ho4 hb hg_ hnew_; clear hg_ hnew_; (first | rw [← Ny101.out] at ho4 | (simp only [Int.reduceToNat] at ho4; rw [← Ny101.out] at ho4)); refine Ya2 (Kd.R_lower ho4 (below_size (be HB.out))) (below_step (be HB.out) hb) ?_; clear HB; intro HO103 HB; clear hb ho4))
  go_ret
  exact ⟨_, Ye2, kr HO103.out, be HB.out⟩
 ·rw [if_neg c2] at H
  have c2b0 : decide (1500 < (a0.size : Int)) = false := decide_eq_false c2
  have c2b1 : decide (1500 < a0.size) = false := decide_eq_false (by omega)
  clear c2
  have H' := Aside0.mk H
  clear H
  go_enter Tryd.func24, Tryd.ntmps24
  go_wp2_with (first | ((with_reducible refine gd 6 rfl ?_); refine Kd.R_lit Kd.string _ 9 ?hg (N := 6) ?hd (xs := ([] : List ByteArray)) (inner := []) (ok := fun _ => True) (okp := fun _ => True) ?hr ?hp (fun _ hk => hk) trivial (Below.refl _ _) (Nat.le_refl _) (by simp) ?_; (case hd => rfl); (case hg => rfl); (case hr => first | (go_simp; done) | (go_simp; rfl)); (case hp => exact (Reps.none _ _)); intro v102 w5 ho6 hb hg_ hnew_; clear hg_ hnew_; (first | rw [← Ny101.out] at ho6 | (simp only [Int.reduceToNat] at ho6; rw [← Ny101.out] at ho6)); refine Ya2 (Kd.R_lower ho6 (below_size (be HB.out))) (below_step (be HB.out) hb) ?_; clear HB; intro HO103 HB; clear hb ho6))
  go_loopg [3, 4, 5] k (fun kq v3 v4 v5 w' => ∃ (x3_1 : List ByteArray) (x4_1 : Int) (x5_1 : Int), v4 = .int .i64 x4_1 ∧ v5 = .int .i64 x5_1 ∧ Aside0 (spec_Lines.l0 kq a0 x3_1 x4_1 x5_1 = some r) ∧ Aside0 (kq ≤ k) ∧ Aside0 (Kd.R Kd.string 9 w' w.heap.size (fun _ => True) v3 x3_1) ∧ Aside0 (Below w.heap.size w w'))
  case atStart => exact ⟨(y101), (0), (0), Ye1, Ye1, H', ⟨Nat.le_refl _⟩, ⟨kr HO103.out⟩, ⟨be HB.out⟩⟩
  case round =>
   clear H'
   try clear c2
   try clear c2b0
   try clear c2b1
   try clear p2
   obtain ⟨x3_1, x4_1, x5_1, rfl, rfl, HA, HK1, HO_3, HB⟩ := hrel
   cases gk with
   | zero => exact absurd HA.out (by simp [spec_Lines.l0])
   | succ k1 =>
    have H := HA.out
    clear HA
    simp only [spec_Lines.l0] at H
    by_cases c7 : x5_1 < (a0.size : Int)
    ·rw [if_pos c7] at H
     have c7b0 : decide (x5_1 < (a0.size : Int)) = true := decide_eq_true c7
     clear c7
     by_cases c8 : 0 ≤ x5_1
     ·rw [if_pos c8] at H
      have c8b0 : decide (0 ≤ x5_1) = true := decide_eq_true c8
      clear c8
      by_cases c10 : (bt a0 x5_1) = 10
      ·rw [if_pos c10] at H
       have c10b0 : ((bt a0 x5_1) == 10) = true := beq_iff_eq.mpr c10
       have c10b1 : ((bt a0 x5_1) != 10) = false := bne_eq_false_iff_eq.mpr c10
       clear c10
       by_cases c11 : 0 ≤ x4_1
       ·rw [if_pos c11] at H
        have c11b0 := eq_true c11
        have c11b1 : decide (0 ≤ x4_1) = true := decide_eq_true c11
        clear c11
        by_cases c12 : x4_1 ≤ (wrap64 (x5_1 + 1))
        ·rw [if_pos c12] at H
         have c12b0 := eq_true c12
         have c12b1 : decide (x4_1 ≤ (wrap64 (x5_1 + 1))) = true := decide_eq_true c12
         by_cases c13 : (wrap64 (x5_1 + 1)) ≤ (a0.size : Int)
         ·rw [if_pos c13] at H
          have c13b0 := eq_true c13
          have c13b1 : decide ((wrap64 (x5_1 + 1)) ≤ (a0.size : Int)) = true := decide_eq_true c13
          by_cases c14 : x3_1.length < 8796093022208
          ·rw [if_pos c14] at H
           have LMc14 := Aside0.mk c14
           clear c14
           obtain ⟨y104, hy104⟩ : ∃ y_ : List ByteArray, y_ = (x3_1 ++ [a0.extract (x4_1 : Int).toNat ((wrap64 (x5_1 + 1)) : Int).toNat]) := ⟨_, rfl⟩
           replace H : (spec_Lines.l0 k1 a0 y104 (wrap64 (x5_1 + 1)) (wrap64 (x5_1 + 1))) = some r := by first | (rw [hy104]; with_reducible exact H) | (have H2_ := (Option.bind_some _ _).symm.trans H; rw [hy104]; with_reducible exact H2_) | (have H2_ := (Option.bind_some _ _).symm.trans H; with_reducible exact H2_) | with_reducible exact H | (rw [hy104]; exact H) | exact H
           have Ny104 := Aside0.mk hy104
           clear hy104
           have H' := Aside0.mk H
           clear H
           have p9 : 0 ≤ (x5_1 : Int) := oda
           have q9 : x5_1 < (a0.size : Int) := oda
           have hx9 := bt_at a0 x5_1
           replace p9 := eq_true p9
           replace q9 := eq_true q9
           go_wp2_with (first | ((with_reducible refine gate_builtin (b := .append) (xs := #[.tmp 21, .tmp 27]) rfl ?_); at_builtin; refine Kd.R_append Kd.string (w0 := w) w.heap.size rfl (.tmp 21) (.tmp 27) 29 9 (.string ⟨#[]⟩) 16 rfl Tryd.underlying29 info9 rfl (by decide) (by omega) u3 x3_1 (a0.extract (x4_1 : Int).toNat ((wrap64 (x5_1 + 1)) : Int).toNat) [.string (a0.extract (x4_1 : Int).toNat ((wrap64 (x5_1 + 1)) : Int).toNat)] (fun _ => True) (fun _ => False) rfl rfl ?aP (fun _ hk => hk.elim) ?aF ?aO ?aB ?aS ?aL ?_; (case aP => exact rfl); (case aB => exact (be HB.out)); (case aF => exact (fun _ _ => trivial)); (case aO => exact (kr HO_3.out)); (case aS => exact (below_size (be HB.out))); (case aL => have := LMc14.out; omega); intro v105 w15 ho hb hg hat; rw [← Ny104.out] at ho; refine Ya2 (hb) (ho) ?_; clear HB HO_3; intro HB HO106; clear ho hb hg hat))
           go_roundg k1
           case measure => have := HK1.out; omega
           case rel => exact ⟨(y104), (wrap64 (x5_1 + 1)), (wrap64 (x5_1 + 1)), Ye1, Ye1, H', ⟨by have := HK1.out; omega⟩, ⟨kr HO106.out⟩, ⟨be HB.out⟩⟩
          ·rw [if_neg c14] at H
           exact absurd H (by simp)
         ·rw [if_neg c13] at H
          exact absurd H (by simp)
        ·rw [if_neg c12] at H
         exact absurd H (by simp)
       ·rw [if_neg c11] at H
        exact absurd H (by simp)
      ·rw [if_neg c10] at H
       have c10b0 : ((bt a0 x5_1) == 10) = false := beq_eq_false_iff_ne.mpr c10
       have c10b1 : ((bt a0 x5_1) != 10) = true := bne_iff_ne.mpr c10
       have H' := Aside0.mk H
       clear H
       have p9 : 0 ≤ (x5_1 : Int) := oda
       have q9 : x5_1 < (a0.size : Int) := oda
       have hx9 := bt_at a0 x5_1
       replace p9 := eq_true p9
       replace q9 := eq_true q9
       go_wp2
       go_roundg k1
       case measure => have := HK1.out; omega
       case rel => exact ⟨(x3_1), (x4_1), (wrap64 (x5_1 + 1)), Ye1, Ye1, H', ⟨by have := HK1.out; omega⟩, ⟨kr HO_3.out⟩, ⟨be HB.out⟩⟩
     ·rw [if_neg c8] at H
      exact absurd H (by simp)
    ·rw [if_neg c7] at H
     have c7b0 : decide (x5_1 < (a0.size : Int)) = false := decide_eq_false c7
     clear c7
     by_cases c16 : x4_1 < (a0.size : Int)
     ·rw [if_pos c16] at H
      have c16b0 : decide (x4_1 < (a0.size : Int)) = true := decide_eq_true c16
      clear c16
      by_cases c17 : 0 ≤ x4_1
      ·rw [if_pos c17] at H
       have c17b0 := eq_true c17
       have c17b1 : decide (0 ≤ x4_1) = true := decide_eq_true c17
       clear c17
       by_cases c18 : x4_1 ≤ (a0.size : Int)
       ·rw [if_pos c18] at H
        have c18b0 := eq_true c18
        have c18b1 : decide (x4_1 ≤ (a0.size : Int)) = true := decide_eq_true c18
        clear c18
        by_cases c19 : x3_1.length < 8796093022208
        ·rw [if_pos c19] at H
         have LMc19 := Aside0.mk c19
         clear c19
         obtain ⟨y107, hy107⟩ : ∃ y_ : List ByteArray, y_ = (x3_1 ++ [a0.extract (x4_1 : Int).toNat a0.size]) := ⟨_, rfl⟩
         replace H : (some y107) = some r := by first | (rw [hy107]; with_reducible exact H) | (have H2_ := (Option.bind_some _ _).symm.trans H; rw [hy107]; with_reducible exact H2_) | (have H2_ := (Option.bind_some _ _).symm.trans H; with_reducible exact H2_) | with_reducible exact H | (rw [hy107]; exact H) | exact H
         have Ny107 := Aside0.mk hy107
         clear hy107
         obtain rfl := Option.some.inj H
         go_wp2_with (first | ((with_reducible refine gate_builtin (b := .append) (xs := #[.tmp 35, .tmp 39]) rfl ?_); at_builtin; refine Kd.R_append Kd.string (w0 := w) w.heap.size rfl (.tmp 35) (.tmp 39) 29 9 (.string ⟨#[]⟩) 16 rfl Tryd.underlying29 info9 rfl (by decide) (by omega) u3 x3_1 (a0.extract (x4_1 : Int).toNat a0.size) [.string (a0.extract (x4_1 : Int).toNat a0.size)] (fun _ => True) (fun _ => False) rfl rfl ?aP (fun _ hk => hk.elim) ?aF ?aO ?aB ?aS ?aL ?_; (case aP => exact rfl); (case aB => exact (be HB.out)); (case aF => exact (fun _ _ => trivial)); (case aO => exact (kr HO_3.out)); (case aS => exact (below_size (be HB.out))); (case aL => have := LMc19.out; omega); intro v108 w20 ho hb hg hat; rw [← Ny107.out] at ho; refine Ya2 (hb) (ho) ?_; clear HB HO_3; intro HB HO109; clear ho hb hg hat))
         go_ret
         exact ⟨_, Ye2, kr HO109.out, be HB.out⟩
        ·rw [if_neg c19] at H
         exact absurd H (by simp)
       ·rw [if_neg c18] at H
        exact absurd H (by simp)
      ·rw [if_neg c17] at H
       exact absurd H (by simp)
     ·rw [if_neg c16] at H
      have c16b0 : decide (x4_1 < (a0.size : Int)) = false := decide_eq_false c16
      clear c16
      obtain rfl := Option.some.inj H
      go_wp2
      go_ret
      exact ⟨_, Ye2, kr HO_3.out, be HB.out⟩

end Go.Proofs.YtkmfnmeilooogaaDoor.P


namespace Go.Proofs.YtkmfnmeilooogaaDoor.P
open Go.RowKit Go.Proofs.YtkmfnmeilooogaaDoorW.PrintWords Go.Proofs.YtkmfnmeilooogaaDoorW.PrintLast Go.Proofs.YtkmfnmeilooogaaDoorW.PrintMore
attribute [local go_sem] max2_int min2_int max_two min_two max_three min_three max_four min_four
set_option linter.unusedVariables false
set_option linter.unusedSimpArgs false

/-! ### spec_l7Text: function 63 -/
def spec_l7Text.l0 : Nat → List ByteArray → List Int → Int → Option (ByteArray)
 | 0, _, _, _ => none
 | k + 1, x0, x3, x4 => if x4 < (x0.length : Int) then (if 0 ≤ x4 then (if x3.length + (rdOf ByteArray.empty x0 x4).size < 140737488355328 then (spec_l7Text.l0 k x0 (x3 ++ bytesOf (rdOf ByteArray.empty x0 x4)) (wrap64 (x4 + 1))) else (none)) else (none)) else (some (strOfNums x3))
def spec_l7Text.f (k : Nat) (l0 : List ByteArray) : Option (ByteArray) := spec_l7Text.l0 k l0 (([] : List Int)) 0
theorem spec_l7Text.mono_l : ∀ k, (∀ y0 y1 y2, LeO (spec_l7Text.l0 k y0 y1 y2) (spec_l7Text.l0 (k + 1) y0 y1 y2))
 | 0 => fun _ _ _ r h => by simp [spec_l7Text.l0] at h
 | k + 1 => by
  have ih0 := spec_l7Text.mono_l k
  ·intro y0 y1 y2
   unfold spec_l7Text.l0
   repeat' first
   | (with_reducible exact ih0 _ _ _)
   | (with_reducible exact LeO.refl _)
   | (with_reducible exact LeO.none _)
   | (with_reducible refine LeO.ite ?_ ?_)
   | (with_reducible refine LeO.bind ?_ (fun _ => ?_))
   | exact ih0 _ _ _
   | exact LeO.none _
   | refine LeO.ite ?_ ?_
   | refine LeO.bind ?_ (fun _ => ?_)
theorem spec_l7Text.mono : ∀ a0 k, LeO (spec_l7Text.f k a0) (spec_l7Text.f (k + 1) a0) := by
 intro a0 k
 have ih0 := spec_l7Text.mono_l k
 unfold spec_l7Text.f
 repeat' first
   | (with_reducible exact ih0 _ _ _)
   | (with_reducible exact LeO.refl _)
   | (with_reducible exact LeO.none _)
   | (with_reducible refine LeO.ite ?_ ?_)
   | (with_reducible refine LeO.bind ?_ (fun _ => ?_))
   | exact ih0 _ _ _
   | exact LeO.none _
   | refine LeO.ite ?_ ?_
   | refine LeO.bind ?_ (fun _ => ?_)
set_option maxHeartbeats 8000000 in
set_option maxRecDepth 100000 in
theorem spec_l7Text.calls (k : Nat) (A0 : Option Addr) (c0 : Nat) (l0 : List ByteArray) (r : ByteArray) (w : World) (hr0 : Kd.C Kd.string w A0 l0.length l0) (hc0 : l0.length ≤ c0) (h : spec_l7Text.f k l0 = some r) :
  Calls Tryd.prog 63 #[.slice A0 l0.length c0] w fun e w' => e = .returned (.string r) ∧ Below w.heap.size w w' := by
 have HR0 := Aside0.mk hr0
 have HC0 := Aside0.mk hc0
 clear hr0 hc0
 have HB := Aside0.mk (Below.refl w.heap.size w)
 have H : (spec_l7Text.l0 k l0 (([] : List Int)) 0) = some r := h
 clear h
 obtain ⟨y192, hy192⟩ : ∃ y_ : List Int, y_ = (([] : List Int)) := ⟨_, rfl⟩
 replace H : (spec_l7Text.l0 k l0 y192 0) = some r := by first | (rw [hy192]; with_reducible exact H) | (have H2_ := (Option.bind_some _ _).symm.trans H; rw [hy192]; with_reducible exact H2_) | (have H2_ := (Option.bind_some _ _).symm.trans H; with_reducible exact H2_) | with_reducible exact H | (rw [hy192]; exact H) | exact H
 have Ny192 := Aside0.mk hy192
 clear hy192
 have H' := Aside0.mk H
 clear H
 go_enter Tryd.func63, Tryd.ntmps63
 go_wp2_with (first | ((with_reducible refine gd 5 rfl ?_); refine Kd.R_lit (Kd.int .u8) _ 5 ?hg (N := 5) ?hd (xs := ([] : List Int)) (inner := []) (ok := fun _ => True) (okp := fun _ => True) ?hr ?hp (fun _ hk => hk) trivial (Below.refl _ _) (Nat.le_refl _) (by simp) ?_; (case hd => rfl); (case hg => rfl); (case hr => first | (go_simp; done) | (go_simp; rfl)); (case hp => exact (Reps.none _ _)); intro v193 w2 ho3 hb hg_ hnew_; clear hg_ hnew_; (first | rw [← Ny192.out] at ho3 | (simp only [Int.reduceToNat] at ho3; rw [← Ny192.out] at ho3)); refine Ya2 (Kd.R_lower ho3 (below_size (be HB.out))) (below_step (be HB.out) hb) ?_; clear HB; intro HO194 HB; clear hb ho3))
 go_loopg [3, 4] k (fun kq v3 v4 w' => ∃ (x3_1 : List Int) (x4_1 : Int), v4 = .int .i64 x4_1 ∧ Aside0 (spec_l7Text.l0 kq l0 x3_1 x4_1 = some r) ∧ Aside0 (kq ≤ k) ∧ Aside0 (Kd.R (Kd.int .u8) 5 w' w.heap.size (fun _ => True) v3 x3_1) ∧ Aside0 (Below w.heap.size w w'))
 case atStart => exact ⟨(y192), (0), Ye1, H', ⟨Nat.le_refl _⟩, ⟨kr HO194.out⟩, ⟨be HB.out⟩⟩
 case round =>
  clear H'
  try clear p2
  obtain ⟨x3_1, x4_1, rfl, HA, HK1, HO_3, HB⟩ := hrel
  cases gk with
  | zero => exact absurd HA.out (by simp [spec_l7Text.l0])
  | succ k1 =>
   have H := HA.out
   clear HA
   simp only [spec_l7Text.l0] at H
   by_cases c4 : x4_1 < (l0.length : Int)
   ·rw [if_pos c4] at H
    have c4b0 : decide (x4_1 < (l0.length : Int)) = true := decide_eq_true c4
    clear c4
    by_cases c5 : 0 ≤ x4_1
    ·rw [if_pos c5] at H
     have c5b0 : decide (0 ≤ x4_1) = true := decide_eq_true c5
     clear c5
     by_cases c6 : x3_1.length + (rdOf ByteArray.empty l0 x4_1).size < 140737488355328
     ·rw [if_pos c6] at H
      have LMc6 := Aside0.mk c6
      clear c6
      obtain ⟨y196, hy196⟩ : ∃ y_ : List Int, y_ = (x3_1 ++ bytesOf (rdOf ByteArray.empty l0 x4_1)) := ⟨_, rfl⟩
      replace H : (spec_l7Text.l0 k1 l0 y196 (wrap64 (x4_1 + 1))) = some r := by first | (rw [hy196]; with_reducible exact H) | (have H2_ := (Option.bind_some _ _).symm.trans H; rw [hy196]; with_reducible exact H2_) | (have H2_ := (Option.bind_some _ _).symm.trans H; with_reducible exact H2_) | with_reducible exact H | (rw [hy196]; exact H) | exact H
      have Ny196 := Aside0.mk hy196
      clear hy196
      have H' := Aside0.mk H
      clear H
      have p195 : 0 ≤ (x4_1 : Int) := oda
      have q195 : x4_1 < (l0.length : Int) := oda
      obtain ⟨ad195, e195, hx195_0⟩ := Kd.at_string (Kd.C_below HR0.out HB.out) x4_1 p195 q195
      cases e195
      replace p195 := eq_true p195
      replace q195 := eq_true q195
      go_wp2_with (first | (at_builtin; refine print_append_str (w0 := w) w.heap.size rfl (.tmp 12) _ 25 9 5 rfl Tryd.underlying25 Tryd.underlying9 info5 u3 x3_1 (rdOf ByteArray.empty l0 x4_1) rfl rfl ?aO ?aB ?aS ?aL ?_; (case aB => exact (be HB.out)); (case aO => exact (Kd.own_of_R (kr HO_3.out))); (case aS => exact (below_size (be HB.out))); (case aL => have := LMc6.out; omega); intro v197 w7 ho0 hb hg; have ho := Kd.R_of_own (h1 := fun _ => rfl) (ok := fun _ => True) ho0 (fun _ _ => trivial); clear ho0; have hat := True.intro; rw [← Ny196.out] at ho; change Kd.R (Kd.int .u8) 5 w7 w.heap.size (fun _ => True) v197 y196 at ho; refine Ya2 (hb) (ho) ?_; clear HB HO_3; intro HB HO198; clear ho hb hg hat))
      go_roundg k1
      case measure => have := HK1.out; omega
      case rel => exact ⟨(y196), (wrap64 (x4_1 + 1)), Ye1, H', ⟨by have := HK1.out; omega⟩, ⟨kr HO198.out⟩, ⟨be HB.out⟩⟩
     ·rw [if_neg c6] at H
      exact absurd H (by simp)
    ·rw [if_neg c5] at H
     exact absurd H (by simp)
   ·rw [if_neg c4] at H
    have c4b0 : decide (x4_1 < (l0.length : Int)) = false := decide_eq_false c4
    clear c4
    obtain rfl := Option.some.inj H
    have hcv8 := own_string (P := Tryd.prog) Tryd.underlying25 Tryd.underlying5 Tryd.underlying9 (Kd.own_of_R HO_3.out)
    go_wp2
    go_ret
    exact ⟨Ye2, be HB.out⟩

end Go.Proofs.YtkmfnmeilooogaaDoor.P


namespace Go.Proofs.YtkmfnmeilooogaaDoor.P
open Go.RowKit Go.Proofs.YtkmfnmeilooogaaDoorW.PrintWords Go.Proofs.YtkmfnmeilooogaaDoorW.PrintLast Go.Proofs.YtkmfnmeilooogaaDoorW.PrintMore
attribute [local go_sem] max2_int min2_int max_two min_two max_three min_three max_four min_four
set_option linter.unusedVariables false
set_option linter.unusedSimpArgs false

/-! ### spec_l4Parts: function 42 -/
def spec_l4Parts.l0 : Nat → ByteArray → List ByteArray → Int → Int → Option (List ByteArray)
 | 0, _, _, _, _ => none
 | k + 1, x0, x3, x4, x5 => if x5 < (x0.size : Int) then (if 0 ≤ x5 then (if (bt x0 x5) = 47 then (if 0 ≤ x4 then (if x4 ≤ x5 then (if x5 ≤ (x0.size : Int) then (if x3.length < 8796093022208 then (spec_l4Parts.l0 k x0 (x3 ++ [x0.extract (x4 : Int).toNat (x5 : Int).toNat]) (wrap64 (x5 + 1)) (wrap64 (x5 + 1))) else (none)) else (none)) else (none)) else (none)) else (spec_l4Parts.l0 k x0 x3 x4 (wrap64 (x5 + 1)))) else (none)) else (if 0 ≤ x4 then (if x4 ≤ (x0.size : Int) then (if x3.length < 8796093022208 then (some (x3 ++ [x0.extract (x4 : Int).toNat x0.size])) else (none)) else (none)) else (none))
def spec_l4Parts.f (k : Nat) (a0 : ByteArray) : Option (List ByteArray) := spec_l4Parts.l0 k a0 (([] : List ByteArray)) 0 0
theorem spec_l4Parts.mono_l : ∀ k, (∀ y0 y1 y2 y3, LeO (spec_l4Parts.l0 k y0 y1 y2 y3) (spec_l4Parts.l0 (k + 1) y0 y1 y2 y3))
 | 0 => fun _ _ _ _ r h => by simp [spec_l4Parts.l0] at h
 | k + 1 => by
  have ih0 := spec_l4Parts.mono_l k
  ·intro y0 y1 y2 y3
   unfold spec_l4Parts.l0
   repeat' first
   | (with_reducible exact ih0 _ _ _ _)
   | (with_reducible exact LeO.refl _)
   | (with_reducible exact LeO.none _)
   | (with_reducible refine LeO.ite ?_ ?_)
   | (with_reducible refine LeO.bind ?_ (fun _ => ?_))
   | exact ih0 _ _ _ _
   | exact LeO.none _
   | refine LeO.ite ?_ ?_
   | refine LeO.bind ?_ (fun _ => ?_)
theorem spec_l4Parts.mono : ∀ a0 k, LeO (spec_l4Parts.f k a0) (spec_l4Parts.f (k + 1) a0) := by
 intro a0 k
 have ih0 := spec_l4Parts.mono_l k
 unfold spec_l4Parts.f
 repeat' first
   | (with_reducible exact ih0 _ _ _ _)
   | (with_reducible exact LeO.refl _)
   | (with_reducible exact LeO.none _)
   | (with_reducible refine LeO.ite ?_ ?_)
   | (with_reducible refine LeO.bind ?_ (fun _ => ?_))
   | exact ih0 _ _ _ _
   | exact LeO.none _
   | refine LeO.ite ?_ ?_
   | refine LeO.bind ?_ (fun _ => ?_)
set_option maxHeartbeats 8000000 in
set_option maxRecDepth 100000 in
theorem spec_l4Parts.calls (k : Nat) (a0 : ByteArray) (r : List ByteArray) (w : World) (h : spec_l4Parts.f k a0 = some r) :
  Calls Tryd.prog 42 #[.string a0] w fun e w' => ∃ v0_ : Value, e = .returned (v0_) ∧ Kd.R Kd.string 9 w' w.heap.size (fun _ => True) v0_ r ∧ Below w.heap.size w w' := by
 have HB := Aside0.mk (Below.refl w.heap.size w)
 have H : (spec_l4Parts.l0 k a0 (([] : List ByteArray)) 0 0) = some r := h
 clear h
 obtain ⟨y320, hy320⟩ : ∃ y_ : List ByteArray, y_ = (([] : List ByteArray)) := ⟨_, rfl⟩
 replace H : (spec_l4Parts.l0 k a0 y320 0 0) = some r := by first | (rw [hy320]; with_reducible exact H) | (have H2_ := (Option.bind_some _ _).symm.trans H; rw [hy320]; with_reducible exact H2_) | (have H2_ := (Option.bind_some _ _).symm.trans H; with_reducible exact H2_) | with_reducible exact H | (rw [hy320]; exact H) | exact H
 have Ny320 := Aside0.mk hy320
 clear hy320
 have H' := Aside0.mk H
 clear H
 go_enter Tryd.func42, Tryd.ntmps42
 go_wp2_with (first | ((with_reducible refine gd 6 rfl ?_); refine Kd.R_lit Kd.string _ 9 ?hg (N := 6) ?hd (xs := ([] : List ByteArray)) (inner := []) (ok := fun _ => True) (okp := fun _ => True) ?hr ?hp (fun _ hk => hk) trivial (Below.refl _ _) (Nat.le_refl _) (by simp) ?_; (case hd => rfl); (case hg => rfl); (case hr => first | (go_simp; done) | (go_simp; rfl)); (case hp => exact (Reps.none _ _)); intro v321 w2 ho3 hb hg_ hnew_; clear hg_ hnew_; (first | rw [← Ny320.out] at ho3 | (simp only [Int.reduceToNat] at ho3; rw [← Ny320.out] at ho3)); refine Ya2 (Kd.R_lower ho3 (below_size (be HB.out))) (below_step (be HB.out) hb) ?_; clear HB; intro HO322 HB; clear hb ho3))
 go_loopg [3, 4, 5] k (fun kq v3 v4 v5 w' => ∃ (x3_1 : List ByteArray) (x4_1 : Int) (x5_1 : Int), v4 = .int .i64 x4_1 ∧ v5 = .int .i64 x5_1 ∧ Aside0 (spec_l4Parts.l0 kq a0 x3_1 x4_1 x5_1 = some r) ∧ Aside0 (kq ≤ k) ∧ Aside0 (Kd.R Kd.string 9 w' w.heap.size (fun _ => True) v3 x3_1) ∧ Aside0 (Below w.heap.size w w'))
 case atStart => exact ⟨(y320), (0), (0), Ye1, Ye1, H', ⟨Nat.le_refl _⟩, ⟨kr HO322.out⟩, ⟨be HB.out⟩⟩
 case round =>
  clear H'
  try clear p2
  obtain ⟨x3_1, x4_1, x5_1, rfl, rfl, HA, HK1, HO_3, HB⟩ := hrel
  cases gk with
  | zero => exact absurd HA.out (by simp [spec_l4Parts.l0])
  | succ k1 =>
   have H := HA.out
   clear HA
   simp only [spec_l4Parts.l0] at H
   by_cases c4 : x5_1 < (a0.size : Int)
   ·rw [if_pos c4] at H
    have c4b0 : decide (x5_1 < (a0.size : Int)) = true := decide_eq_true c4
    clear c4
    by_cases c5 : 0 ≤ x5_1
    ·rw [if_pos c5] at H
     have c5b0 : decide (0 ≤ x5_1) = true := decide_eq_true c5
     clear c5
     by_cases c7 : (bt a0 x5_1) = 47
     ·rw [if_pos c7] at H
      have c7b0 : ((bt a0 x5_1) == 47) = true := beq_iff_eq.mpr c7
      have c7b1 : ((bt a0 x5_1) != 47) = false := bne_eq_false_iff_eq.mpr c7
      clear c7
      by_cases c8 : 0 ≤ x4_1
      ·rw [if_pos c8] at H
       have c8b0 := eq_true c8
       have c8b1 : decide (0 ≤ x4_1) = true := decide_eq_true c8
       clear c8
       by_cases c9 : x4_1 ≤ x5_1
       ·rw [if_pos c9] at H
        have c9b0 := eq_true c9
        have c9b1 : decide (x4_1 ≤ x5_1) = true := decide_eq_true c9
        clear c9
        by_cases c10 : x5_1 ≤ (a0.size : Int)
        ·rw [if_pos c10] at H
         have c10b0 := eq_true c10
         have c10b1 : decide (x5_1 ≤ (a0.size : Int)) = true := decide_eq_true c10
         clear c10
         by_cases c11 : x3_1.length < 8796093022208
         ·rw [if_pos c11] at H
          have LMc11 := Aside0.mk c11
          clear c11
          obtain ⟨y323, hy323⟩ : ∃ y_ : List ByteArray, y_ = (x3_1 ++ [a0.extract (x4_1 : Int).toNat (x5_1 : Int).toNat]) := ⟨_, rfl⟩
          replace H : (spec_l4Parts.l0 k1 a0 y323 (wrap64 (x5_1 + 1)) (wrap64 (x5_1 + 1))) = some r := by first | (rw [hy323]; with_reducible exact H) | (have H2_ := (Option.bind_some _ _).symm.trans H; rw [hy323]; with_reducible exact H2_) | (have H2_ := (Option.bind_some _ _).symm.trans H; with_reducible exact H2_) | with_reducible exact H | (rw [hy323]; exact H) | exact H
          have Ny323 := Aside0.mk hy323
          clear hy323
          have H' := Aside0.mk H
          clear H
          have p6 : 0 ≤ (x5_1 : Int) := oda
          have q6 : x5_1 < (a0.size : Int) := oda
          have hx6 := bt_at a0 x5_1
          replace p6 := eq_true p6
          replace q6 := eq_true q6
          go_wp2_with (first | ((with_reducible refine gate_builtin (b := .append) (xs := #[.tmp 17, .tmp 22]) rfl ?_); at_builtin; refine Kd.R_append Kd.string (w0 := w) w.heap.size rfl (.tmp 17) (.tmp 22) 29 9 (.string ⟨#[]⟩) 16 rfl Tryd.underlying29 info9 rfl (by decide) (by omega) u3 x3_1 (a0.extract (x4_1 : Int).toNat (x5_1 : Int).toNat) [.string (a0.extract (x4_1 : Int).toNat (x5_1 : Int).toNat)] (fun _ => True) (fun _ => False) rfl rfl ?aP (fun _ hk => hk.elim) ?aF ?aO ?aB ?aS ?aL ?_; (case aP => exact rfl); (case aB => exact (be HB.out)); (case aF => exact (fun _ _ => trivial)); (case aO => exact (kr HO_3.out)); (case aS => exact (below_size (be HB.out))); (case aL => have := LMc11.out; omega); intro v324 w12 ho hb hg hat; rw [← Ny323.out] at ho; refine Ya2 (hb) (ho) ?_; clear HB HO_3; intro HB HO325; clear ho hb hg hat))
          go_roundg k1
          case measure => have := HK1.out; omega
          case rel => exact ⟨(y323), (wrap64 (x5_1 + 1)), (wrap64 (x5_1 + 1)), Ye1, Ye1, H', ⟨by have := HK1.out; omega⟩, ⟨kr HO325.out⟩, ⟨be HB.out⟩⟩
         ·rw [if_neg c11] at H
          exact absurd H (by simp)
        ·rw [if_neg c10] at H
         exact absurd H (by simp)
       ·rw [if_neg c9] at H
        exact absurd H (by simp)
      ·rw [if_neg c8] at H
       exact absurd H (by simp)
     ·rw [if_neg c7] at H
      have c7b0 : ((bt a0 x5_1) == 47) = false := beq_eq_false_iff_ne.mpr c7
      have c7b1 : ((bt a0 x5_1) != 47) = true := bne_iff_ne.mpr c7
      have H' := Aside0.mk H
      clear H
      have p6 : 0 ≤ (x5_1 : Int) := oda
      have q6 : x5_1 < (a0.size : Int) := oda
      have hx6 := bt_at a0 x5_1
      replace p6 := eq_true p6
      replace q6 := eq_true q6
      go_wp2
      go_roundg k1
      case measure => have := HK1.out; omega
      case rel => exact ⟨(x3_1), (x4_1), (wrap64 (x5_1 + 1)), Ye1, Ye1, H', ⟨by have := HK1.out; omega⟩, ⟨kr HO_3.out⟩, ⟨be HB.out⟩⟩
    ·rw [if_neg c5] at H
     exact absurd H (by simp)
   ·rw [if_neg c4] at H
    have c4b0 : decide (x5_1 < (a0.size : Int)) = false := decide_eq_false c4
    clear c4
    by_cases c13 : 0 ≤ x4_1
    ·rw [if_pos c13] at H
     have c13b0 := eq_true c13
     have c13b1 : decide (0 ≤ x4_1) = true := decide_eq_true c13
     clear c13
     by_cases c14 : x4_1 ≤ (a0.size : Int)
     ·rw [if_pos c14] at H
      have c14b0 := eq_true c14
      have c14b1 : decide (x4_1 ≤ (a0.size : Int)) = true := decide_eq_true c14
      clear c14
      by_cases c15 : x3_1.length < 8796093022208
      ·rw [if_pos c15] at H
       have LMc15 := Aside0.mk c15
       clear c15
       obtain ⟨y326, hy326⟩ : ∃ y_ : List ByteArray, y_ = (x3_1 ++ [a0.extract (x4_1 : Int).toNat a0.size]) := ⟨_, rfl⟩
       replace H : (some y326) = some r := by first | (rw [hy326]; with_reducible exact H) | (have H2_ := (Option.bind_some _ _).symm.trans H; rw [hy326]; with_reducible exact H2_) | (have H2_ := (Option.bind_some _ _).symm.trans H; with_reducible exact H2_) | with_reducible exact H | (rw [hy326]; exact H) | exact H
       have Ny326 := Aside0.mk hy326
       clear hy326
       obtain rfl := Option.some.inj H
       go_wp2_with (first | ((with_reducible refine gate_builtin (b := .append) (xs := #[.tmp 26, .tmp 30]) rfl ?_); at_builtin; refine Kd.R_append Kd.string (w0 := w) w.heap.size rfl (.tmp 26) (.tmp 30) 29 9 (.string ⟨#[]⟩) 16 rfl Tryd.underlying29 info9 rfl (by decide) (by omega) u3 x3_1 (a0.extract (x4_1 : Int).toNat a0.size) [.string (a0.extract (x4_1 : Int).toNat a0.size)] (fun _ => True) (fun _ => False) rfl rfl ?aP (fun _ hk => hk.elim) ?aF ?aO ?aB ?aS ?aL ?_; (case aP => exact rfl); (case aB => exact (be HB.out)); (case aF => exact (fun _ _ => trivial)); (case aO => exact (kr HO_3.out)); (case aS => exact (below_size (be HB.out))); (case aL => have := LMc15.out; omega); intro v327 w16 ho hb hg hat; rw [← Ny326.out] at ho; refine Ya2 (hb) (ho) ?_; clear HB HO_3; intro HB HO328; clear ho hb hg hat))
       go_ret
       exact ⟨_, Ye2, kr HO328.out, be HB.out⟩
      ·rw [if_neg c15] at H
       exact absurd H (by simp)
     ·rw [if_neg c14] at H
      exact absurd H (by simp)
    ·rw [if_neg c13] at H
     exact absurd H (by simp)

end Go.Proofs.YtkmfnmeilooogaaDoor.P


namespace Go.Proofs.YtkmfnmeilooogaaDoor.P
open Go.RowKit Go.Proofs.YtkmfnmeilooogaaDoorW.PrintWords Go.Proofs.YtkmfnmeilooogaaDoorW.PrintLast Go.Proofs.YtkmfnmeilooogaaDoorW.PrintMore
attribute [local go_sem] max2_int min2_int max_two min_two max_three min_three max_four min_four
set_option linter.unusedVariables false
set_option linter.unusedSimpArgs false

/-! ### strings_Split: function 50 -/
def strings_Split.f (a0 a1 : ByteArray) : Option (List ByteArray) := if a0.size < 4294967281 then (if 1 ≤ a1.size then some (Go.Lib.splitB a1 0 (Go.Lib.countB a0 a1) a0) else none) else none
theorem strings_Split.calls (a0 a1 : ByteArray) (r : List ByteArray) (w : World) (hg : GOK w) (h : strings_Split.f a0 a1 = some r) :
  Calls Tryd.prog 50 #[.string a0, .string a1] w fun e w' => ∃ v0_ : Value, e = .returned (v0_) ∧ Kd.R Kd.string 9 w' w.heap.size (fun _ => True) v0_ r ∧ Below w.heap.size w w' := by
 unfold strings_Split.f at h
 split at h
 ·rename_i hs
  split at h
  ·rename_i h1
   obtain rfl := Option.some.inj h
   obtain ⟨m, hm⟩ := hg
   have hle := Go.Lib.countB_le a1 h1 a0.size a0 (Nat.le_refl _)
   have hlen := Go.Lib.splitB_all a1 h1 0 (Go.Lib.countB a0 a1) a0 rfl
   refine (Tryd.strings_Split a0 a1 m w hs hm h1).mono fun e w' ⟨he, hw⟩ => ?_
   subst hw
   refine ⟨_, he, ?_, below_alloc (Below.refl _ _) _⟩
   rw [← hlen]
   exact Ow.R_new_block Value.string (fun _ => rfl) _ w _ (by rw [hlen]; unfold maxLen; omega)
  ·cases h
 ·cases h


end Go.Proofs.YtkmfnmeilooogaaDoor.P


namespace Go.Proofs.YtkmfnmeilooogaaDoor.P
open Go.RowKit Go.Proofs.YtkmfnmeilooogaaDoorW.PrintWords Go.Proofs.YtkmfnmeilooogaaDoorW.PrintLast Go.Proofs.YtkmfnmeilooogaaDoorW.PrintMore
attribute [local go_sem] max2_int min2_int max_two min_two max_three min_three max_four min_four
set_option linter.unusedVariables false
set_option linter.unusedSimpArgs false

/-! ### spec_l7Three: function 27 -/
def spec_l7Three.f (k : Nat) (l0 : List ByteArray) (l1 : List ByteArray) (l2 : List ByteArray) : Option (ByteArray × Bool) := (spec_l7Text.f k l0).bind fun t199 => ((spec_l7Text.f k l1).bind fun t200 => ((spec_l7Text.f k l2).bind fun t201 => (if t200.toList = t199.toList then (some (t201, true)) else (if t201.toList = t199.toList then (some (t200, true)) else (if t201.toList = t200.toList then (some (t200, true)) else (some ((⟨#[]⟩ : ByteArray), false)))))))
theorem spec_l7Three.mono : ∀ a0 a1 a2 k, LeO (spec_l7Three.f k a0 a1 a2) (spec_l7Three.f (k + 1) a0 a1 a2) := by
 intro a0 a1 a2 k
 unfold spec_l7Three.f
 repeat' first
   | (with_reducible exact spec_l7Text.mono _ _)
   | (with_reducible exact LeO.refl _)
   | (with_reducible exact LeO.none _)
   | (with_reducible refine LeO.ite ?_ ?_)
   | (with_reducible refine LeO.bind ?_ (fun _ => ?_))
   | exact spec_l7Text.mono _ _
   | exact LeO.none _
   | refine LeO.ite ?_ ?_
   | refine LeO.bind ?_ (fun _ => ?_)
set_option maxHeartbeats 8000000 in
set_option maxRecDepth 100000 in
theorem spec_l7Three.calls (k : Nat) (A0 : Option Addr) (c0 : Nat) (l0 : List ByteArray) (A1 : Option Addr) (c1 : Nat) (l1 : List ByteArray) (A2 : Option Addr) (c2 : Nat) (l2 : List ByteArray) (r1 : ByteArray) (r2 : Bool) (w : World) (hr0 : Kd.C Kd.string w A0 l0.length l0) (hc0 : l0.length ≤ c0) (hr1 : Kd.C Kd.string w A1 l1.length l1) (hc1 : l1.length ≤ c1) (hr2 : Kd.C Kd.string w A2 l2.length l2) (hc2 : l2.length ≤ c2) (h : spec_l7Three.f k l0 l1 l2 = some (r1, r2)) :
  Calls Tryd.prog 27 #[.slice A0 l0.length c0, .slice A1 l1.length c1, .slice A2 l2.length c2] w fun e w' => e = .returned (.tuple #[.string r1, .bool r2]) ∧ Below w.heap.size w w' := by
 have HR0 := Aside0.mk hr0
 have HC0 := Aside0.mk hc0
 clear hr0 hc0
 have HR1 := Aside0.mk hr1
 have HC1 := Aside0.mk hc1
 clear hr1 hc1
 have HR2 := Aside0.mk hr2
 have HC2 := Aside0.mk hc2
 clear hr2 hc2
 have HB := Aside0.mk (Below.refl w.heap.size w)
 have H : ((spec_l7Text.f k l0).bind fun t199 => ((spec_l7Text.f k l1).bind fun t200 => ((spec_l7Text.f k l2).bind fun t201 => (if t200.toList = t199.toList then (some (t201, true)) else (if t201.toList = t199.toList then (some (t200, true)) else (if t201.toList = t200.toList then (some (t200, true)) else (some ((⟨#[]⟩ : ByteArray), false)))))))) = some (r1, r2) := h
 clear h
 replace H := Option.bind_eq_some_iff.mp H
 obtain ⟨t199, A40, H⟩ := H
 replace H : ((spec_l7Text.f k l1).bind fun t200 => ((spec_l7Text.f k l2).bind fun t201 => (if t200.toList = t199.toList then (some (t201, true)) else (if t201.toList = t199.toList then (some (t200, true)) else (if t201.toList = t200.toList then (some (t200, true)) else (some ((⟨#[]⟩ : ByteArray), false))))))) = some (r1, r2) := H
 have A4 := Aside0.mk A40
 clear A40
 replace H := Option.bind_eq_some_iff.mp H
 obtain ⟨t200, A50, H⟩ := H
 replace H : ((spec_l7Text.f k l2).bind fun t201 => (if t200.toList = t199.toList then (some (t201, true)) else (if t201.toList = t199.toList then (some (t200, true)) else (if t201.toList = t200.toList then (some (t200, true)) else (some ((⟨#[]⟩ : ByteArray), false)))))) = some (r1, r2) := H
 have A5 := Aside0.mk A50
 clear A50
 replace H := Option.bind_eq_some_iff.mp H
 obtain ⟨t201, A60, H⟩ := H
 replace H : (if t200.toList = t199.toList then (some (t201, true)) else (if t201.toList = t199.toList then (some (t200, true)) else (if t201.toList = t200.toList then (some (t200, true)) else (some ((⟨#[]⟩ : ByteArray), false))))) = some (r1, r2) := H
 have A6 := Aside0.mk A60
 clear A60
 by_cases c7 : t200.toList = t199.toList
 ·rw [if_pos c7] at H
  have c7b0 : (t200.toList == t199.toList) = true := beq_iff_eq.mpr c7
  have c7b1 : (t200.toList != t199.toList) = false := bne_eq_false_iff_eq.mpr c7
  clear c7
  simp only [Option.some.injEq, Prod.mk.injEq] at H
  obtain ⟨rfl, rfl⟩ := H
  go_enter Tryd.func27, Tryd.ntmps27
  go_wp2_with (first | ((with_reducible refine gc 63 rfl ?_); refine gl (some 12) _ (#[.slice A0 l0.length c0]) Tryd.func63 ?_; (with_reducible refine (spec_l7Text.calls k _ _ l0 t199 _ ?side1 ?side2 A4.out).mono ?_); (case side1 => exact cb HR0.out); (case side2 => exact HC0.out); rintro e w8 ⟨rfl, hb⟩; refine ⟨_, rfl, ?_⟩; refine Ya1 (below_step (be HB.out) hb) ?_; clear HB; intro HB; (try clear hb); (try clear hb2); (try clear hk); (try clear hi)) | ((with_reducible refine gc 63 rfl ?_); refine gl (some 14) _ (#[.slice A1 l1.length c1]) Tryd.func63 ?_; (with_reducible refine (spec_l7Text.calls k _ _ l1 t200 _ ?side1 ?side2 A5.out).mono ?_); (case side1 => exact cb (Kd.C_below HR1.out HB.out)); (case side2 => exact HC1.out); rintro e w9 ⟨rfl, hb⟩; refine ⟨_, rfl, ?_⟩; refine Ya1 (below_step (be HB.out) hb) ?_; clear HB; intro HB; (try clear hb); (try clear hb2); (try clear hk); (try clear hi)) | ((with_reducible refine gc 63 rfl ?_); refine gl (some 16) _ (#[.slice A2 l2.length c2]) Tryd.func63 ?_; (with_reducible refine (spec_l7Text.calls k _ _ l2 t201 _ ?side1 ?side2 A6.out).mono ?_); (case side1 => exact cb (Kd.C_below HR2.out HB.out)); (case side2 => exact HC2.out); rintro e w10 ⟨rfl, hb⟩; refine ⟨_, rfl, ?_⟩; refine Ya1 (below_step (be HB.out) hb) ?_; clear HB; intro HB; (try clear hb); (try clear hb2); (try clear hk); (try clear hi)))
  go_ret2
  exact ⟨Ye2, be HB.out⟩
 ·rw [if_neg c7] at H
  have c7b0 : (t200.toList == t199.toList) = false := beq_eq_false_iff_ne.mpr c7
  have c7b1 : (t200.toList != t199.toList) = true := bne_iff_ne.mpr c7
  by_cases c11 : t201.toList = t199.toList
  ·rw [if_pos c11] at H
   have c11b0 : (t201.toList == t199.toList) = true := beq_iff_eq.mpr c11
   have c11b1 : (t201.toList != t199.toList) = false := bne_eq_false_iff_eq.mpr c11
   clear c11
   simp only [Option.some.injEq, Prod.mk.injEq] at H
   obtain ⟨rfl, rfl⟩ := H
   go_enter Tryd.func27, Tryd.ntmps27
   go_wp2_with (first | ((with_reducible refine gc 63 rfl ?_); refine gl (some 12) _ (#[.slice A0 l0.length c0]) Tryd.func63 ?_; (with_reducible refine (spec_l7Text.calls k _ _ l0 t199 _ ?side1 ?side2 A4.out).mono ?_); (case side1 => exact cb HR0.out); (case side2 => exact HC0.out); rintro e w12 ⟨rfl, hb⟩; refine ⟨_, rfl, ?_⟩; refine Ya1 (below_step (be HB.out) hb) ?_; clear HB; intro HB; (try clear hb); (try clear hb2); (try clear hk); (try clear hi)) | ((with_reducible refine gc 63 rfl ?_); refine gl (some 14) _ (#[.slice A1 l1.length c1]) Tryd.func63 ?_; (with_reducible refine (spec_l7Text.calls k _ _ l1 t200 _ ?side1 ?side2 A5.out).mono ?_); (case side1 => exact cb (Kd.C_below HR1.out HB.out)); (case side2 => exact HC1.out); rintro e w13 ⟨rfl, hb⟩; refine ⟨_, rfl, ?_⟩; refine Ya1 (below_step (be HB.out) hb) ?_; clear HB; intro HB; (try clear hb); (try clear hb2); (try clear hk); (try clear hi)) | ((with_reducible refine gc 63 rfl ?_); refine gl (some 16) _ (#[.slice A2 l2.length c2]) Tryd.func63 ?_; (with_reducible refine (spec_l7Text.calls k _ _ l2 t201 _ ?side1 ?side2 A6.out).mono ?_); (case side1 => exact cb (Kd.C_below HR2.out HB.out)); (case side2 => exact HC2.out); rintro e w14 ⟨rfl, hb⟩; refine ⟨_, rfl, ?_⟩; refine Ya1 (below_step (be HB.out) hb) ?_; clear HB; intro HB; (try clear hb); (try clear hb2); (try clear hk); (try clear hi)))
   go_ret2
   exact ⟨Ye2, be HB.out⟩
  ·rw [if_neg c11] at H
   have c11b0 : (t201.toList == t199.toList) = false := beq_eq_false_iff_ne.mpr c11
   have c11b1 : (t201.toList != t199.toList) = true := bne_iff_ne.mpr c11
   by_cases c15 : t201.toList = t200.toList
   ·rw [if_pos c15] at H
    have c15b0 : (t201.toList == t200.toList) = true := beq_iff_eq.mpr c15
    have c15b1 : (t201.toList != t200.toList) = false := bne_eq_false_iff_eq.mpr c15
    clear c15
    simp only [Option.some.injEq, Prod.mk.injEq] at H
    obtain ⟨rfl, rfl⟩ := H
    go_enter Tryd.func27, Tryd.ntmps27
    go_wp2_with (first | ((with_reducible refine gc 63 rfl ?_); refine gl (some 12) _ (#[.slice A0 l0.length c0]) Tryd.func63 ?_; (with_reducible refine (spec_l7Text.calls k _ _ l0 t199 _ ?side1 ?side2 A4.out).mono ?_); (case side1 => exact cb HR0.out); (case side2 => exact HC0.out); rintro e w16 ⟨rfl, hb⟩; refine ⟨_, rfl, ?_⟩; refine Ya1 (below_step (be HB.out) hb) ?_; clear HB; intro HB; (try clear hb); (try clear hb2); (try clear hk); (try clear hi)) | ((with_reducible refine gc 63 rfl ?_); refine gl (some 14) _ (#[.slice A1 l1.length c1]) Tryd.func63 ?_; (with_reducible refine (spec_l7Text.calls k _ _ l1 t200 _ ?side1 ?side2 A5.out).mono ?_); (case side1 => exact cb (Kd.C_below HR1.out HB.out)); (case side2 => exact HC1.out); rintro e w17 ⟨rfl, hb⟩; refine ⟨_, rfl, ?_⟩; refine Ya1 (below_step (be HB.out) hb) ?_; clear HB; intro HB; (try clear hb); (try clear hb2); (try clear hk); (try clear hi)) | ((with_reducible refine gc 63 rfl ?_); refine gl (some 16) _ (#[.slice A2 l2.length c2]) Tryd.func63 ?_; (with_reducible refine (spec_l7Text.calls k _ _ l2 t201 _ ?side1 ?side2 A6.out).mono ?_); (case side1 => exact cb (Kd.C_below HR2.out HB.out)); (case side2 => exact HC2.out); rintro e w18 ⟨rfl, hb⟩; refine ⟨_, rfl, ?_⟩; refine Ya1 (below_step (be HB.out) hb) ?_; clear HB; intro HB; (try clear hb); (try clear hb2); (try clear hk); (try clear hi)))
    go_ret2
    exact ⟨Ye2, be HB.out⟩
   ·rw [if_neg c15] at H
    have c15b0 : (t201.toList == t200.toList) = false := beq_eq_false_iff_ne.mpr c15
    have c15b1 : (t201.toList != t200.toList) = true := bne_iff_ne.mpr c15
    simp only [Option.some.injEq, Prod.mk.injEq] at H
    obtain ⟨rfl, rfl⟩ := H
    go_enter Tryd.func27, Tryd.ntmps27
    go_wp2_with (first | ((with_reducible refine gc 63 rfl ?_); refine gl (some 12) _ (#[.slice A0 l0.length c0]) Tryd.func63 ?_; (with_reducible refine (spec_l7Text.calls k _ _ l0 t199 _ ?side1 ?side2 A4.out).mono ?_); (case side1 => exact cb HR0.out); (case side2 => exact HC0.out); rintro e w19 ⟨rfl, hb⟩; refine ⟨_, rfl, ?_⟩; refine Ya1 (below_step (be HB.out) hb) ?_; clear HB; intro HB; (try clear hb); (try clear hb2); (try clear hk); (try clear hi)) | ((with_reducible refine gc 63 rfl ?_); refine gl (some 14) _ (#[.slice A1 l1.length c1]) Tryd.func63 ?_; (with_reducible refine (spec_l7Text.calls k _ _ l1 t200 _ ?side1 ?side2 A5.out).mono ?_); (case side1 => exact cb (Kd.C_below HR1.out HB.out)); (case side2 => exact HC1.out); rintro e w20 ⟨rfl, hb⟩; refine ⟨_, rfl, ?_⟩; refine Ya1 (below_step (be HB.out) hb) ?_; clear HB; intro HB; (try clear hb); (try clear hb2); (try clear hk); (try clear hi)) | ((with_reducible refine gc 63 rfl ?_); refine gl (some 16) _ (#[.slice A2 l2.length c2]) Tryd.func63 ?_; (with_reducible refine (spec_l7Text.calls k _ _ l2 t201 _ ?side1 ?side2 A6.out).mono ?_); (case side1 => exact cb (Kd.C_below HR2.out HB.out)); (case side2 => exact HC2.out); rintro e w21 ⟨rfl, hb⟩; refine ⟨_, rfl, ?_⟩; refine Ya1 (below_step (be HB.out) hb) ?_; clear HB; intro HB; (try clear hb); (try clear hb2); (try clear hk); (try clear hi)))
    go_ret2
    exact ⟨Ye2, be HB.out⟩

end Go.Proofs.YtkmfnmeilooogaaDoor.P


namespace Go.Proofs.YtkmfnmeilooogaaDoor.P
open Go.RowKit Go.Proofs.YtkmfnmeilooogaaDoorW.PrintWords Go.Proofs.YtkmfnmeilooogaaDoorW.PrintLast Go.Proofs.YtkmfnmeilooogaaDoorW.PrintMore
attribute [local go_sem] max2_int min2_int max_two min_two max_three min_three max_four min_four
set_option linter.unusedVariables false
set_option linter.unusedSimpArgs false

/-! ### spec_l7With: function 26 -/
def spec_l7With.l0 : Nat → List (S63) → Int → Int → Option (Int)
 | 0, _, _, _ => none
 | k + 1, x0, x1, x5 => if x5 < (x0.length : Int) then (if 0 ≤ x5 then (if ((rd_T63 x0 x5).f0) = x1 then (some ((rd_T63 x0 x5).f1)) else (spec_l7With.l0 k x0 x1 (wrap64 (x5 + 1)))) else (none)) else (some (-1))
def spec_l7With.f (k : Nat) (l0 : List (S63)) (a1 : Int) : Option (Int) := spec_l7With.l0 k l0 a1 0
theorem spec_l7With.mono_l : ∀ k, (∀ y0 y1 y2, LeO (spec_l7With.l0 k y0 y1 y2) (spec_l7With.l0 (k + 1) y0 y1 y2))
 | 0 => fun _ _ _ r h => by simp [spec_l7With.l0] at h
 | k + 1 => by
  have ih0 := spec_l7With.mono_l k
  ·intro y0 y1 y2
   unfold spec_l7With.l0
   repeat' first
   | (with_reducible exact ih0 _ _ _)
   | (with_reducible exact LeO.refl _)
   | (with_reducible exact LeO.none _)
   | (with_reducible refine LeO.ite ?_ ?_)
   | (with_reducible refine LeO.bind ?_ (fun _ => ?_))
   | exact ih0 _ _ _
   | exact LeO.none _
   | refine LeO.ite ?_ ?_
   | refine LeO.bind ?_ (fun _ => ?_)
theorem spec_l7With.mono : ∀ a0 a1 k, LeO (spec_l7With.f k a0 a1) (spec_l7With.f (k + 1) a0 a1) := by
 intro a0 a1 k
 have ih0 := spec_l7With.mono_l k
 unfold spec_l7With.f
 repeat' first
   | (with_reducible exact ih0 _ _ _)
   | (with_reducible exact LeO.refl _)
   | (with_reducible exact LeO.none _)
   | (with_reducible refine LeO.ite ?_ ?_)
   | (with_reducible refine LeO.bind ?_ (fun _ => ?_))
   | exact ih0 _ _ _
   | exact LeO.none _
   | refine LeO.ite ?_ ?_
   | refine LeO.bind ?_ (fun _ => ?_)
set_option maxHeartbeats 8000000 in
set_option maxRecDepth 100000 in
theorem spec_l7With.calls (k : Nat) (A0 : Option Addr) (c0 : Nat) (l0 : List (S63)) (a1 : Int) (r : Int) (w : World) (hr0 : Kd.C k63 w A0 l0.length l0) (hc0 : l0.length ≤ c0) (h : spec_l7With.f k l0 a1 = some r) :
  Calls Tryd.prog 26 #[.slice A0 l0.length c0, .int .i64 a1] w fun e w' => e = .returned (.int .i64 r) ∧ Drawn0 w w' := by
 have HR0 := Aside0.mk hr0
 have HC0 := Aside0.mk hc0
 clear hr0 hc0
 have H : (spec_l7With.l0 k l0 a1 0) = some r := h
 clear h
 have H' := Aside0.mk H
 clear H
 go_enter Tryd.func26, Tryd.ntmps26
 go_wp2
 go_loopg [5] k (fun kq v5 w' => ∃ (x5_1 : Int), v5 = .int .i64 x5_1 ∧ Aside0 (spec_l7With.l0 kq l0 a1 x5_1 = some r) ∧ Aside0 (kq ≤ k) ∧ Drawn0 w w')
 case atStart => exact ⟨(0), Ye1, H', ⟨Nat.le_refl _⟩, dz⟩
 case round =>
  clear H'
  try clear c2
  try clear p2
  obtain ⟨x5_1, rfl, HA, HK1, ⟨m1, rfl⟩⟩ := hrel
  cases gk with
  | zero => exact absurd HA.out (by simp [spec_l7With.l0])
  | succ k1 =>
   have H := HA.out
   clear HA
   simp only [spec_l7With.l0] at H
   by_cases c3 : x5_1 < (l0.length : Int)
   ·rw [if_pos c3] at H
    have c3b0 : decide (x5_1 < (l0.length : Int)) = true := decide_eq_true c3
    clear c3
    by_cases c4 : 0 ≤ x5_1
    ·rw [if_pos c4] at H
     have c4b0 : decide (0 ≤ x5_1) = true := decide_eq_true c4
     clear c4
     by_cases c5 : ((rd_T63 l0 x5_1).f0) = a1
     ·rw [if_pos c5] at H
      have c5b0 : (((rd_T63 l0 x5_1).f0) == a1) = true := beq_iff_eq.mpr c5
      have c5b1 : (((rd_T63 l0 x5_1).f0) != a1) = false := bne_eq_false_iff_eq.mpr c5
      clear c5
      obtain rfl := Option.some.inj H
      have p190 : 0 ≤ (x5_1 : Int) := oda
      have q190 : x5_1 < (l0.length : Int) := oda
      obtain ⟨ad190, e190, hx190_0, hx190_1⟩ := at_T63 HR0.out x5_1 p190 q190
      cases e190
      replace p190 := eq_true p190
      replace q190 := eq_true q190
      have p191 : 0 ≤ (x5_1 : Int) := oda
      have q191 : x5_1 < (l0.length : Int) := oda
      obtain ⟨ad191, e191, hx191_0, hx191_1⟩ := at_T63 HR0.out x5_1 p191 q191
      obtain rfl : ad190 = ad191 := (by injection e191)
      replace p191 := eq_true p191
      replace q191 := eq_true q191
      go_wp2
      go_ret
      exact ⟨Ye1, dz⟩
     ·rw [if_neg c5] at H
      have c5b0 : (((rd_T63 l0 x5_1).f0) == a1) = false := beq_eq_false_iff_ne.mpr c5
      have c5b1 : (((rd_T63 l0 x5_1).f0) != a1) = true := bne_iff_ne.mpr c5
      have H' := Aside0.mk H
      clear H
      have p190 : 0 ≤ (x5_1 : Int) := oda
      have q190 : x5_1 < (l0.length : Int) := oda
      obtain ⟨ad190, e190, hx190_0, hx190_1⟩ := at_T63 HR0.out x5_1 p190 q190
      cases e190
      replace p190 := eq_true p190
      replace q190 := eq_true q190
      go_wp2
      go_roundg k1
      case measure => have := HK1.out; omega
      case rel => exact ⟨(wrap64 (x5_1 + 1)), Ye1, H', ⟨by have := HK1.out; omega⟩, dz⟩
    ·rw [if_neg c4] at H
     exact absurd H (by simp)
   ·rw [if_neg c3] at H
    have c3b0 : decide (x5_1 < (l0.length : Int)) = false := decide_eq_false c3
    clear c3
    obtain rfl := Option.some.inj H
    go_wp2
    go_ret
    exact ⟨Ye1, dz⟩

end Go.Proofs.YtkmfnmeilooogaaDoor.P


namespace Go.Proofs.YtkmfnmeilooogaaDoor.P
open Go.RowKit Go.Proofs.YtkmfnmeilooogaaDoorW.PrintWords Go.Proofs.YtkmfnmeilooogaaDoorW.PrintLast Go.Proofs.YtkmfnmeilooogaaDoorW.PrintMore
attribute [local go_sem] max2_int min2_int max_two min_two max_three min_three max_four min_four
set_option linter.unusedVariables false
set_option linter.unusedSimpArgs false

/-! ### spec_MergeText: function 8 -/
mutual
def spec_MergeText.j0 : Nat → ByteArray → ByteArray → ByteArray → Bool → Option (ByteArray × Bool)
 | 0, _, _, _, _ => none
 | k + 1, x0, x1, x2, x34 => if x34 = true then (some ((⟨#[]⟩ : ByteArray), false)) else ((spec_Lines.f k x0).bind fun t202 => ((spec_Lines.f k x1).bind fun t205 => ((spec_Lines.f k x2).bind fun t208 => ((spec_Common.f k t202 t205).bind fun t211 => ((spec_Common.f k t202 t208).bind fun t214 => (spec_MergeText.l0 k t202 t205 t208 t211 t214 (⟨#[]⟩ : ByteArray) 0 0 0 0))))))
def spec_MergeText.l0 : Nat → List ByteArray → List ByteArray → List ByteArray → List (S63) → List (S63) → ByteArray → Int → Int → Int → Int → Option (ByteArray × Bool)
 | 0, _, _, _, _, _, _, _, _, _, _ => none
 | k + 1, x8, x9, x10, x11, x12, x13, x14, x15, x16, x17 => if x17 ≤ (x8.length : Int) then (if x17 < (x8.length : Int) then ((spec_l7With.f k x11 x17).bind fun t217 => ((spec_l7With.f k x12 x17).bind fun t218 => (spec_MergeText.j2 k x8 x9 x10 x11 x12 x13 x14 x15 x16 x17 t217 t218))) else (spec_MergeText.j2 k x8 x9 x10 x11 x12 x13 x14 x15 x16 x17 (x9.length : Int) (x10.length : Int))) else (some (x13, true))
def spec_MergeText.j2 : Nat → List ByteArray → List ByteArray → List ByteArray → List (S63) → List (S63) → ByteArray → Int → Int → Int → Int → Int → Int → Option (ByteArray × Bool)
 | 0, _, _, _, _, _, _, _, _, _, _, _, _ => none
 | k + 1, x8, x9, x10, x11, x12, x13, x14, x15, x16, x17, x18, x19 => if x18 < 0 then (spec_MergeText.j3 k x8 x9 x10 x11 x12 x13 x14 x15 x16 x17 x18 x19 true) else (spec_MergeText.j3 k x8 x9 x10 x11 x12 x13 x14 x15 x16 x17 x18 x19 (decide (x19 < 0)))
def spec_MergeText.j3 : Nat → List ByteArray → List ByteArray → List ByteArray → List (S63) → List (S63) → ByteArray → Int → Int → Int → Int → Int → Int → Bool → Option (ByteArray × Bool)
 | 0, _, _, _, _, _, _, _, _, _, _, _, _, _ => none
 | k + 1, x8, x9, x10, x11, x12, x13, x14, x15, x16, x17, x18, x19, x72 => if x72 = true then (spec_MergeText.l0 k x8 x9 x10 x11 x12 x13 x14 x15 x16 (wrap64 (x17 + 1))) else (if 0 ≤ x14 then (if x14 ≤ x17 then (if x17 ≤ (x8.length : Int) then (if 0 ≤ x15 then (if x15 ≤ x18 then (if x18 ≤ (x9.length : Int) then (if 0 ≤ x16 then (if x16 ≤ x19 then (if x19 ≤ (x10.length : Int) then ((spec_l7Three.f k ((x8.take (x17 : Int).toNat).drop (x14 : Int).toNat) ((x9.take (x18 : Int).toNat).drop (x15 : Int).toNat) ((x10.take (x19 : Int).toNat).drop (x16 : Int).toNat)).bind fun bt231 => (if bt231.2 = true then (if x13.size + bt231.1.size ≤ 9223372036854775807 then (if x17 < (x8.length : Int) then (if 0 ≤ x17 then (if (x13 ++ bt231.1).size + (rdOf ByteArray.empty x8 x17).size ≤ 9223372036854775807 then (spec_MergeText.l0 k x8 x9 x10 x11 x12 ((x13 ++ bt231.1) ++ (rdOf ByteArray.empty x8 x17)) (wrap64 (x17 + 1)) (wrap64 (x18 + 1)) (wrap64 (x19 + 1)) (wrap64 (x17 + 1))) else (none)) else (none)) else (spec_MergeText.l0 k x8 x9 x10 x11 x12 (x13 ++ bt231.1) (wrap64 (x17 + 1)) (wrap64 (x18 + 1)) (wrap64 (x19 + 1)) (wrap64 (x17 + 1)))) else (none)) else (some ((⟨#[]⟩ : ByteArray), false)))) else (none)) else (none)) else (none)) else (none)) else (none)) else (none)) else (none)) else (none)) else (none))
end
def spec_MergeText.f (k : Nat) (a0 : ByteArray) (a1 : ByteArray) (a2 : ByteArray) : Option (ByteArray × Bool) := if (a0.size : Int) > 1500 then (spec_MergeText.j0 k a0 a1 a2 true) else (if (a1.size : Int) > 1500 then (spec_MergeText.j0 k a0 a1 a2 true) else (spec_MergeText.j0 k a0 a1 a2 (decide ((a2.size : Int) > 1500))))
theorem spec_MergeText.mono_l : ∀ k, (∀ y0 y1 y2 y3, LeO (spec_MergeText.j0 k y0 y1 y2 y3) (spec_MergeText.j0 (k + 1) y0 y1 y2 y3)) ∧ (∀ y0 y1 y2 y3 y4 y5 y6 y7 y8 y9, LeO (spec_MergeText.l0 k y0 y1 y2 y3 y4 y5 y6 y7 y8 y9) (spec_MergeText.l0 (k + 1) y0 y1 y2 y3 y4 y5 y6 y7 y8 y9)) ∧ (∀ y0 y1 y2 y3 y4 y5 y6 y7 y8 y9 y10 y11, LeO (spec_MergeText.j2 k y0 y1 y2 y3 y4 y5 y6 y7 y8 y9 y10 y11) (spec_MergeText.j2 (k + 1) y0 y1 y2 y3 y4 y5 y6 y7 y8 y9 y10 y11)) ∧ (∀ y0 y1 y2 y3 y4 y5 y6 y7 y8 y9 y10 y11 y12, LeO (spec_MergeText.j3 k y0 y1 y2 y3 y4 y5 y6 y7 y8 y9 y10 y11 y12) (spec_MergeText.j3 (k + 1) y0 y1 y2 y3 y4 y5 y6 y7 y8 y9 y10 y11 y12))
 | 0 => ⟨fun _ _ _ _ r h => by simp [spec_MergeText.j0] at h, fun _ _ _ _ _ _ _ _ _ _ r h => by simp [spec_MergeText.l0] at h, fun _ _ _ _ _ _ _ _ _ _ _ _ r h => by simp [spec_MergeText.j2] at h, fun _ _ _ _ _ _ _ _ _ _ _ _ _ r h => by simp [spec_MergeText.j3] at h⟩
 | k + 1 => by
  obtain ⟨ih0, ih1, ih2, ih3⟩ := spec_MergeText.mono_l k
  refine ⟨?_, ?_, ?_, ?_⟩
  ·intro y0 y1 y2 y3
   unfold spec_MergeText.j0
   repeat' first
   | (with_reducible exact ih0 _ _ _ _)
   | (with_reducible exact ih1 _ _ _ _ _ _ _ _ _ _)
   | (with_reducible exact ih2 _ _ _ _ _ _ _ _ _ _ _ _)
   | (with_reducible exact ih3 _ _ _ _ _ _ _ _ _ _ _ _ _)
   | (with_reducible exact spec_Common.mono _ _ _)
   | (with_reducible exact spec_Lines.mono _ _)
   | (with_reducible exact spec_l7Three.mono _ _ _ _)
   | (with_reducible exact spec_l7With.mono _ _ _)
   | (with_reducible exact LeO.refl _)
   | (with_reducible exact LeO.none _)
   | (with_reducible refine LeO.ite ?_ ?_)
   | (with_reducible refine LeO.bind ?_ (fun _ => ?_))
   | exact ih0 _ _ _ _
   | exact ih1 _ _ _ _ _ _ _ _ _ _
   | exact ih2 _ _ _ _ _ _ _ _ _ _ _ _
   | exact ih3 _ _ _ _ _ _ _ _ _ _ _ _ _
   | exact spec_Common.mono _ _ _
   | exact spec_Lines.mono _ _
   | exact spec_l7Three.mono _ _ _ _
   | exact spec_l7With.mono _ _ _
   | exact LeO.none _
   | refine LeO.ite ?_ ?_
   | refine LeO.bind ?_ (fun _ => ?_)
  ·intro y0 y1 y2 y3 y4 y5 y6 y7 y8 y9
   unfold spec_MergeText.l0
   repeat' first
   | (with_reducible exact ih0 _ _ _ _)
   | (with_reducible exact ih1 _ _ _ _ _ _ _ _ _ _)
   | (with_reducible exact ih2 _ _ _ _ _ _ _ _ _ _ _ _)
   | (with_reducible exact ih3 _ _ _ _ _ _ _ _ _ _ _ _ _)
   | (with_reducible exact spec_Common.mono _ _ _)
   | (with_reducible exact spec_Lines.mono _ _)
   | (with_reducible exact spec_l7Three.mono _ _ _ _)
   | (with_reducible exact spec_l7With.mono _ _ _)
   | (with_reducible exact LeO.refl _)
   | (with_reducible exact LeO.none _)
   | (with_reducible refine LeO.ite ?_ ?_)
   | (with_reducible refine LeO.bind ?_ (fun _ => ?_))
   | exact ih0 _ _ _ _
   | exact ih1 _ _ _ _ _ _ _ _ _ _
   | exact ih2 _ _ _ _ _ _ _ _ _ _ _ _
   | exact ih3 _ _ _ _ _ _ _ _ _ _ _ _ _
   | exact spec_Common.mono _ _ _
   | exact spec_Lines.mono _ _
   | exact spec_l7Three.mono _ _ _ _
   | exact spec_l7With.mono _ _ _
   | exact LeO.none _
   | refine LeO.ite ?_ ?_
   | refine LeO.bind ?_ (fun _ => ?_)
  ·intro y0 y1 y2 y3 y4 y5 y6 y7 y8 y9 y10 y11
   unfold spec_MergeText.j2
   repeat' first
   | (with_reducible exact ih0 _ _ _ _)
   | (with_reducible exact ih1 _ _ _ _ _ _ _ _ _ _)
   | (with_reducible exact ih2 _ _ _ _ _ _ _ _ _ _ _ _)
   | (with_reducible exact ih3 _ _ _ _ _ _ _ _ _ _ _ _ _)
   | (with_reducible exact spec_Common.mono _ _ _)
   | (with_reducible exact spec_Lines.mono _ _)
   | (with_reducible exact spec_l7Three.mono _ _ _ _)
   | (with_reducible exact spec_l7With.mono _ _ _)
   | (with_reducible exact LeO.refl _)
   | (with_reducible exact LeO.none _)
   | (with_reducible refine LeO.ite ?_ ?_)
   | (with_reducible refine LeO.bind ?_ (fun _ => ?_))
   | exact ih0 _ _ _ _
   | exact ih1 _ _ _ _ _ _ _ _ _ _
   | exact ih2 _ _ _ _ _ _ _ _ _ _ _ _
   | exact ih3 _ _ _ _ _ _ _ _ _ _ _ _ _
   | exact spec_Common.mono _ _ _
   | exact spec_Lines.mono _ _
   | exact spec_l7Three.mono _ _ _ _
   | exact spec_l7With.mono _ _ _
   | exact LeO.none _
   | refine LeO.ite ?_ ?_
   | refine LeO.bind ?_ (fun _ => ?_)
  ·intro y0 y1 y2 y3 y4 y5 y6 y7 y8 y9 y10 y11 y12
   unfold spec_MergeText.j3
   repeat' first
   | (with_reducible exact ih0 _ _ _ _)
   | (with_reducible exact ih1 _ _ _ _ _ _ _ _ _ _)
   | (with_reducible exact ih2 _ _ _ _ _ _ _ _ _ _ _ _)
   | (with_reducible exact ih3 _ _ _ _ _ _ _ _ _ _ _ _ _)
   | (with_reducible exact spec_Common.mono _ _ _)
   | (with_reducible exact spec_Lines.mono _ _)
   | (with_reducible exact spec_l7Three.mono _ _ _ _)
   | (with_reducible exact spec_l7With.mono _ _ _)
   | (with_reducible exact LeO.refl _)
   | (with_reducible exact LeO.none _)
   | (with_reducible refine LeO.ite ?_ ?_)
   | (with_reducible refine LeO.bind ?_ (fun _ => ?_))
   | exact ih0 _ _ _ _
   | exact ih1 _ _ _ _ _ _ _ _ _ _
   | exact ih2 _ _ _ _ _ _ _ _ _ _ _ _
   | exact ih3 _ _ _ _ _ _ _ _ _ _ _ _ _
   | exact spec_Common.mono _ _ _
   | exact spec_Lines.mono _ _
   | exact spec_l7Three.mono _ _ _ _
   | exact spec_l7With.mono _ _ _
   | exact LeO.none _
   | refine LeO.ite ?_ ?_
   | refine LeO.bind ?_ (fun _ => ?_)
theorem spec_MergeText.mono : ∀ a0 a1 a2 k, LeO (spec_MergeText.f k a0 a1 a2) (spec_MergeText.f (k + 1) a0 a1 a2) := by
 intro a0 a1 a2 k
 obtain ⟨ih0, ih1, ih2, ih3⟩ := spec_MergeText.mono_l k
 unfold spec_MergeText.f
 repeat' first
   | (with_reducible exact ih0 _ _ _ _)
   | (with_reducible exact ih1 _ _ _ _ _ _ _ _ _ _)
   | (with_reducible exact ih2 _ _ _ _ _ _ _ _ _ _ _ _)
   | (with_reducible exact ih3 _ _ _ _ _ _ _ _ _ _ _ _ _)
   | (with_reducible exact spec_Common.mono _ _ _)
   | (with_reducible exact spec_Lines.mono _ _)
   | (with_reducible exact spec_l7Three.mono _ _ _ _)
   | (with_reducible exact spec_l7With.mono _ _ _)
   | (with_reducible exact LeO.refl _)
   | (with_reducible exact LeO.none _)
   | (with_reducible refine LeO.ite ?_ ?_)
   | (with_reducible refine LeO.bind ?_ (fun _ => ?_))
   | exact ih0 _ _ _ _
   | exact ih1 _ _ _ _ _ _ _ _ _ _
   | exact ih2 _ _ _ _ _ _ _ _ _ _ _ _
   | exact ih3 _ _ _ _ _ _ _ _ _ _ _ _ _
   | exact spec_Common.mono _ _ _
   | exact spec_Lines.mono _ _
   | exact spec_l7Three.mono _ _ _ _
   | exact spec_l7With.mono _ _ _
   | exact LeO.none _
   | refine LeO.ite ?_ ?_
   | refine LeO.bind ?_ (fun _ => ?_)
def spec_MergeText.T21 : Bool × List (List Nat × List Nat) := (true, [([], []), ([], []), ([], []), ([0, 1, 2], [0, 1, 2]), ([], []), ([], []), ([], []), ([4, 5, 6], [4, 5, 6]), ([], []), ([], []), ([], []), ([8, 9, 10], [8, 9, 10]), ([3, 7, 11], [3, 7, 11]), ([12], [12]), ([13], [13]), ([13], [13]), ([14, 12, 0, 1, 2, 3, 4, 5, 6, 7, 8, 9, 10, 11, 12, 13, 14], [14]), ([15, 16, 0, 1, 2, 3, 4, 5, 6, 7, 8, 9, 10, 11, 12, 13, 14, 15, 16], [15])])
def spec_MergeText.B21 : List Nat := [0, 0, 0, 7, 0, 0, 0, 112, 0, 0, 0, 1792, 4095, 8191, 16383, 16383, 32767, 131071]
theorem spec_MergeText.tab21 : rtab .any (opsOf Tryd.f8 21) = spec_MergeText.T21 := by kernel_rfl
theorem spec_MergeText.bits21 : waitsOk spec_MergeText.T21.2 spec_MergeText.B21 = true := by kernel_rfl
set_option maxHeartbeats 8000000 in
set_option maxRecDepth 100000 in
theorem spec_MergeText.calls (k : Nat) (a0 : ByteArray) (a1 : ByteArray) (a2 : ByteArray) (r1 : ByteArray) (r2 : Bool) (w : World) (h : spec_MergeText.f k a0 a1 a2 = some (r1, r2)) :
  Calls Tryd.prog 8 #[.string a0, .string a1, .string a2] w fun e w' => e = .returned (.tuple #[.string r1, .bool r2]) ∧ Below w.heap.size w w' := by
 have HB := Aside0.mk (Below.refl w.heap.size w)
 have H : (if (a0.size : Int) > 1500 then (spec_MergeText.j0 k a0 a1 a2 true) else (if (a1.size : Int) > 1500 then (spec_MergeText.j0 k a0 a1 a2 true) else (spec_MergeText.j0 k a0 a1 a2 (decide ((a2.size : Int) > 1500))))) = some (r1, r2) := h
 clear h
 have HC4 := Aside0.mk H
 clear H
 go_enter Tryd.func8, Tryd.ntmps8
 go_upto_region 1 with (fail)
 go_cut [34] (fun v34 wc => ∃ (kq : Nat) (x34_3 : Bool), v34 = .bool x34_3 ∧ Aside0 (spec_MergeText.j0 kq a0 a1 a2 x34_3 = some (r1, r2)) ∧ Aside0 (kq ≤ k) ∧ Aside0 (Below w.heap.size w wc))
 case first =>
  have H := HC4.out
  clear HC4
  by_cases c5 : (a0.size : Int) > 1500
  ·rw [if_pos c5] at H
   have c5b0 : decide (1500 < (a0.size : Int)) = true := decide_eq_true c5
   have c5b1 : decide (1500 < a0.size) = true := decide_eq_true (by omega)
   clear c5
   (first | rw [c5b0] | (simp only [i64_w, i32_w]; rw [c5b0]) | skip)
   have H' := Aside0.mk H
   clear H
   go_wp2
   go_meet
   case rel => exact ⟨_, (true), Ye1, H', ⟨by first | omega | exact Nat.le_refl _⟩, ⟨be HB.out⟩⟩
  ·rw [if_neg c5] at H
   have c5b0 : decide (1500 < (a0.size : Int)) = false := decide_eq_false c5
   have c5b1 : decide (1500 < a0.size) = false := decide_eq_false (by omega)
   clear c5
   (first | rw [c5b0] | (simp only [i64_w, i32_w]; rw [c5b0]) | skip)
   by_cases c6 : (a1.size : Int) > 1500
   ·rw [if_pos c6] at H
    have c6b0 : decide (1500 < (a1.size : Int)) = true := decide_eq_true c6
    have c6b1 : decide (1500 < a1.size) = true := decide_eq_true (by omega)
    clear c6
    have H' := Aside0.mk H
    clear H
    go_wp2
    go_meet
    case rel => exact ⟨_, (true), Ye1, H', ⟨by first | omega | exact Nat.le_refl _⟩, ⟨be HB.out⟩⟩
   ·rw [if_neg c6] at H
    have c6b0 : decide (1500 < (a1.size : Int)) = false := decide_eq_false c6
    have c6b1 : decide (1500 < a1.size) = false := decide_eq_false (by omega)
    clear c6
    have H' := Aside0.mk H
    clear H
    go_wp2
    go_meet
    case rel => exact ⟨_, (decide ((a2.size : Int) > 1500)), Ye1, H', ⟨by first | omega | exact Nat.le_refl _⟩, ⟨be HB.out⟩⟩
 case rest =>
  clear HC4
  try clear p2
  try clear c5
  try clear c5b0
  try clear c5b1
  try clear c6
  try clear c6b0
  try clear c6b1
  obtain ⟨kq, x34_3, rfl, HA, HJ3, HB⟩ := hcut
  cases kq with
  | zero => exact absurd HA.out (by simp [spec_MergeText.j0])
  | succ kj3 =>
   have H := HA.out
   clear HA
   simp only [spec_MergeText.j0] at H
   by_cases c7 : x34_3 = true
   ·subst c7
    have H1 : (some ((⟨#[]⟩ : ByteArray), false)) = some (r1, r2) := by rw [if_pos rfl] at H; exact H
    clear H
    have H := H1
    clear H1
    simp only [Option.some.injEq, Prod.mk.injEq] at H
    obtain ⟨rfl, rfl⟩ := H
    go_wp2
    go_ret2
    exact ⟨Ye2, be HB.out⟩
   ·replace c7 := Bool.eq_false_iff.mpr c7
    subst c7
    have H1 : ((spec_Lines.f kj3 a0).bind fun t202 => ((spec_Lines.f kj3 a1).bind fun t205 => ((spec_Lines.f kj3 a2).bind fun t208 => ((spec_Common.f kj3 t202 t205).bind fun t211 => ((spec_Common.f kj3 t202 t208).bind fun t214 => (spec_MergeText.l0 kj3 t202 t205 t208 t211 t214 (⟨#[]⟩ : ByteArray) 0 0 0 0)))))) = some (r1, r2) := by rw [if_neg (show ¬ (false = true) by decide)] at H; exact H
    clear H
    have H := H1
    clear H1
    replace H := Option.bind_eq_some_iff.mp H
    obtain ⟨t202, A80, H⟩ := H
    replace H : ((spec_Lines.f kj3 a1).bind fun t205 => ((spec_Lines.f kj3 a2).bind fun t208 => ((spec_Common.f kj3 t202 t205).bind fun t211 => ((spec_Common.f kj3 t202 t208).bind fun t214 => (spec_MergeText.l0 kj3 t202 t205 t208 t211 t214 (⟨#[]⟩ : ByteArray) 0 0 0 0))))) = some (r1, r2) := H
    have A8 := Aside0.mk A80
    clear A80
    replace H := Option.bind_eq_some_iff.mp H
    obtain ⟨t205, A90, H⟩ := H
    replace H : ((spec_Lines.f kj3 a2).bind fun t208 => ((spec_Common.f kj3 t202 t205).bind fun t211 => ((spec_Common.f kj3 t202 t208).bind fun t214 => (spec_MergeText.l0 kj3 t202 t205 t208 t211 t214 (⟨#[]⟩ : ByteArray) 0 0 0 0)))) = some (r1, r2) := H
    have A9 := Aside0.mk A90
    clear A90
    replace H := Option.bind_eq_some_iff.mp H
    obtain ⟨t208, A100, H⟩ := H
    replace H : ((spec_Common.f kj3 t202 t205).bind fun t211 => ((spec_Common.f kj3 t202 t208).bind fun t214 => (spec_MergeText.l0 kj3 t202 t205 t208 t211 t214 (⟨#[]⟩ : ByteArray) 0 0 0 0))) = some (r1, r2) := H
    have A10 := Aside0.mk A100
    clear A100
    replace H := Option.bind_eq_some_iff.mp H
    obtain ⟨t211, A110, H⟩ := H
    replace H : ((spec_Common.f kj3 t202 t208).bind fun t214 => (spec_MergeText.l0 kj3 t202 t205 t208 t211 t214 (⟨#[]⟩ : ByteArray) 0 0 0 0)) = some (r1, r2) := H
    have A11 := Aside0.mk A110
    clear A110
    replace H := Option.bind_eq_some_iff.mp H
    obtain ⟨t214, A120, H⟩ := H
    replace H : (spec_MergeText.l0 kj3 t202 t205 t208 t211 t214 (⟨#[]⟩ : ByteArray) 0 0 0 0) = some (r1, r2) := H
    have A12 := Aside0.mk A120
    clear A120
    have H' := Aside0.mk H
    clear H
    go_wp2_with (first | ((with_reducible refine gc 24 rfl ?_); refine gl (some 36) _ (#[.string a0]) Tryd.func24 ?_; (with_reducible refine (spec_Lines.calls kj3 a0 t202 _ A8.out).mono ?_); rintro e w13 ⟨v203, rfl, ho0, hb⟩; refine ⟨_, rfl, ?_⟩; refine Ya2 (Kd.R_lower ho0 (below_size (be HB.out))) (below_step (be HB.out) hb) ?_; clear HB; intro HO204 HB; (try clear hb); (try clear hb2); (try clear hk); (try clear hi); (try clear ho0)) | ((with_reducible refine gc 24 rfl ?_); refine gl (some 38) _ (#[.string a1]) Tryd.func24 ?_; (with_reducible refine (spec_Lines.calls kj3 a1 t205 _ A9.out).mono ?_); rintro e w14 ⟨v206, rfl, ho0, hb⟩; refine ⟨_, rfl, ?_⟩; refine Ya3 (Kd.R_elder' (kr HO204.out) (Kd.R_base ho0) hb) (Kd.R_lower (Kd.R_new' ho0 (Kd.R_lt (kr HO204.out))) (below_size (be HB.out))) (below_step (be HB.out) hb) ?_; clear HO204 HB; intro HO204 HO207 HB; (try clear hb); (try clear hb2); (try clear hk); (try clear hi); (try clear ho0)) | ((with_reducible refine gc 24 rfl ?_); refine gl (some 40) _ (#[.string a2]) Tryd.func24 ?_; (with_reducible refine (spec_Lines.calls kj3 a2 t208 _ A10.out).mono ?_); rintro e w15 ⟨v209, rfl, ho0, hb⟩; refine ⟨_, rfl, ?_⟩; refine Ya4 (Kd.R_elder' (kr HO204.out) (Kd.R_base ho0) hb) (Kd.R_elder' (kr HO207.out) (Kd.R_base ho0) hb) (Kd.R_lower (Kd.R_new' (Kd.R_new' ho0 (Kd.R_lt (kr HO204.out))) (Kd.R_lt (kr HO207.out))) (below_size (be HB.out))) (below_step (be HB.out) hb) ?_; clear HO204 HO207 HB; intro HO204 HO207 HO210 HB; (try clear hb); (try clear hb2); (try clear hk); (try clear hi); (try clear ho0); obtain ⟨Ao16, co16, eo16⟩ := Kd.R_slice HO204.out; subst eo16; obtain ⟨Ao17, co17, eo17⟩ := Kd.R_slice HO207.out; subst eo17) | ((with_reducible refine gc 25 rfl ?_); refine gl (some 43) _ (#[.slice Ao16 t202.length co16, .slice Ao17 t205.length co17]) Tryd.func25 ?_; (with_reducible refine (spec_Common.calls kj3 _ _ t202 _ _ t205 t211 _ ?side1 ?side2 ?side3 ?side4 A11.out).mono ?_); (case side1 => repeat (first | exact (Kd.R_reads' HO204.out).2.2 | (with_reducible refine Kd.C_alloc ?_ _) | (with_reducible refine Kd.C_drewN ?_ _) | (with_reducible refine Kd.C_drew ?_))); (case side2 => exact (Kd.R_reads' HO204.out).2.1); (case side3 => repeat (first | exact (Kd.R_reads' HO207.out).2.2 | (with_reducible refine Kd.C_alloc ?_ _) | (with_reducible refine Kd.C_drewN ?_ _) | (with_reducible refine Kd.C_drew ?_))); (case side4 => exact (Kd.R_reads' HO207.out).2.1); rintro e w18 ⟨v212, rfl, ho0, hb⟩; refine ⟨_, rfl, ?_⟩; refine Ya5 (Kd.R_below (kr HO204.out) hb) (Kd.R_below (kr HO207.out) hb) (Kd.R_below (kr HO210.out) hb) (Kd.R_lower ho0 (below_size (be HB.out))) (below_step (be HB.out) hb) ?_; clear HO204 HO207 HO210 HB; intro HO204 HO207 HO210 HO213 HB; (try clear hb); (try clear hb2); (try clear hk); (try clear hi); (try clear ho0); obtain ⟨Ao19, co19, eo19⟩ := Kd.R_slice HO210.out; subst eo19) | ((with_reducible refine gc 25 rfl ?_); refine gl (some 46) _ (#[.slice Ao16 t202.length co16, .slice Ao19 t208.length co19]) Tryd.func25 ?_; (with_reducible refine (spec_Common.calls kj3 _ _ t202 _ _ t208 t214 _ ?side1 ?side2 ?side3 ?side4 A12.out).mono ?_); (case side1 => repeat (first | exact (Kd.R_reads' HO204.out).2.2 | (with_reducible refine Kd.C_alloc ?_ _) | (with_reducible refine Kd.C_drewN ?_ _) | (with_reducible refine Kd.C_drew ?_))); (case side2 => exact (Kd.R_reads' HO204.out).2.1); (case side3 => repeat (first | exact (Kd.R_reads' HO210.out).2.2 | (with_reducible refine Kd.C_alloc ?_ _) | (with_reducible refine Kd.C_drewN ?_ _) | (with_reducible refine Kd.C_drew ?_))); (case side4 => exact (Kd.R_reads' HO210.out).2.1); rintro e w20 ⟨v215, rfl, ho0, hb⟩; refine ⟨_, rfl, ?_⟩; refine Ya6 (Kd.R_below (kr HO204.out) hb) (Kd.R_below (kr HO207.out) hb) (Kd.R_below (kr HO210.out) hb) (Kd.R_elder' (kr HO213.out) (Kd.R_base ho0) hb) (Kd.R_lower (Kd.R_new' ho0 (Kd.R_lt (kr HO213.out))) (below_size (be HB.out))) (below_step (be HB.out) hb) ?_; clear HO204 HO207 HO210 HO213 HB; intro HO204 HO207 HO210 HO213 HO216 HB; (try clear hb); (try clear hb2); (try clear hk); (try clear hi); (try clear ho0)))
    go_loopg [13, 14, 15, 16, 17] kj3 (fun kq v13 v14 v15 v16 v17 w' => ∃ (x13_2 : ByteArray) (x14_2 : Int) (x15_2 : Int) (x16_2 : Int) (x17_2 : Int), v13 = .string x13_2 ∧ v14 = .int .i64 x14_2 ∧ v15 = .int .i64 x15_2 ∧ v16 = .int .i64 x16_2 ∧ v17 = .int .i64 x17_2 ∧ Aside0 (spec_MergeText.l0 kq t202 t205 t208 t211 t214 x13_2 x14_2 x15_2 x16_2 x17_2 = some (r1, r2)) ∧ Aside0 (kq ≤ kj3) ∧ Aside0 (Kd.R Kd.string 9 w' w.heap.size (fun k_ => some k_ ≠ ((.slice Ao17 t205.length co17) : Value).ownBlock ∧ some k_ ≠ ((.slice Ao19 t208.length co19) : Value).ownBlock) (.slice Ao16 t202.length co16) t202) ∧ Aside0 (Kd.R Kd.string 9 w' w.heap.size (fun k_ => some k_ ≠ ((.slice Ao16 t202.length co16) : Value).ownBlock ∧ some k_ ≠ ((.slice Ao19 t208.length co19) : Value).ownBlock) (.slice Ao17 t205.length co17) t205) ∧ Aside0 (Kd.R Kd.string 9 w' w.heap.size (fun k_ => some k_ ≠ ((.slice Ao16 t202.length co16) : Value).ownBlock ∧ some k_ ≠ ((.slice Ao17 t205.length co17) : Value).ownBlock) (.slice Ao19 t208.length co19) t208) ∧ Aside0 (Kd.R k63 63 w' w.heap.size (fun k_ => some k_ ≠ (v215 : Value).ownBlock) v212 t211) ∧ Aside0 (Kd.R k63 63 w' w.heap.size (fun k_ => some k_ ≠ (v212 : Value).ownBlock) v215 t214) ∧ Aside0 (Below w.heap.size w w'))
    case atStart => exact ⟨((⟨#[]⟩ : ByteArray)), (0), (0), (0), (0), Ye1, Ye1, Ye1, Ye1, Ye1, H', ⟨Nat.le_refl _⟩, ⟨by (with_reducible repeat (first | apply Kd.R_alloc | apply Kd.R_drewN | apply Kd.R_drew)); exact Kd.R_mono HO204.out (fun _ hk => ⟨hk.1.2, hk.2⟩)⟩, ⟨by (with_reducible repeat (first | apply Kd.R_alloc | apply Kd.R_drewN | apply Kd.R_drew)); exact Kd.R_mono HO207.out (fun _ hk => ⟨hk.1.2, hk.2⟩)⟩, ⟨by (with_reducible repeat (first | apply Kd.R_alloc | apply Kd.R_drewN | apply Kd.R_drew)); exact Kd.R_mono HO210.out (fun _ hk => ⟨hk.1.2, hk.2⟩)⟩, ⟨by (with_reducible repeat (first | apply Kd.R_alloc | apply Kd.R_drewN | apply Kd.R_drew)); exact Kd.R_mono HO213.out (fun _ hk => hk.2)⟩, ⟨by (with_reducible repeat (first | apply Kd.R_alloc | apply Kd.R_drewN | apply Kd.R_drew)); exact Kd.R_mono HO216.out (fun _ hk => hk.2)⟩, ⟨be HB.out⟩⟩
    case round =>
     clear H'
     try clear c2
     try clear p2
     try clear c5
     try clear c5b0
     try clear c5b1
     try clear c6
     try clear c6b0
     try clear c6b1
     try clear c7
     try clear c8
     try clear p2
     obtain ⟨x13_2, x14_2, x15_2, x16_2, x17_2, rfl, rfl, rfl, rfl, rfl, HA, HK2, HO_8, HO_9, HO_10, HO_11, HO_12, HB⟩ := hrel
     cases gk with
     | zero => exact absurd HA.out (by simp [spec_MergeText.l0])
     | succ k2 =>
      have H := HA.out
      clear HA
      simp only [spec_MergeText.l0] at H
      by_cases c21 : x17_2 ≤ (t202.length : Int)
      ·rw [if_pos c21] at H
       have c21b0 : decide (x17_2 ≤ (t202.length : Int)) = true := decide_eq_true c21
       clear c21
       have HC22 := Aside0.mk H
       clear H
       go_upto_if 60 with (fail)
       go_cut [18, 19] (fun v18 v19 wc => ∃ (kq : Nat) (x18_21 : Int) (x19_21 : Int), v18 = .int .i64 x18_21 ∧ v19 = .int .i64 x19_21 ∧ Aside0 (spec_MergeText.j2 kq t202 t205 t208 t211 t214 x13_2 x14_2 x15_2 x16_2 x17_2 x18_21 x19_21 = some (r1, r2)) ∧ Aside0 (kq ≤ k2) ∧ Aside0 (Kd.R Kd.string 9 wc w.heap.size (fun k_ => some k_ ≠ ((.slice Ao17 t205.length co17) : Value).ownBlock ∧ some k_ ≠ ((.slice Ao19 t208.length co19) : Value).ownBlock) (.slice Ao16 t202.length co16) t202) ∧ Aside0 (Kd.R Kd.string 9 wc w.heap.size (fun k_ => some k_ ≠ ((.slice Ao16 t202.length co16) : Value).ownBlock ∧ some k_ ≠ ((.slice Ao19 t208.length co19) : Value).ownBlock) (.slice Ao17 t205.length co17) t205) ∧ Aside0 (Kd.R Kd.string 9 wc w.heap.size (fun k_ => some k_ ≠ ((.slice Ao16 t202.length co16) : Value).ownBlock ∧ some k_ ≠ ((.slice Ao17 t205.length co17) : Value).ownBlock) (.slice Ao19 t208.length co19) t208) ∧ Aside0 (Kd.R k63 63 wc w.heap.size (fun k_ => some k_ ≠ (v215 : Value).ownBlock) v212 t211) ∧ Aside0 (Kd.R k63 63 wc w.heap.size (fun k_ => some k_ ≠ (v212 : Value).ownBlock) v215 t214) ∧ Aside0 (Below w.heap.size w wc))
       case first =>
        have H := HC22.out
        clear HC22
        by_cases c23 : x17_2 < (t202.length : Int)
        ·rw [if_pos c23] at H
         have c23b0 : decide (x17_2 < (t202.length : Int)) = true := decide_eq_true c23
         clear c23
         (first | rw [c23b0] | (simp only [i64_w, i32_w]; rw [c23b0]) | skip)
         replace H := Option.bind_eq_some_iff.mp H
         obtain ⟨t217, A240, H⟩ := H
         replace H : ((spec_l7With.f k2 t214 x17_2).bind fun t218 => (spec_MergeText.j2 k2 t202 t205 t208 t211 t214 x13_2 x14_2 x15_2 x16_2 x17_2 t217 t218)) = some (r1, r2) := H
         have A24 := Aside0.mk A240
         clear A240
         replace H := Option.bind_eq_some_iff.mp H
         obtain ⟨t218, A250, H⟩ := H
         replace H : (spec_MergeText.j2 k2 t202 t205 t208 t211 t214 x13_2 x14_2 x15_2 x16_2 x17_2 t217 t218) = some (r1, r2) := H
         have A25 := Aside0.mk A250
         clear A250
         have H' := Aside0.mk H
         clear H
         obtain ⟨Ao26, co26, eo26⟩ := Kd.R_slice HO_11.out
         subst eo26
         go_wp2_with (first | ((with_reducible refine gc 26 rfl ?_); refine gl (some 63) _ (#[.slice Ao26 t211.length co26, .int .i64 x17_2]) Tryd.func26 ?_; (with_reducible refine (spec_l7With.calls k2 _ _ t211 x17_2 t217 _ ?side1 ?side2 A24.out).mono ?_); (case side1 => repeat (first | exact (Kd.R_reads' HO_11.out).2.2 | (with_reducible refine Kd.C_alloc ?_ _) | (with_reducible refine Kd.C_drewN ?_ _) | (with_reducible refine Kd.C_drew ?_))); (case side2 => exact (Kd.R_reads' HO_11.out).2.1); rintro e w' ⟨rfl, ⟨nd, rfl⟩⟩; refine ⟨_, rfl, ?_⟩; obtain ⟨Ao27, co27, eo27⟩ := Kd.R_slice HO_12.out; subst eo27) | ((with_reducible refine gc 26 rfl ?_); refine gl (some 66) _ (#[.slice Ao27 t214.length co27, .int .i64 x17_2]) Tryd.func26 ?_; (with_reducible refine (spec_l7With.calls k2 _ _ t214 x17_2 t218 _ ?side1 ?side2 A25.out).mono ?_); (case side1 => repeat (first | exact (Kd.R_reads' HO_12.out).2.2 | (with_reducible refine Kd.C_alloc ?_ _) | (with_reducible refine Kd.C_drewN ?_ _) | (with_reducible refine Kd.C_drew ?_))); (case side2 => exact (Kd.R_reads' HO_12.out).2.1); rintro e w' ⟨rfl, ⟨nd, rfl⟩⟩; refine ⟨_, rfl, ?_⟩))
         go_meet
         case rel => exact ⟨_, (t217), (t218), Ye1, Ye1, H', ⟨by have := HJ3.out; have := HK2.out; first | omega | exact Nat.le_refl _⟩, ⟨kr HO_8.out⟩, ⟨kr HO_9.out⟩, ⟨kr HO_10.out⟩, ⟨kr HO_11.out⟩, ⟨kr HO_12.out⟩, ⟨be HB.out⟩⟩
        ·rw [if_neg c23] at H
         have c23b0 : decide (x17_2 < (t202.length : Int)) = false := decide_eq_false c23
         clear c23
         (first | rw [c23b0] | (simp only [i64_w, i32_w]; rw [c23b0]) | skip)
         have H' := Aside0.mk H
         clear H
         go_wp2
         go_meet
         case rel => exact ⟨_, ((t205.length : Int)), ((t208.length : Int)), Ye1, Ye1, H', ⟨by have := HJ3.out; have := HK2.out; first | omega | exact Nat.le_refl _⟩, ⟨kr HO_8.out⟩, ⟨kr HO_9.out⟩, ⟨kr HO_10.out⟩, ⟨kr HO_11.out⟩, ⟨kr HO_12.out⟩, ⟨be HB.out⟩⟩
       case rest =>
        clear HC22
        try clear c2
        try clear p2
        try clear c5
        try clear c5b0
        try clear c5b1
        try clear c6
        try clear c6b0
        try clear c6b1
        try clear c7
        try clear c8
        try clear c21
        try clear c21b0
        try clear c23
        try clear c23b0
        try clear c24
        try clear c25
        try clear c26
        try clear p2
        obtain ⟨kq, x18_21, x19_21, rfl, rfl, HA, HJ21, HO_8, HO_9, HO_10, HO_11, HO_12, HB⟩ := hcut
        cases kq with
        | zero => exact absurd HA.out (by simp [spec_MergeText.j2])
        | succ kj21 =>
         have H := HA.out
         clear HA
         simp only [spec_MergeText.j2] at H
         have HC28 := Aside0.mk H
         clear H
         go_upto_region 20 with (fail)
         go_cut [72] (fun v72 wc => ∃ (kq : Nat) (x72_27 : Bool), v72 = .bool x72_27 ∧ Aside0 (spec_MergeText.j3 kq t202 t205 t208 t211 t214 x13_2 x14_2 x15_2 x16_2 x17_2 x18_21 x19_21 x72_27 = some (r1, r2)) ∧ Aside0 (kq ≤ kj21) ∧ Aside0 (Kd.R Kd.string 9 wc w.heap.size (fun k_ => some k_ ≠ ((.slice Ao17 t205.length co17) : Value).ownBlock ∧ some k_ ≠ ((.slice Ao19 t208.length co19) : Value).ownBlock) (.slice Ao16 t202.length co16) t202) ∧ Aside0 (Kd.R Kd.string 9 wc w.heap.size (fun k_ => some k_ ≠ ((.slice Ao16 t202.length co16) : Value).ownBlock ∧ some k_ ≠ ((.slice Ao19 t208.length co19) : Value).ownBlock) (.slice Ao17 t205.length co17) t205) ∧ Aside0 (Kd.R Kd.string 9 wc w.heap.size (fun k_ => some k_ ≠ ((.slice Ao16 t202.length co16) : Value).ownBlock ∧ some k_ ≠ ((.slice Ao17 t205.length co17) : Value).ownBlock) (.slice Ao19 t208.length co19) t208) ∧ Aside0 (Kd.R k63 63 wc w.heap.size (fun k_ => some k_ ≠ (v215 : Value).ownBlock) v212 t211) ∧ Aside0 (Kd.R k63 63 wc w.heap.size (fun k_ => some k_ ≠ (v212 : Value).ownBlock) v215 t214) ∧ Aside0 (Below w.heap.size w wc))
         case first =>
          have H := HC28.out
          clear HC28
          by_cases c29 : x18_21 < 0
          ·rw [if_pos c29] at H
           have c29b0 : decide (x18_21 < 0) = true := decide_eq_true c29
           clear c29
           (first | rw [c29b0] | (simp only [i64_w, i32_w]; rw [c29b0]) | skip)
           have H' := Aside0.mk H
           clear H
           go_wp2
           go_meet
           case rel => exact ⟨_, (true), Ye1, H', ⟨by have := HJ3.out; have := HK2.out; have := HJ21.out; first | omega | exact Nat.le_refl _⟩, ⟨kr HO_8.out⟩, ⟨kr HO_9.out⟩, ⟨kr HO_10.out⟩, ⟨kr HO_11.out⟩, ⟨kr HO_12.out⟩, ⟨be HB.out⟩⟩
          ·rw [if_neg c29] at H
           have c29b0 : decide (x18_21 < 0) = false := decide_eq_false c29
           clear c29
           (first | rw [c29b0] | (simp only [i64_w, i32_w]; rw [c29b0]) | skip)
           have H' := Aside0.mk H
           clear H
           go_wp2
           go_meet
           case rel => exact ⟨_, (decide (x19_21 < 0)), Ye1, H', ⟨by have := HJ3.out; have := HK2.out; have := HJ21.out; first | omega | exact Nat.le_refl _⟩, ⟨kr HO_8.out⟩, ⟨kr HO_9.out⟩, ⟨kr HO_10.out⟩, ⟨kr HO_11.out⟩, ⟨kr HO_12.out⟩, ⟨be HB.out⟩⟩
         case rest =>
          clear HC28
          try clear c2
          try clear p2
          try clear c5
          try clear c5b0
          try clear c5b1
          try clear c6
          try clear c6b0
          try clear c6b1
          try clear c7
          try clear c8
          try clear c21
          try clear c21b0
          try clear c23
          try clear c23b0
          try clear c24
          try clear c25
          try clear c26
          try clear c29
          try clear c29b0
          try clear p2
          obtain ⟨kq, x72_27, rfl, HA, HJ27, HO_8, HO_9, HO_10, HO_11, HO_12, HB⟩ := hcut
          cases kq with
          | zero => exact absurd HA.out (by simp [spec_MergeText.j3])
          | succ kj27 =>
           have H := HA.out
           clear HA
           simp only [spec_MergeText.j3] at H
           by_cases c30 : x72_27 = true
           ·subst c30
            have H1 : (spec_MergeText.l0 kj27 t202 t205 t208 t211 t214 x13_2 x14_2 x15_2 x16_2 (wrap64 (x17_2 + 1))) = some (r1, r2) := by rw [if_pos rfl] at H; exact H
            clear H
            have H := H1
            clear H1
            have H' := Aside0.mk H
            clear H
            go_wp2
            go_roundg kj27
            case measure => have := HJ3.out; have := HK2.out; have := HJ21.out; have := HJ27.out; omega
            case rel => exact ⟨(x13_2), (x14_2), (x15_2), (x16_2), (wrap64 (x17_2 + 1)), Ye1, Ye1, Ye1, Ye1, Ye1, H', ⟨by have := HJ3.out; have := HK2.out; have := HJ21.out; have := HJ27.out; omega⟩, ⟨kr HO_8.out⟩, ⟨kr HO_9.out⟩, ⟨kr HO_10.out⟩, ⟨kr HO_11.out⟩, ⟨kr HO_12.out⟩, ⟨be HB.out⟩⟩
           ·replace c30 := Bool.eq_false_iff.mpr c30
            subst c30
            have H1 : (if 0 ≤ x14_2 then (if x14_2 ≤ x17_2 then (if x17_2 ≤ (t202.length : Int) then (if 0 ≤ x15_2 then (if x15_2 ≤ x18_21 then (if x18_21 ≤ (t205.length : Int) then (if 0 ≤ x16_2 then (if x16_2 ≤ x19_21 then (if x19_21 ≤ (t208.length : Int) then ((spec_l7Three.f kj27 ((t202.take (x17_2 : Int).toNat).drop (x14_2 : Int).toNat) ((t205.take (x18_21 : Int).toNat).drop (x15_2 : Int).toNat) ((t208.take (x19_21 : Int).toNat).drop (x16_2 : Int).toNat)).bind fun bt231 => (if bt231.2 = true then (if x13_2.size + bt231.1.size ≤ 9223372036854775807 then (if x17_2 < (t202.length : Int) then (if 0 ≤ x17_2 then (if (x13_2 ++ bt231.1).size + (rdOf ByteArray.empty t202 x17_2).size ≤ 9223372036854775807 then (spec_MergeText.l0 kj27 t202 t205 t208 t211 t214 ((x13_2 ++ bt231.1) ++ (rdOf ByteArray.empty t202 x17_2)) (wrap64 (x17_2 + 1)) (wrap64 (x18_21 + 1)) (wrap64 (x19_21 + 1)) (wrap64 (x17_2 + 1))) else (none)) else (none)) else (spec_MergeText.l0 kj27 t202 t205 t208 t211 t214 (x13_2 ++ bt231.1) (wrap64 (x17_2 + 1)) (wrap64 (x18_21 + 1)) (wrap64 (x19_21 + 1)) (wrap64 (x17_2 + 1)))) else (none)) else (some ((⟨#[]⟩ : ByteArray), false)))) else (none)) else (none)) else (none)) else (none)) else (none)) else (none)) else (none)) else (none)) else (none)) = some (r1, r2) := by rw [if_neg (show ¬ (false = true) by decide)] at H; exact H
            clear H
            have H := H1
            clear H1
            by_cases c31 : 0 ≤ x14_2
            ·rw [if_pos c31] at H
             have c31b0 := eq_true c31
             have c31b1 : decide (0 ≤ x14_2) = true := decide_eq_true c31
             clear c31
             by_cases c32 : x14_2 ≤ x17_2
             ·rw [if_pos c32] at H
              have c32b0 := eq_true c32
              have c32b1 : decide (x14_2 ≤ x17_2) = true := decide_eq_true c32
              clear c32
              by_cases c33 : x17_2 ≤ (t202.length : Int)
              ·rw [if_pos c33] at H
               have c33b0 := eq_true c33
               have c33b1 : decide (x17_2 ≤ (t202.length : Int)) = true := decide_eq_true c33
               clear c33
               obtain ⟨y219, hy219⟩ : ∃ y_ : List ByteArray, y_ = ((t202.take (x17_2 : Int).toNat).drop (x14_2 : Int).toNat) := ⟨_, rfl⟩
               replace H : (if 0 ≤ x15_2 then (if x15_2 ≤ x18_21 then (if x18_21 ≤ (t205.length : Int) then (if 0 ≤ x16_2 then (if x16_2 ≤ x19_21 then (if x19_21 ≤ (t208.length : Int) then ((spec_l7Three.f kj27 y219 ((t205.take (x18_21 : Int).toNat).drop (x15_2 : Int).toNat) ((t208.take (x19_21 : Int).toNat).drop (x16_2 : Int).toNat)).bind fun bt231 => (if bt231.2 = true then (if x13_2.size + bt231.1.size ≤ 9223372036854775807 then (if x17_2 < (t202.length : Int) then (if 0 ≤ x17_2 then (if (x13_2 ++ bt231.1).size + (rdOf ByteArray.empty t202 x17_2).size ≤ 9223372036854775807 then (spec_MergeText.l0 kj27 t202 t205 t208 t211 t214 ((x13_2 ++ bt231.1) ++ (rdOf ByteArray.empty t202 x17_2)) (wrap64 (x17_2 + 1)) (wrap64 (x18_21 + 1)) (wrap64 (x19_21 + 1)) (wrap64 (x17_2 + 1))) else (none)) else (none)) else (spec_MergeText.l0 kj27 t202 t205 t208 t211 t214 (x13_2 ++ bt231.1) (wrap64 (x17_2 + 1)) (wrap64 (x18_21 + 1)) (wrap64 (x19_21 + 1)) (wrap64 (x17_2 + 1)))) else (none)) else (some ((⟨#[]⟩ : ByteArray), false)))) else (none)) else (none)) else (none)) else (none)) else (none)) else (none)) = some (r1, r2) := by first | (rw [hy219]; with_reducible exact H) | (have H2_ := (Option.bind_some _ _).symm.trans H; rw [hy219]; with_reducible exact H2_) | (have H2_ := (Option.bind_some _ _).symm.trans H; with_reducible exact H2_) | with_reducible exact H | (rw [hy219]; exact H) | exact H
               have Ny219 := Aside0.mk hy219
               clear hy219
               by_cases c34 : 0 ≤ x15_2
               ·rw [if_pos c34] at H
                have c34b0 := eq_true c34
                have c34b1 : decide (0 ≤ x15_2) = true := decide_eq_true c34
                clear c34
                by_cases c35 : x15_2 ≤ x18_21
                ·rw [if_pos c35] at H
                 have c35b0 := eq_true c35
                 have c35b1 : decide (x15_2 ≤ x18_21) = true := decide_eq_true c35
                 clear c35
                 by_cases c36 : x18_21 ≤ (t205.length : Int)
                 ·rw [if_pos c36] at H
                  have c36b0 := eq_true c36
                  have c36b1 : decide (x18_21 ≤ (t205.length : Int)) = true := decide_eq_true c36
                  clear c36
                  obtain ⟨y223, hy223⟩ : ∃ y_ : List ByteArray, y_ = ((t205.take (x18_21 : Int).toNat).drop (x15_2 : Int).toNat) := ⟨_, rfl⟩
                  replace H : (if 0 ≤ x16_2 then (if x16_2 ≤ x19_21 then (if x19_21 ≤ (t208.length : Int) then ((spec_l7Three.f kj27 y219 y223 ((t208.take (x19_21 : Int).toNat).drop (x16_2 : Int).toNat)).bind fun bt231 => (if bt231.2 = true then (if x13_2.size + bt231.1.size ≤ 9223372036854775807 then (if x17_2 < (t202.length : Int) then (if 0 ≤ x17_2 then (if (x13_2 ++ bt231.1).size + (rdOf ByteArray.empty t202 x17_2).size ≤ 9223372036854775807 then (spec_MergeText.l0 kj27 t202 t205 t208 t211 t214 ((x13_2 ++ bt231.1) ++ (rdOf ByteArray.empty t202 x17_2)) (wrap64 (x17_2 + 1)) (wrap64 (x18_21 + 1)) (wrap64 (x19_21 + 1)) (wrap64 (x17_2 + 1))) else (none)) else (none)) else (spec_MergeText.l0 kj27 t202 t205 t208 t211 t214 (x13_2 ++ bt231.1) (wrap64 (x17_2 + 1)) (wrap64 (x18_21 + 1)) (wrap64 (x19_21 + 1)) (wrap64 (x17_2 + 1)))) else (none)) else (some ((⟨#[]⟩ : ByteArray), false)))) else (none)) else (none)) else (none)) = some (r1, r2) := by first | (rw [hy223]; with_reducible exact H) | (have H2_ := (Option.bind_some _ _).symm.trans H; rw [hy223]; with_reducible exact H2_) | (have H2_ := (Option.bind_some _ _).symm.trans H; with_reducible exact H2_) | with_reducible exact H | (rw [hy223]; exact H) | exact H
                  have Ny223 := Aside0.mk hy223
                  clear hy223
                  by_cases c37 : 0 ≤ x16_2
                  ·rw [if_pos c37] at H
                   have c37b0 := eq_true c37
                   have c37b1 : decide (0 ≤ x16_2) = true := decide_eq_true c37
                   clear c37
                   by_cases c38 : x16_2 ≤ x19_21
                   ·rw [if_pos c38] at H
                    have c38b0 := eq_true c38
                    have c38b1 : decide (x16_2 ≤ x19_21) = true := decide_eq_true c38
                    clear c38
                    by_cases c39 : x19_21 ≤ (t208.length : Int)
                    ·rw [if_pos c39] at H
                     have c39b0 := eq_true c39
                     have c39b1 : decide (x19_21 ≤ (t208.length : Int)) = true := decide_eq_true c39
                     clear c39
                     obtain ⟨y227, hy227⟩ : ∃ y_ : List ByteArray, y_ = ((t208.take (x19_21 : Int).toNat).drop (x16_2 : Int).toNat) := ⟨_, rfl⟩
                     replace H : ((spec_l7Three.f kj27 y219 y223 y227).bind fun bt231 => (if bt231.2 = true then (if x13_2.size + bt231.1.size ≤ 9223372036854775807 then (if x17_2 < (t202.length : Int) then (if 0 ≤ x17_2 then (if (x13_2 ++ bt231.1).size + (rdOf ByteArray.empty t202 x17_2).size ≤ 9223372036854775807 then (spec_MergeText.l0 kj27 t202 t205 t208 t211 t214 ((x13_2 ++ bt231.1) ++ (rdOf ByteArray.empty t202 x17_2)) (wrap64 (x17_2 + 1)) (wrap64 (x18_21 + 1)) (wrap64 (x19_21 + 1)) (wrap64 (x17_2 + 1))) else (none)) else (none)) else (spec_MergeText.l0 kj27 t202 t205 t208 t211 t214 (x13_2 ++ bt231.1) (wrap64 (x17_2 + 1)) (wrap64 (x18_21 + 1)) (wrap64 (x19_21 + 1)) (wrap64 (x17_2 + 1)))) else (none)) else (some ((⟨#[]⟩ : ByteArray), false)))) = some (r1, r2) := by first | (rw [hy227]; with_reducible exact H) | (have H2_ := (Option.bind_some _ _).symm.trans H; rw [hy227]; with_reducible exact H2_) | (have H2_ := (Option.bind_some _ _).symm.trans H; with_reducible exact H2_) | with_reducible exact H | (rw [hy227]; exact H) | exact H
                     have Ny227 := Aside0.mk hy227
                     clear hy227
                     replace H := Option.bind_eq_some_iff.mp H
                     obtain ⟨⟨t231, t232⟩, A400, H⟩ := H
                     replace H : (if t232 = true then (if x13_2.size + t231.size ≤ 9223372036854775807 then (if x17_2 < (t202.length : Int) then (if 0 ≤ x17_2 then (if (x13_2 ++ t231).size + (rdOf ByteArray.empty t202 x17_2).size ≤ 9223372036854775807 then (spec_MergeText.l0 kj27 t202 t205 t208 t211 t214 ((x13_2 ++ t231) ++ (rdOf ByteArray.empty t202 x17_2)) (wrap64 (x17_2 + 1)) (wrap64 (x18_21 + 1)) (wrap64 (x19_21 + 1)) (wrap64 (x17_2 + 1))) else (none)) else (none)) else (spec_MergeText.l0 kj27 t202 t205 t208 t211 t214 (x13_2 ++ t231) (wrap64 (x17_2 + 1)) (wrap64 (x18_21 + 1)) (wrap64 (x19_21 + 1)) (wrap64 (x17_2 + 1)))) else (none)) else (some ((⟨#[]⟩ : ByteArray), false))) = some (r1, r2) := H
                     have A40 := Aside0.mk A400
                     clear A400
                     by_cases c41 : t232 = true
                     ·subst c41
                      have H1 : (if x13_2.size + t231.size ≤ 9223372036854775807 then (if x17_2 < (t202.length : Int) then (if 0 ≤ x17_2 then (if (x13_2 ++ t231).size + (rdOf ByteArray.empty t202 x17_2).size ≤ 9223372036854775807 then (spec_MergeText.l0 kj27 t202 t205 t208 t211 t214 ((x13_2 ++ t231) ++ (rdOf ByteArray.empty t202 x17_2)) (wrap64 (x17_2 + 1)) (wrap64 (x18_21 + 1)) (wrap64 (x19_21 + 1)) (wrap64 (x17_2 + 1))) else (none)) else (none)) else (spec_MergeText.l0 kj27 t202 t205 t208 t211 t214 (x13_2 ++ t231) (wrap64 (x17_2 + 1)) (wrap64 (x18_21 + 1)) (wrap64 (x19_21 + 1)) (wrap64 (x17_2 + 1)))) else (none)) = some (r1, r2) := by rw [if_pos rfl] at H; exact H
                      clear H
                      have H := H1
                      clear H1
                      by_cases c42 : x13_2.size + t231.size ≤ 9223372036854775807
                      ·rw [if_pos c42] at H
                       have c42b0 := eq_true c42
                       have c42b1 : decide (x13_2.size + t231.size ≤ 9223372036854775807) = true := decide_eq_true c42
                       try have c42b2 : (9223372036854775807 < x13_2.size + t231.size) = False := eq_false (Nat.not_lt.2 c42)
                       by_cases c43 : x17_2 < (t202.length : Int)
                       ·rw [if_pos c43] at H
                        have c43b0 : decide (x17_2 < (t202.length : Int)) = true := decide_eq_true c43
                        clear c43
                        by_cases c44 : 0 ≤ x17_2
                        ·rw [if_pos c44] at H
                         have c44b0 : decide (0 ≤ x17_2) = true := decide_eq_true c44
                         clear c44
                         by_cases c45 : (x13_2 ++ t231).size + (rdOf ByteArray.empty t202 x17_2).size ≤ 9223372036854775807
                         ·rw [if_pos c45] at H
                          have c45b0 := eq_true c45
                          have c45b1 : decide ((x13_2 ++ t231).size + (rdOf ByteArray.empty t202 x17_2).size ≤ 9223372036854775807) = true := decide_eq_true c45
                          try have c45b2 : (9223372036854775807 < (x13_2 ++ t231).size + (rdOf ByteArray.empty t202 x17_2).size) = False := eq_false (Nat.not_lt.2 c45)
                          have H' := Aside0.mk H
                          clear H
                          try go_wp2
                          refine Ya6 (Kd.R_drew HO_8.out) (Kd.R_drew HO_9.out) (Kd.R_drew HO_10.out) (Kd.R_drew HO_11.out) (Kd.R_drew HO_12.out) (below_drew1 HB.out) ?_
                          clear HO_8 HO_9 HO_10 HO_11 HO_12 HB
                          intro HO_8 HO_9 HO_10 HO_11 HO_12 HB
                          have q47 : (x17_2 : Int) ≤ ((t202.length : Int) : Int) := oda
                          obtain ⟨i047, hi047, _, hsz47, _⟩ := info_parts info9
                          have hroom47 : t202.length ≤ co16 := (Kd.R_reads' HO_8.out).2.1
                          have hC47 : Kd.C Kd.string _ Ao16 t202.length t202 := (Kd.R_reads' HO_8.out).2.2
                          have ql47 : (x14_2 : Int) ≤ (x17_2 : Int) := oda
                          have q047 : (0 : Int) ≤ (x14_2 : Int) := oda
                          have hcut47 := cut_mid (P := Tryd.prog) 29 9 .i64 .i64 Tryd.underlying29 hi047 1 hsz47 Ao16 t202.length co16 x14_2 x17_2 q047 ql47 q47 hroom47
                          have hr47 := Kd.C_mid (lo := (x14_2 : Int).toNat) (hi := (x17_2 : Int).toNat) (c := co16) hC47 (by omega) (by omega) hroom47
                          obtain ⟨A47, hA47⟩ : ∃ A1, A1 = (if co16 = (x14_2 : Int).toNat then Ao16 else (Ao16 : Option Addr).map (·.add ((x14_2 : Int).toNat * 1))) := ⟨_, rfl⟩
                          obtain ⟨c47, hc47⟩ : ∃ c1, c1 = co16 - (x14_2 : Int).toNat := ⟨_, rfl⟩
                          have hy47 : y219.length = (x17_2 : Int).toNat - (x14_2 : Int).toNat := (by rw [Ny219.out, List.length_drop, List.length_take] <;> omega)
                          rw [show ((t202).take (x17_2 : Int).toNat).drop (x14_2 : Int).toNat = y219 from Ny219.out.symm] at hr47
                          replace hr47 : Kd.C Kd.string _ A47 y219.length y219 := (by rw [hA47]; exact hr47)
                          rw [← hy47, ← hA47, ← hc47] at hcut47
                          have HR222 := Aside0.mk hr47
                          have HC222 := Aside0.mk (show y219.length ≤ c47 from by rw [hy47, hc47]; exact Nat.sub_le_sub_right (Nat.le_trans (by omega) hroom47) _)
                          clear hr47 hC47 hroom47 hi047 hsz47 hc47
                          have KY47 := Aside0.mk hy47
                          have KA47 := Aside0.mk hA47
                          clear hy47 hA47
                          have KL47 := Aside0.mk (show (x17_2 : Int).toNat ≤ t202.length from by omega)
                          have KM47 := Aside0.mk (show (x14_2 : Int).toNat ≤ (x17_2 : Int).toNat from by omega)
                          replace q47 := eq_true q47
                          have q48 : (x18_21 : Int) ≤ ((t205.length : Int) : Int) := oda
                          obtain ⟨i048, hi048, _, hsz48, _⟩ := info_parts info9
                          have hroom48 : t205.length ≤ co17 := (Kd.R_reads' HO_9.out).2.1
                          have hC48 : Kd.C Kd.string _ Ao17 t205.length t205 := (Kd.R_reads' HO_9.out).2.2
                          have ql48 : (x15_2 : Int) ≤ (x18_21 : Int) := oda
                          have q048 : (0 : Int) ≤ (x15_2 : Int) := oda
                          have hcut48 := cut_mid (P := Tryd.prog) 29 9 .i64 .i64 Tryd.underlying29 hi048 1 hsz48 Ao17 t205.length co17 x15_2 x18_21 q048 ql48 q48 hroom48
                          have hr48 := Kd.C_mid (lo := (x15_2 : Int).toNat) (hi := (x18_21 : Int).toNat) (c := co17) hC48 (by omega) (by omega) hroom48
                          obtain ⟨A48, hA48⟩ : ∃ A1, A1 = (if co17 = (x15_2 : Int).toNat then Ao17 else (Ao17 : Option Addr).map (·.add ((x15_2 : Int).toNat * 1))) := ⟨_, rfl⟩
                          obtain ⟨c48, hc48⟩ : ∃ c1, c1 = co17 - (x15_2 : Int).toNat := ⟨_, rfl⟩
                          have hy48 : y223.length = (x18_21 : Int).toNat - (x15_2 : Int).toNat := (by rw [Ny223.out, List.length_drop, List.length_take] <;> omega)
                          rw [show ((t205).take (x18_21 : Int).toNat).drop (x15_2 : Int).toNat = y223 from Ny223.out.symm] at hr48
                          replace hr48 : Kd.C Kd.string _ A48 y223.length y223 := (by rw [hA48]; exact hr48)
                          rw [← hy48, ← hA48, ← hc48] at hcut48
                          have HR226 := Aside0.mk hr48
                          have HC226 := Aside0.mk (show y223.length ≤ c48 from by rw [hy48, hc48]; exact Nat.sub_le_sub_right (Nat.le_trans (by omega) hroom48) _)
                          clear hr48 hC48 hroom48 hi048 hsz48 hc48
                          have KY48 := Aside0.mk hy48
                          have KA48 := Aside0.mk hA48
                          clear hy48 hA48
                          have KL48 := Aside0.mk (show (x18_21 : Int).toNat ≤ t205.length from by omega)
                          have KM48 := Aside0.mk (show (x15_2 : Int).toNat ≤ (x18_21 : Int).toNat from by omega)
                          replace q48 := eq_true q48
                          have q49 : (x19_21 : Int) ≤ ((t208.length : Int) : Int) := oda
                          obtain ⟨i049, hi049, _, hsz49, _⟩ := info_parts info9
                          have hroom49 : t208.length ≤ co19 := (Kd.R_reads' HO_10.out).2.1
                          have hC49 : Kd.C Kd.string _ Ao19 t208.length t208 := (Kd.R_reads' HO_10.out).2.2
                          have ql49 : (x16_2 : Int) ≤ (x19_21 : Int) := oda
                          have q049 : (0 : Int) ≤ (x16_2 : Int) := oda
                          have hcut49 := cut_mid (P := Tryd.prog) 29 9 .i64 .i64 Tryd.underlying29 hi049 1 hsz49 Ao19 t208.length co19 x16_2 x19_21 q049 ql49 q49 hroom49
                          have hr49 := Kd.C_mid (lo := (x16_2 : Int).toNat) (hi := (x19_21 : Int).toNat) (c := co19) hC49 (by omega) (by omega) hroom49
                          obtain ⟨A49, hA49⟩ : ∃ A1, A1 = (if co19 = (x16_2 : Int).toNat then Ao19 else (Ao19 : Option Addr).map (·.add ((x16_2 : Int).toNat * 1))) := ⟨_, rfl⟩
                          obtain ⟨c49, hc49⟩ : ∃ c1, c1 = co19 - (x16_2 : Int).toNat := ⟨_, rfl⟩
                          have hy49 : y227.length = (x19_21 : Int).toNat - (x16_2 : Int).toNat := (by rw [Ny227.out, List.length_drop, List.length_take] <;> omega)
                          rw [show ((t208).take (x19_21 : Int).toNat).drop (x16_2 : Int).toNat = y227 from Ny227.out.symm] at hr49
                          replace hr49 : Kd.C Kd.string _ A49 y227.length y227 := (by rw [hA49]; exact hr49)
                          rw [← hy49, ← hA49, ← hc49] at hcut49
                          have HR230 := Aside0.mk hr49
                          have HC230 := Aside0.mk (show y227.length ≤ c49 from by rw [hy49, hc49]; exact Nat.sub_le_sub_right (Nat.le_trans (by omega) hroom49) _)
                          clear hr49 hC49 hroom49 hi049 hsz49 hc49
                          have KY49 := Aside0.mk hy49
                          have KA49 := Aside0.mk hA49
                          clear hy49 hA49
                          have KL49 := Aside0.mk (show (x19_21 : Int).toNat ≤ t208.length from by omega)
                          have KM49 := Aside0.mk (show (x16_2 : Int).toNat ≤ (x19_21 : Int).toNat from by omega)
                          replace q49 := eq_true q49
                          refine start_ (n := 18) (S := fun w' => True) (ds := []) (fb 18 0) (by kernel_rfl) rfl rfl trivial (fun hHeld => ?_); refine with_tabW spec_MergeText.tab21 spec_MergeText.bits21 (fun HT_ HW_ => ?_)
                          generalize wc.drew = w46 at HO_8 HO_9 HO_10 HO_11 HO_12 HB HR222 HR226 HR230 hHeld ⊢
                          refine pu 0 74 (fb 18 1) HT_ ?_
                          refine pu 1 75 (fb 18 3) HT_ ?_
                          refine pu 2 76 (fb 18 7) HT_ ?_
                          refine pu 3 77 (fb 18 15) HT_ ?_
                          refine pu 4 78 (fb 18 31) HT_ ?_
                          refine pu 5 79 (fb 18 63) HT_ ?_
                          refine pu 6 80 (fb 18 127) HT_ ?_
                          refine pu 7 81 (fb 18 255) HT_ ?_
                          refine pu 8 82 (fb 18 511) HT_ ?_
                          refine pu 9 83 (fb 18 1023) HT_ ?_
                          refine pu 10 84 (fb 18 2047) HT_ ?_
                          refine pu 11 85 (fb 18 4095) HT_ ?_
                          refine o1 12 (some 86) (fb 18 8191) HT_ (fun K hK => ?_)
                          refine gs _ (#[.slice A47 y219.length c47, .slice A48 y223.length c48, .slice A49 y227.length c49]) Tryd.func27 ?_
                          with_reducible refine (spec_l7Three.calls kj27 _ _ y219 _ _ y223 _ _ y227 t231 true _ ?side1 ?side2 ?side3 ?side4 ?side5 ?side6 A40.out).mono ?_
                          (case side1 => repeat (first | exact (by repeat (first | (with_reducible exact HR222.out) | (with_reducible refine Kd.C_alloc ?_ _) | (with_reducible refine Kd.C_drewN ?_ _) | (with_reducible refine Kd.C_drew ?_) | exact HR222.out)) | (with_reducible refine Kd.C_alloc ?_ _) | (with_reducible refine Kd.C_drewN ?_ _) | (with_reducible refine Kd.C_drew ?_)))
                          (case side2 => exact HC222.out)
                          (case side3 => repeat (first | exact (by repeat (first | (with_reducible exact HR226.out) | (with_reducible refine Kd.C_alloc ?_ _) | (with_reducible refine Kd.C_drewN ?_ _) | (with_reducible refine Kd.C_drew ?_) | exact HR226.out)) | (with_reducible refine Kd.C_alloc ?_ _) | (with_reducible refine Kd.C_drewN ?_ _) | (with_reducible refine Kd.C_drew ?_)))
                          (case side4 => exact HC226.out)
                          (case side5 => repeat (first | exact (by repeat (first | (with_reducible exact HR230.out) | (with_reducible refine Kd.C_alloc ?_ _) | (with_reducible refine Kd.C_drewN ?_ _) | (with_reducible refine Kd.C_drew ?_) | exact HR230.out)) | (with_reducible refine Kd.C_alloc ?_ _) | (with_reducible refine Kd.C_drewN ?_ _) | (with_reducible refine Kd.C_drew ?_)))
                          (case side6 => exact HC230.out)
                          rintro e w50 ⟨rfl, hb⟩
                          refine ⟨_, rfl, ?_⟩
                          refine Ya9 (Kd.R_below (kr HO_8.out) hb) (Kd.R_below (kr HO_9.out) hb) (Kd.R_below (kr HO_10.out) hb) (Kd.R_below (kr HO_11.out) hb) (Kd.R_below (kr HO_12.out) hb) (Kd.C_below (by repeat (first | (with_reducible exact HR222.out) | (with_reducible refine Kd.C_alloc ?_ _) | (with_reducible refine Kd.C_drewN ?_ _) | (with_reducible refine Kd.C_drew ?_) | exact HR222.out)) hb) (Kd.C_below (by repeat (first | (with_reducible exact HR226.out) | (with_reducible refine Kd.C_alloc ?_ _) | (with_reducible refine Kd.C_drewN ?_ _) | (with_reducible refine Kd.C_drew ?_) | exact HR226.out)) hb) (Kd.C_below (by repeat (first | (with_reducible exact HR230.out) | (with_reducible refine Kd.C_alloc ?_ _) | (with_reducible refine Kd.C_drewN ?_ _) | (with_reducible refine Kd.C_drew ?_) | exact HR230.out)) hb) (below_step (be HB.out) hb) ?_
                          clear HO_8 HO_9 HO_10 HO_11 HO_12 HR222 HR226 HR230 HB
                          intro HO_8 HO_9 HO_10 HO_11 HO_12 HR222 HR226 HR230 HB
                          (try clear hb)
                          (try clear hb2)
                          (try clear hk)
                          (try clear hi)
                          refine hK.out _ _ trivial (fun hHeld => ?_)
                          clear hK K
                          refine nm 86 ?_
                          refine pu 13 73 (fb 18 16383) HT_ ?_
                          refine pu 14 87 (fb 18 32767) HT_ ?_
                          refine pu 15 88 (fb 18 65535) HT_ ?_
                          refine pu 16 20 (fb 18 131071) HT_ ?_
                          refine pu 17 21 (fb 18 262143) HT_ ?_
                          refine done_ (done_of HT_.out (by kernel_rfl)) ?_
                          have p233 : 0 ≤ (x17_2 : Int) := oda
                          have q233 : x17_2 < (t202.length : Int) := oda
                          obtain ⟨ad233, e233, hx233_0⟩ := Kd.at_string (Kd.R_reads' HO_8.out).2.2 x17_2 p233 q233
                          cases e233
                          replace p233 := eq_true p233
                          replace q233 := eq_true q233
                          try go_wp2
                          go_roundg kj27
                          case measure => have := HJ3.out; have := HK2.out; have := HJ21.out; have := HJ27.out; omega
                          case rel => exact ⟨((x13_2 ++ t231) ++ (rdOf ByteArray.empty t202 x17_2)), (wrap64 (x17_2 + 1)), (wrap64 (x18_21 + 1)), (wrap64 (x19_21 + 1)), (wrap64 (x17_2 + 1)), Ye1, Ye1, Ye1, Ye1, Ye1, H', ⟨by have := HJ3.out; have := HK2.out; have := HJ21.out; have := HJ27.out; omega⟩, ⟨kr HO_8.out⟩, ⟨kr HO_9.out⟩, ⟨kr HO_10.out⟩, ⟨kr HO_11.out⟩, ⟨kr HO_12.out⟩, ⟨be HB.out⟩⟩
                         ·rw [if_neg c45] at H
                          exact absurd H (by simp)
                        ·rw [if_neg c44] at H
                         exact absurd H (by simp)
                       ·rw [if_neg c43] at H
                        have c43b0 : decide (x17_2 < (t202.length : Int)) = false := decide_eq_false c43
                        clear c43
                        have H' := Aside0.mk H
                        clear H
                        try go_wp2
                        refine Ya6 (Kd.R_drew HO_8.out) (Kd.R_drew HO_9.out) (Kd.R_drew HO_10.out) (Kd.R_drew HO_11.out) (Kd.R_drew HO_12.out) (below_drew1 HB.out) ?_
                        clear HO_8 HO_9 HO_10 HO_11 HO_12 HB
                        intro HO_8 HO_9 HO_10 HO_11 HO_12 HB
                        have q52 : (x17_2 : Int) ≤ ((t202.length : Int) : Int) := oda
                        obtain ⟨i052, hi052, _, hsz52, _⟩ := info_parts info9
                        have hroom52 : t202.length ≤ co16 := (Kd.R_reads' HO_8.out).2.1
                        have hC52 : Kd.C Kd.string _ Ao16 t202.length t202 := (Kd.R_reads' HO_8.out).2.2
                        have ql52 : (x14_2 : Int) ≤ (x17_2 : Int) := oda
                        have q052 : (0 : Int) ≤ (x14_2 : Int) := oda
                        have hcut52 := cut_mid (P := Tryd.prog) 29 9 .i64 .i64 Tryd.underlying29 hi052 1 hsz52 Ao16 t202.length co16 x14_2 x17_2 q052 ql52 q52 hroom52
                        have hr52 := Kd.C_mid (lo := (x14_2 : Int).toNat) (hi := (x17_2 : Int).toNat) (c := co16) hC52 (by omega) (by omega) hroom52
                        obtain ⟨A52, hA52⟩ : ∃ A1, A1 = (if co16 = (x14_2 : Int).toNat then Ao16 else (Ao16 : Option Addr).map (·.add ((x14_2 : Int).toNat * 1))) := ⟨_, rfl⟩
                        obtain ⟨c52, hc52⟩ : ∃ c1, c1 = co16 - (x14_2 : Int).toNat := ⟨_, rfl⟩
                        have hy52 : y219.length = (x17_2 : Int).toNat - (x14_2 : Int).toNat := (by rw [Ny219.out, List.length_drop, List.length_take] <;> omega)
                        rw [show ((t202).take (x17_2 : Int).toNat).drop (x14_2 : Int).toNat = y219 from Ny219.out.symm] at hr52
                        replace hr52 : Kd.C Kd.string _ A52 y219.length y219 := (by rw [hA52]; exact hr52)
                        rw [← hy52, ← hA52, ← hc52] at hcut52
                        have HR222 := Aside0.mk hr52
                        have HC222 := Aside0.mk (show y219.length ≤ c52 from by rw [hy52, hc52]; exact Nat.sub_le_sub_right (Nat.le_trans (by omega) hroom52) _)
                        clear hr52 hC52 hroom52 hi052 hsz52 hc52
                        have KY52 := Aside0.mk hy52
                        have KA52 := Aside0.mk hA52
                        clear hy52 hA52
                        have KL52 := Aside0.mk (show (x17_2 : Int).toNat ≤ t202.length from by omega)
                        have KM52 := Aside0.mk (show (x14_2 : Int).toNat ≤ (x17_2 : Int).toNat from by omega)
                        replace q52 := eq_true q52
                        have q53 : (x18_21 : Int) ≤ ((t205.length : Int) : Int) := oda
                        obtain ⟨i053, hi053, _, hsz53, _⟩ := info_parts info9
                        have hroom53 : t205.length ≤ co17 := (Kd.R_reads' HO_9.out).2.1
                        have hC53 : Kd.C Kd.string _ Ao17 t205.length t205 := (Kd.R_reads' HO_9.out).2.2
                        have ql53 : (x15_2 : Int) ≤ (x18_21 : Int) := oda
                        have q053 : (0 : Int) ≤ (x15_2 : Int) := oda
                        have hcut53 := cut_mid (P := Tryd.prog) 29 9 .i64 .i64 Tryd.underlying29 hi053 1 hsz53 Ao17 t205.length co17 x15_2 x18_21 q053 ql53 q53 hroom53
                        have hr53 := Kd.C_mid (lo := (x15_2 : Int).toNat) (hi := (x18_21 : Int).toNat) (c := co17) hC53 (by omega) (by omega) hroom53
                        obtain ⟨A53, hA53⟩ : ∃ A1, A1 = (if co17 = (x15_2 : Int).toNat then Ao17 else (Ao17 : Option Addr).map (·.add ((x15_2 : Int).toNat * 1))) := ⟨_, rfl⟩
                        obtain ⟨c53, hc53⟩ : ∃ c1, c1 = co17 - (x15_2 : Int).toNat := ⟨_, rfl⟩
                        have hy53 : y223.length = (x18_21 : Int).toNat - (x15_2 : Int).toNat := (by rw [Ny223.out, List.length_drop, List.length_take] <;> omega)
                        rw [show ((t205).take (x18_21 : Int).toNat).drop (x15_2 : Int).toNat = y223 from Ny223.out.symm] at hr53
                        replace hr53 : Kd.C Kd.string _ A53 y223.length y223 := (by rw [hA53]; exact hr53)
                        rw [← hy53, ← hA53, ← hc53] at hcut53
                        have HR226 := Aside0.mk hr53
                        have HC226 := Aside0.mk (show y223.length ≤ c53 from by rw [hy53, hc53]; exact Nat.sub_le_sub_right (Nat.le_trans (by omega) hroom53) _)
                        clear hr53 hC53 hroom53 hi053 hsz53 hc53
                        have KY53 := Aside0.mk hy53
                        have KA53 := Aside0.mk hA53
                        clear hy53 hA53
                        have KL53 := Aside0.mk (show (x18_21 : Int).toNat ≤ t205.length from by omega)
                        have KM53 := Aside0.mk (show (x15_2 : Int).toNat ≤ (x18_21 : Int).toNat from by omega)
                        replace q53 := eq_true q53
                        have q54 : (x19_21 : Int) ≤ ((t208.length : Int) : Int) := oda
                        obtain ⟨i054, hi054, _, hsz54, _⟩ := info_parts info9
                        have hroom54 : t208.length ≤ co19 := (Kd.R_reads' HO_10.out).2.1
                        have hC54 : Kd.C Kd.string _ Ao19 t208.length t208 := (Kd.R_reads' HO_10.out).2.2
                        have ql54 : (x16_2 : Int) ≤ (x19_21 : Int) := oda
                        have q054 : (0 : Int) ≤ (x16_2 : Int) := oda
                        have hcut54 := cut_mid (P := Tryd.prog) 29 9 .i64 .i64 Tryd.underlying29 hi054 1 hsz54 Ao19 t208.length co19 x16_2 x19_21 q054 ql54 q54 hroom54
                        have hr54 := Kd.C_mid (lo := (x16_2 : Int).toNat) (hi := (x19_21 : Int).toNat) (c := co19) hC54 (by omega) (by omega) hroom54
                        obtain ⟨A54, hA54⟩ : ∃ A1, A1 = (if co19 = (x16_2 : Int).toNat then Ao19 else (Ao19 : Option Addr).map (·.add ((x16_2 : Int).toNat * 1))) := ⟨_, rfl⟩
                        obtain ⟨c54, hc54⟩ : ∃ c1, c1 = co19 - (x16_2 : Int).toNat := ⟨_, rfl⟩
                        have hy54 : y227.length = (x19_21 : Int).toNat - (x16_2 : Int).toNat := (by rw [Ny227.out, List.length_drop, List.length_take] <;> omega)
                        rw [show ((t208).take (x19_21 : Int).toNat).drop (x16_2 : Int).toNat = y227 from Ny227.out.symm] at hr54
                        replace hr54 : Kd.C Kd.string _ A54 y227.length y227 := (by rw [hA54]; exact hr54)
                        rw [← hy54, ← hA54, ← hc54] at hcut54
                        have HR230 := Aside0.mk hr54
                        have HC230 := Aside0.mk (show y227.length ≤ c54 from by rw [hy54, hc54]; exact Nat.sub_le_sub_right (Nat.le_trans (by omega) hroom54) _)
                        clear hr54 hC54 hroom54 hi054 hsz54 hc54
                        have KY54 := Aside0.mk hy54
                        have KA54 := Aside0.mk hA54
                        clear hy54 hA54
                        have KL54 := Aside0.mk (show (x19_21 : Int).toNat ≤ t208.length from by omega)
                        have KM54 := Aside0.mk (show (x16_2 : Int).toNat ≤ (x19_21 : Int).toNat from by omega)
                        replace q54 := eq_true q54
                        refine start_ (n := 18) (S := fun w' => True) (ds := []) (fb 18 0) (by kernel_rfl) rfl rfl trivial (fun hHeld => ?_); refine with_tabW spec_MergeText.tab21 spec_MergeText.bits21 (fun HT_ HW_ => ?_)
                        generalize wc.drew = w51 at HO_8 HO_9 HO_10 HO_11 HO_12 HB HR222 HR226 HR230 hHeld ⊢
                        refine pu 0 74 (fb 18 1) HT_ ?_
                        refine pu 1 75 (fb 18 3) HT_ ?_
                        refine pu 2 76 (fb 18 7) HT_ ?_
                        refine pu 3 77 (fb 18 15) HT_ ?_
                        refine pu 4 78 (fb 18 31) HT_ ?_
                        refine pu 5 79 (fb 18 63) HT_ ?_
                        refine pu 6 80 (fb 18 127) HT_ ?_
                        refine pu 7 81 (fb 18 255) HT_ ?_
                        refine pu 8 82 (fb 18 511) HT_ ?_
                        refine pu 9 83 (fb 18 1023) HT_ ?_
                        refine pu 10 84 (fb 18 2047) HT_ ?_
                        refine pu 11 85 (fb 18 4095) HT_ ?_
                        refine o1 12 (some 86) (fb 18 8191) HT_ (fun K hK => ?_)
                        refine gs _ (#[.slice A52 y219.length c52, .slice A53 y223.length c53, .slice A54 y227.length c54]) Tryd.func27 ?_
                        with_reducible refine (spec_l7Three.calls kj27 _ _ y219 _ _ y223 _ _ y227 t231 true _ ?side1 ?side2 ?side3 ?side4 ?side5 ?side6 A40.out).mono ?_
                        (case side1 => repeat (first | exact (by repeat (first | (with_reducible exact HR222.out) | (with_reducible refine Kd.C_alloc ?_ _) | (with_reducible refine Kd.C_drewN ?_ _) | (with_reducible refine Kd.C_drew ?_) | exact HR222.out)) | (with_reducible refine Kd.C_alloc ?_ _) | (with_reducible refine Kd.C_drewN ?_ _) | (with_reducible refine Kd.C_drew ?_)))
                        (case side2 => exact HC222.out)
                        (case side3 => repeat (first | exact (by repeat (first | (with_reducible exact HR226.out) | (with_reducible refine Kd.C_alloc ?_ _) | (with_reducible refine Kd.C_drewN ?_ _) | (with_reducible refine Kd.C_drew ?_) | exact HR226.out)) | (with_reducible refine Kd.C_alloc ?_ _) | (with_reducible refine Kd.C_drewN ?_ _) | (with_reducible refine Kd.C_drew ?_)))
                        (case side4 => exact HC226.out)
                        (case side5 => repeat (first | exact (by repeat (first | (with_reducible exact HR230.out) | (with_reducible refine Kd.C_alloc ?_ _) | (with_reducible refine Kd.C_drewN ?_ _) | (with_reducible refine Kd.C_drew ?_) | exact HR230.out)) | (with_reducible refine Kd.C_alloc ?_ _) | (with_reducible refine Kd.C_drewN ?_ _) | (with_reducible refine Kd.C_drew ?_)))
                        (case side6 => exact HC230.out)
                        rintro e w55 ⟨rfl, hb⟩
                        refine ⟨_, rfl, ?_⟩
                        refine Ya9 (Kd.R_below (kr HO_8.out) hb) (Kd.R_below (kr HO_9.out) hb) (Kd.R_below (kr HO_10.out) hb) (Kd.R_below (kr HO_11.out) hb) (Kd.R_below (kr HO_12.out) hb) (Kd.C_below (by repeat (first | (with_reducible exact HR222.out) | (with_reducible refine Kd.C_alloc ?_ _) | (with_reducible refine Kd.C_drewN ?_ _) | (with_reducible refine Kd.C_drew ?_) | exact HR222.out)) hb) (Kd.C_below (by repeat (first | (with_reducible exact HR226.out) | (with_reducible refine Kd.C_alloc ?_ _) | (with_reducible refine Kd.C_drewN ?_ _) | (with_reducible refine Kd.C_drew ?_) | exact HR226.out)) hb) (Kd.C_below (by repeat (first | (with_reducible exact HR230.out) | (with_reducible refine Kd.C_alloc ?_ _) | (with_reducible refine Kd.C_drewN ?_ _) | (with_reducible refine Kd.C_drew ?_) | exact HR230.out)) hb) (below_step (be HB.out) hb) ?_
                        clear HO_8 HO_9 HO_10 HO_11 HO_12 HR222 HR226 HR230 HB
                        intro HO_8 HO_9 HO_10 HO_11 HO_12 HR222 HR226 HR230 HB
                        (try clear hb)
                        (try clear hb2)
                        (try clear hk)
                        (try clear hi)
                        refine hK.out _ _ trivial (fun hHeld => ?_)
                        clear hK K
                        refine nm 86 ?_
                        refine pu 13 73 (fb 18 16383) HT_ ?_
                        refine pu 14 87 (fb 18 32767) HT_ ?_
                        refine pu 15 88 (fb 18 65535) HT_ ?_
                        refine pu 16 20 (fb 18 131071) HT_ ?_
                        refine pu 17 21 (fb 18 262143) HT_ ?_
                        refine done_ (done_of HT_.out (by kernel_rfl)) ?_
                        try go_wp2
                        go_roundg kj27
                        case measure => have := HJ3.out; have := HK2.out; have := HJ21.out; have := HJ27.out; omega
                        case rel => exact ⟨(x13_2 ++ t231), (wrap64 (x17_2 + 1)), (wrap64 (x18_21 + 1)), (wrap64 (x19_21 + 1)), (wrap64 (x17_2 + 1)), Ye1, Ye1, Ye1, Ye1, Ye1, H', ⟨by have := HJ3.out; have := HK2.out; have := HJ21.out; have := HJ27.out; omega⟩, ⟨kr HO_8.out⟩, ⟨kr HO_9.out⟩, ⟨kr HO_10.out⟩, ⟨kr HO_11.out⟩, ⟨kr HO_12.out⟩, ⟨be HB.out⟩⟩
                      ·rw [if_neg c42] at H
                       exact absurd H (by simp)
                     ·replace c41 := Bool.eq_false_iff.mpr c41
                      subst c41
                      have H1 : (some ((⟨#[]⟩ : ByteArray), false)) = some (r1, r2) := by rw [if_neg (show ¬ (false = true) by decide)] at H; exact H
                      clear H
                      have H := H1
                      clear H1
                      simp only [Option.some.injEq, Prod.mk.injEq] at H
                      obtain ⟨rfl, rfl⟩ := H
                      try go_wp2
                      refine Ya6 (Kd.R_drew HO_8.out) (Kd.R_drew HO_9.out) (Kd.R_drew HO_10.out) (Kd.R_drew HO_11.out) (Kd.R_drew HO_12.out) (below_drew1 HB.out) ?_
                      clear HO_8 HO_9 HO_10 HO_11 HO_12 HB
                      intro HO_8 HO_9 HO_10 HO_11 HO_12 HB
                      have q57 : (x17_2 : Int) ≤ ((t202.length : Int) : Int) := oda
                      obtain ⟨i057, hi057, _, hsz57, _⟩ := info_parts info9
                      have hroom57 : t202.length ≤ co16 := (Kd.R_reads' HO_8.out).2.1
                      have hC57 : Kd.C Kd.string _ Ao16 t202.length t202 := (Kd.R_reads' HO_8.out).2.2
                      have ql57 : (x14_2 : Int) ≤ (x17_2 : Int) := oda
                      have q057 : (0 : Int) ≤ (x14_2 : Int) := oda
                      have hcut57 := cut_mid (P := Tryd.prog) 29 9 .i64 .i64 Tryd.underlying29 hi057 1 hsz57 Ao16 t202.length co16 x14_2 x17_2 q057 ql57 q57 hroom57
                      have hr57 := Kd.C_mid (lo := (x14_2 : Int).toNat) (hi := (x17_2 : Int).toNat) (c := co16) hC57 (by omega) (by omega) hroom57
                      obtain ⟨A57, hA57⟩ : ∃ A1, A1 = (if co16 = (x14_2 : Int).toNat then Ao16 else (Ao16 : Option Addr).map (·.add ((x14_2 : Int).toNat * 1))) := ⟨_, rfl⟩
                      obtain ⟨c57, hc57⟩ : ∃ c1, c1 = co16 - (x14_2 : Int).toNat := ⟨_, rfl⟩
                      have hy57 : y219.length = (x17_2 : Int).toNat - (x14_2 : Int).toNat := (by rw [Ny219.out, List.length_drop, List.length_take] <;> omega)
                      rw [show ((t202).take (x17_2 : Int).toNat).drop (x14_2 : Int).toNat = y219 from Ny219.out.symm] at hr57
                      replace hr57 : Kd.C Kd.string _ A57 y219.length y219 := (by rw [hA57]; exact hr57)
                      rw [← hy57, ← hA57, ← hc57] at hcut57
                      have HR222 := Aside0.mk hr57
                      have HC222 := Aside0.mk (show y219.length ≤ c57 from by rw [hy57, hc57]; exact Nat.sub_le_sub_right (Nat.le_trans (by omega) hroom57) _)
                      clear hr57 hC57 hroom57 hi057 hsz57 hc57
                      have KY57 := Aside0.mk hy57
                      have KA57 := Aside0.mk hA57
                      clear hy57 hA57
                      have KL57 := Aside0.mk (show (x17_2 : Int).toNat ≤ t202.length from by omega)
                      have KM57 := Aside0.mk (show (x14_2 : Int).toNat ≤ (x17_2 : Int).toNat from by omega)
                      replace q57 := eq_true q57
                      have q58 : (x18_21 : Int) ≤ ((t205.length : Int) : Int) := oda
                      obtain ⟨i058, hi058, _, hsz58, _⟩ := info_parts info9
                      have hroom58 : t205.length ≤ co17 := (Kd.R_reads' HO_9.out).2.1
                      have hC58 : Kd.C Kd.string _ Ao17 t205.length t205 := (Kd.R_reads' HO_9.out).2.2
                      have ql58 : (x15_2 : Int) ≤ (x18_21 : Int) := oda
                      have q058 : (0 : Int) ≤ (x15_2 : Int) := oda
                      have hcut58 := cut_mid (P := Tryd.prog) 29 9 .i64 .i64 Tryd.underlying29 hi058 1 hsz58 Ao17 t205.length co17 x15_2 x18_21 q058 ql58 q58 hroom58
                      have hr58 := Kd.C_mid (lo := (x15_2 : Int).toNat) (hi := (x18_21 : Int).toNat) (c := co17) hC58 (by omega) (by omega) hroom58
                      obtain ⟨A58, hA58⟩ : ∃ A1, A1 = (if co17 = (x15_2 : Int).toNat then Ao17 else (Ao17 : Option Addr).map (·.add ((x15_2 : Int).toNat * 1))) := ⟨_, rfl⟩
                      obtain ⟨c58, hc58⟩ : ∃ c1, c1 = co17 - (x15_2 : Int).toNat := ⟨_, rfl⟩
                      have hy58 : y223.length = (x18_21 : Int).toNat - (x15_2 : Int).toNat := (by rw [Ny223.out, List.length_drop, List.length_take] <;> omega)
                      rw [show ((t205).take (x18_21 : Int).toNat).drop (x15_2 : Int).toNat = y223 from Ny223.out.symm] at hr58
                      replace hr58 : Kd.C Kd.string _ A58 y223.length y223 := (by rw [hA58]; exact hr58)
                      rw [← hy58, ← hA58, ← hc58] at hcut58
                      have HR226 := Aside0.mk hr58
                      have HC226 := Aside0.mk (show y223.length ≤ c58 from by rw [hy58, hc58]; exact Nat.sub_le_sub_right (Nat.le_trans (by omega) hroom58) _)
                      clear hr58 hC58 hroom58 hi058 hsz58 hc58
                      have KY58 := Aside0.mk hy58
                      have KA58 := Aside0.mk hA58
                      clear hy58 hA58
                      have KL58 := Aside0.mk (show (x18_21 : Int).toNat ≤ t205.length from by omega)
                      have KM58 := Aside0.mk (show (x15_2 : Int).toNat ≤ (x18_21 : Int).toNat from by omega)
                      replace q58 := eq_true q58
                      have q59 : (x19_21 : Int) ≤ ((t208.length : Int) : Int) := oda
                      obtain ⟨i059, hi059, _, hsz59, _⟩ := info_parts info9
                      have hroom59 : t208.length ≤ co19 := (Kd.R_reads' HO_10.out).2.1
                      have hC59 : Kd.C Kd.string _ Ao19 t208.length t208 := (Kd.R_reads' HO_10.out).2.2
                      have ql59 : (x16_2 : Int) ≤ (x19_21 : Int) := oda
                      have q059 : (0 : Int) ≤ (x16_2 : Int) := oda
                      have hcut59 := cut_mid (P := Tryd.prog) 29 9 .i64 .i64 Tryd.underlying29 hi059 1 hsz59 Ao19 t208.length co19 x16_2 x19_21 q059 ql59 q59 hroom59
                      have hr59 := Kd.C_mid (lo := (x16_2 : Int).toNat) (hi := (x19_21 : Int).toNat) (c := co19) hC59 (by omega) (by omega) hroom59
                      obtain ⟨A59, hA59⟩ : ∃ A1, A1 = (if co19 = (x16_2 : Int).toNat then Ao19 else (Ao19 : Option Addr).map (·.add ((x16_2 : Int).toNat * 1))) := ⟨_, rfl⟩
                      obtain ⟨c59, hc59⟩ : ∃ c1, c1 = co19 - (x16_2 : Int).toNat := ⟨_, rfl⟩
                      have hy59 : y227.length = (x19_21 : Int).toNat - (x16_2 : Int).toNat := (by rw [Ny227.out, List.length_drop, List.length_take] <;> omega)
                      rw [show ((t208).take (x19_21 : Int).toNat).drop (x16_2 : Int).toNat = y227 from Ny227.out.symm] at hr59
                      replace hr59 : Kd.C Kd.string _ A59 y227.length y227 := (by rw [hA59]; exact hr59)
                      rw [← hy59, ← hA59, ← hc59] at hcut59
                      have HR230 := Aside0.mk hr59
                      have HC230 := Aside0.mk (show y227.length ≤ c59 from by rw [hy59, hc59]; exact Nat.sub_le_sub_right (Nat.le_trans (by omega) hroom59) _)
                      clear hr59 hC59 hroom59 hi059 hsz59 hc59
                      have KY59 := Aside0.mk hy59
                      have KA59 := Aside0.mk hA59
                      clear hy59 hA59
                      have KL59 := Aside0.mk (show (x19_21 : Int).toNat ≤ t208.length from by omega)
                      have KM59 := Aside0.mk (show (x16_2 : Int).toNat ≤ (x19_21 : Int).toNat from by omega)
                      replace q59 := eq_true q59
                      refine start_ (n := 18) (S := fun w' => True) (ds := []) (fb 18 0) (by kernel_rfl) rfl rfl trivial (fun hHeld => ?_); refine with_tabW spec_MergeText.tab21 spec_MergeText.bits21 (fun HT_ HW_ => ?_)
                      generalize wc.drew = w56 at HO_8 HO_9 HO_10 HO_11 HO_12 HB HR222 HR226 HR230 hHeld ⊢
                      refine pu 0 74 (fb 18 1) HT_ ?_
                      refine pu 1 75 (fb 18 3) HT_ ?_
                      refine pu 2 76 (fb 18 7) HT_ ?_
                      refine pu 3 77 (fb 18 15) HT_ ?_
                      refine pu 4 78 (fb 18 31) HT_ ?_
                      refine pu 5 79 (fb 18 63) HT_ ?_
                      refine pu 6 80 (fb 18 127) HT_ ?_
                      refine pu 7 81 (fb 18 255) HT_ ?_
                      refine pu 8 82 (fb 18 511) HT_ ?_
                      refine pu 9 83 (fb 18 1023) HT_ ?_
                      refine pu 10 84 (fb 18 2047) HT_ ?_
                      refine pu 11 85 (fb 18 4095) HT_ ?_
                      refine o1 12 (some 86) (fb 18 8191) HT_ (fun K hK => ?_)
                      refine gs _ (#[.slice A57 y219.length c57, .slice A58 y223.length c58, .slice A59 y227.length c59]) Tryd.func27 ?_
                      with_reducible refine (spec_l7Three.calls kj27 _ _ y219 _ _ y223 _ _ y227 t231 false _ ?side1 ?side2 ?side3 ?side4 ?side5 ?side6 A40.out).mono ?_
                      (case side1 => repeat (first | exact (by repeat (first | (with_reducible exact HR222.out) | (with_reducible refine Kd.C_alloc ?_ _) | (with_reducible refine Kd.C_drewN ?_ _) | (with_reducible refine Kd.C_drew ?_) | exact HR222.out)) | (with_reducible refine Kd.C_alloc ?_ _) | (with_reducible refine Kd.C_drewN ?_ _) | (with_reducible refine Kd.C_drew ?_)))
                      (case side2 => exact HC222.out)
                      (case side3 => repeat (first | exact (by repeat (first | (with_reducible exact HR226.out) | (with_reducible refine Kd.C_alloc ?_ _) | (with_reducible refine Kd.C_drewN ?_ _) | (with_reducible refine Kd.C_drew ?_) | exact HR226.out)) | (with_reducible refine Kd.C_alloc ?_ _) | (with_reducible refine Kd.C_drewN ?_ _) | (with_reducible refine Kd.C_drew ?_)))
                      (case side4 => exact HC226.out)
                      (case side5 => repeat (first | exact (by repeat (first | (with_reducible exact HR230.out) | (with_reducible refine Kd.C_alloc ?_ _) | (with_reducible refine Kd.C_drewN ?_ _) | (with_reducible refine Kd.C_drew ?_) | exact HR230.out)) | (with_reducible refine Kd.C_alloc ?_ _) | (with_reducible refine Kd.C_drewN ?_ _) | (with_reducible refine Kd.C_drew ?_)))
                      (case side6 => exact HC230.out)
                      rintro e w60 ⟨rfl, hb⟩
                      refine ⟨_, rfl, ?_⟩
                      refine Ya9 (Kd.R_below (kr HO_8.out) hb) (Kd.R_below (kr HO_9.out) hb) (Kd.R_below (kr HO_10.out) hb) (Kd.R_below (kr HO_11.out) hb) (Kd.R_below (kr HO_12.out) hb) (Kd.C_below (by repeat (first | (with_reducible exact HR222.out) | (with_reducible refine Kd.C_alloc ?_ _) | (with_reducible refine Kd.C_drewN ?_ _) | (with_reducible refine Kd.C_drew ?_) | exact HR222.out)) hb) (Kd.C_below (by repeat (first | (with_reducible exact HR226.out) | (with_reducible refine Kd.C_alloc ?_ _) | (with_reducible refine Kd.C_drewN ?_ _) | (with_reducible refine Kd.C_drew ?_) | exact HR226.out)) hb) (Kd.C_below (by repeat (first | (with_reducible exact HR230.out) | (with_reducible refine Kd.C_alloc ?_ _) | (with_reducible refine Kd.C_drewN ?_ _) | (with_reducible refine Kd.C_drew ?_) | exact HR230.out)) hb) (below_step (be HB.out) hb) ?_
                      clear HO_8 HO_9 HO_10 HO_11 HO_12 HR222 HR226 HR230 HB
                      intro HO_8 HO_9 HO_10 HO_11 HO_12 HR222 HR226 HR230 HB
                      (try clear hb)
                      (try clear hb2)
                      (try clear hk)
                      (try clear hi)
                      refine hK.out _ _ trivial (fun hHeld => ?_)
                      clear hK K
                      refine nm 86 ?_
                      refine pu 13 73 (fb 18 16383) HT_ ?_
                      refine pu 14 87 (fb 18 32767) HT_ ?_
                      refine pu 15 88 (fb 18 65535) HT_ ?_
                      refine pu 16 20 (fb 18 131071) HT_ ?_
                      refine pu 17 21 (fb 18 262143) HT_ ?_
                      refine done_ (done_of HT_.out (by kernel_rfl)) ?_
                      try go_wp2
                      go_ret2
                      exact ⟨Ye2, be HB.out⟩
                    ·rw [if_neg c39] at H
                     exact absurd H (by simp)
                   ·rw [if_neg c38] at H
                    exact absurd H (by simp)
                  ·rw [if_neg c37] at H
                   exact absurd H (by simp)
                 ·rw [if_neg c36] at H
                  exact absurd H (by simp)
                ·rw [if_neg c35] at H
                 exact absurd H (by simp)
               ·rw [if_neg c34] at H
                exact absurd H (by simp)
              ·rw [if_neg c33] at H
               exact absurd H (by simp)
             ·rw [if_neg c32] at H
              exact absurd H (by simp)
            ·rw [if_neg c31] at H
             exact absurd H (by simp)
      ·rw [if_neg c21] at H
       have c21b0 : decide (x17_2 ≤ (t202.length : Int)) = false := decide_eq_false c21
       clear c21
       simp only [Option.some.injEq, Prod.mk.injEq] at H
       obtain ⟨rfl, rfl⟩ := H
       go_wp2
       go_ret2
       exact ⟨Ye2, be HB.out⟩

end Go.Proofs.YtkmfnmeilooogaaDoor.P

