/- Several texts of this claim in one file: YtknagppkeodggaaDoorPSpecL1RdPick, YtknagppkeodggaaDoorPSpecL1Text, YtknagppkeodggaaDoorPSpecL4Spoil, YtknagppkeodggaaDoorPSpecL4Path, YtknagppkeodggaaDoorPSpecL5Draw. -/
import Derived.Test.YtknagppkeodggaaDoorM2
import Derived.Test.YtknagppkeodggaaDoorM3
import Derived.Test.YtknagppkeodggaaDoorM4
import Derived.Test.YtknagppkeodggaaDoorM7
import Derived.Test.YtknagppkeodggaaDoorM5
namespace Go.Proofs.YtknagppkeodggaaDoor.P
open Go.RowKit Go.Proofs.YtknagppkeodggaaDoorW.PrintWords Go.Proofs.YtknagppkeodggaaDoorW.PrintLast Go.Proofs.YtknagppkeodggaaDoorW.PrintMore
attribute [local go_sem] max2_int min2_int max_two min_two max_three min_three max_four min_four
set_option linter.unusedVariables false
set_option linter.unusedSimpArgs false

/-! ### spec_l1Rd_pick: function 66 -/
def spec_l1Rd_pick.j0 : Nat → Int → Bool → List Int → Int → Option (Int × Int)
 | 0, _, _, _, _ => none
 | k + 1, x1, x24, a3, a4 => if x24 = true then (some (0, a4)) else (if (wrap64 (a4 - 1)) < (a3.length : Int) then (if 0 ≤ (wrap64 (a4 - 1)) then (if x1 = 0 then (none) else (some (Int.tmod (wrap64 (rd a3 (wrap64 (a4 - 1)))) x1, a4))) else (none)) else (if (a3.length : Int) = 0 then (none) else (if 0 ≤ (Int.tmod (wrap64 (a4 - 1)) (a3.length : Int)) then (if (Int.tmod (wrap64 (a4 - 1)) (a3.length : Int)) < (a3.length : Int) then (if 0 ≤ (Int.tmod (wrap64 ((wrap64 ((wrap64 (a4 - 1)) * 7)) + 3)) (a3.length : Int)) then (if (Int.tmod (wrap64 ((wrap64 ((wrap64 (a4 - 1)) * 7)) + 3)) (a3.length : Int)) < (a3.length : Int) then (if x1 = 0 then (none) else (some (Int.tmod (Go.bits .xor .i64 (wrap64 ((wrap64 ((wrap64 ((wrap64 ((wrap64 (rd a3 (Int.tmod (wrap64 (a4 - 1)) (a3.length : Int)))) * 131)) + (wrap64 ((wrap64 (rd a3 (Int.tmod (wrap64 ((wrap64 ((wrap64 (a4 - 1)) * 7)) + 3)) (a3.length : Int)))) * 1117)))) + (wrap64 ((wrap64 (a4 - 1)) * 29)))) + (wrap64 ((wrap64 (Int.tdiv (wrap64 (a4 - 1)) (a3.length : Int))) * 53)))) (wrap64 (Int.tdiv (wrap64 ((wrap64 ((wrap64 ((wrap64 ((wrap64 (rd a3 (Int.tmod (wrap64 (a4 - 1)) (a3.length : Int)))) * 131)) + (wrap64 ((wrap64 (rd a3 (Int.tmod (wrap64 ((wrap64 ((wrap64 (a4 - 1)) * 7)) + 3)) (a3.length : Int)))) * 1117)))) + (wrap64 ((wrap64 (a4 - 1)) * 29)))) + (wrap64 ((wrap64 (Int.tdiv (wrap64 (a4 - 1)) (a3.length : Int))) * 53)))) 64))) x1, a4))) else (none)) else (none)) else (none)) else (none))))
def spec_l1Rd_pick.f (k : Nat) (s0_0 : List Int) (s0_1 : Int) (a1 : Int) : Option (Int × Int) := if a1 < 1 then (spec_l1Rd_pick.j0 k a1 true s0_0 (wrap64 (s0_1 + 1))) else (spec_l1Rd_pick.j0 k a1 ((s0_0.length : Int) == 0) s0_0 (wrap64 (s0_1 + 1)))
theorem spec_l1Rd_pick.mono_l : ∀ k, (∀ y0 y1 y2 y3, LeO (spec_l1Rd_pick.j0 k y0 y1 y2 y3) (spec_l1Rd_pick.j0 (k + 1) y0 y1 y2 y3))
 | 0 => fun _ _ _ _ r h => by simp [spec_l1Rd_pick.j0] at h
 | k + 1 => by
  have ih0 := spec_l1Rd_pick.mono_l k
  ·intro y0 y1 y2 y3
   unfold spec_l1Rd_pick.j0
   repeat' first
   | (with_reducible exact ih0 _ _ _ _)
   | (with_reducible exact LeO.refl _)
   | (with_reducible exact LeO.none _)
   | (with_reducible refine LeO.ite ?_ ?_)
   | (with_reducible refine LeO.bind ?_ (fun _ => ?_))
   | exact ih0 _ _ _ _
   | exact LeO.none _
   | refine LeO.ite ?_ ?_
   | refine LeO.bind ?_ (fun _ => ?_)
theorem spec_l1Rd_pick.mono : ∀ a0 a1 a2 k, LeO (spec_l1Rd_pick.f k a0 a1 a2) (spec_l1Rd_pick.f (k + 1) a0 a1 a2) := by
 intro a0 a1 a2 k; have ih0 := spec_l1Rd_pick.mono_l k
 unfold spec_l1Rd_pick.f
 repeat' first
   | (with_reducible exact ih0 _ _ _ _)
   | (with_reducible exact LeO.refl _)
   | (with_reducible exact LeO.none _)
   | (with_reducible refine LeO.ite ?_ ?_)
   | (with_reducible refine LeO.bind ?_ (fun _ => ?_))
   | exact ih0 _ _ _ _
   | exact LeO.none _
   | refine LeO.ite ?_ ?_
   | refine LeO.bind ?_ (fun _ => ?_)
set_option maxHeartbeats 8000000 in
set_option maxRecDepth 100000 in
theorem spec_l1Rd_pick.calls (k : Nat) (g : Nat) (s0_0 : List Int) (s0_1 : Int) (a1 : Int) (r1 : Int) (r2 : Int) (w0 w : World) (hI : IsS173 w0 w g s0_0 s0_1) (hB : Below w0.heap.size w0 w) (h : spec_l1Rd_pick.f k s0_0 s0_1 a1 = some (r1, r2)) :
  Calls Tryd.prog 66 #[.pointer (some ⟨g, 0, none⟩), .int .i64 a1] w fun e w' => e = .returned (.int .i64 r1) ∧ IsS173 w0 w' g s0_0 r2 ∧ Below w0.heap.size w0 w' ∧ KeepBut w w' g none := by
 have a5 := Aside0.mk hI; have HK := Aside0.mk (KeepBut.refl w g none); have HL := Aside0.mk hB.size; clear hI; have HW0 := Aside0.mk hB.size; have HB := Aside0.mk hB; clear hB; have H : (if a1 < 1 then (spec_l1Rd_pick.j0 k a1 true s0_0 (wrap64 (s0_1 + 1))) else (spec_l1Rd_pick.j0 k a1 ((s0_0.length : Int) == 0) s0_0 (wrap64 (s0_1 + 1)))) = some (r1, r2) := h; clear h; have aj := Aside0.mk H; clear H; obtain ⟨ASz4_0, cSz4_0, HGz4, hgz4, HSz4_0⟩ := a5.out; have ay := cellS173_0 HGz4; have az := cellS173_1 HGz4; have aA := blk_frozen HGz4 1; clear HGz4 hgz4
 go_enter Tryd.func66, Tryd.ntmps66
 go_upto_region 2 with (fail)
 repeat (go_quiet (fail); go_upto_region 2 with (fail))
 go_cut [24] (fun v24 wc => ∃ (kq : Nat) (ac : Bool), v24 = .bool ac ∧ Aside0 (spec_l1Rd_pick.j0 kq a1 ac s0_0 (wrap64 (s0_1 + 1)) = some (r1, r2)) ∧ Aside0 (kq ≤ k) ∧ Aside0 (IsS173 w0 wc g s0_0 (wrap64 (s0_1 + 1))) ∧ Aside0 (KeepBut w wc g none) ∧ Aside0 (Below w0.heap.size w0 wc))
 case first =>
  have H := aj.out; clear aj
  by_cases c5 : a1 < 1
  ·rw [if_pos c5] at H
   have a9 : decide (a1 < 1) = true := decide_eq_true c5; clear c5; (first | rw [a9] | (simp only [i64_w, i32_w]; rw [a9]) | skip); have H' := Aside0.mk H; clear H
   go_wp2
   repeat (go_quiet (fail); try go_wp2)
   go_meet
   case rel => exact ⟨_, (true), Ye1, H', ⟨by first | omega | exact Nat.le_refl _⟩, ⟨iq173 a5.out⟩, ⟨kb HK.out⟩, ⟨bq173 HB.out a5.out⟩⟩
  ·rw [if_neg c5] at H
   have a9 : decide (a1 < 1) = false := decide_eq_false c5; clear c5; (first | rw [a9] | (simp only [i64_w, i32_w]; rw [a9]) | skip); have H' := Aside0.mk H; clear H; obtain ⟨ASz6_0, cSz6_0, HGz6, hgz6, HSz6_0⟩ := a5.out; have aB := cellS173_0 HGz6; have aC := cellS173_1 HGz6; have aD := blk_frozen HGz6 1; clear HGz6 hgz6
   go_wp2
   repeat (go_quiet (fail); try go_wp2)
   go_meet
   case rel => exact ⟨_, (((s0_0.length : Int) == 0)), Ye1, H', ⟨by first | omega | exact Nat.le_refl _⟩, ⟨iq173 a5.out⟩, ⟨kb HK.out⟩, ⟨bq173 HB.out a5.out⟩⟩
 case rest =>
  clear aj; (try clear p2); (try clear c5); (try clear a9); (try clear c6); (try clear p6); (try clear ay); (try clear az); (try clear aB); (try clear aC); (try clear aA); (try clear aD); obtain ⟨kq, ac, rfl, HA, HJ2, a5, HK, HB⟩ := hcut
  cases kq with
  | zero => exact absurd HA.out (by simp [spec_l1Rd_pick.j0])
  | succ kj2 =>
   have H := HA.out; clear HA; simp only [spec_l1Rd_pick.j0] at H
   by_cases c7 : ac = true
   ·subst c7
    have H1 : (some (0, (wrap64 (s0_1 + 1)))) = some (r1, r2) := by rw [if_pos rfl] at H; exact H
    clear H; have H := H1; clear H1; simp only [Option.some.injEq, Prod.mk.injEq] at H; obtain ⟨rfl, rfl⟩ := H
    go_wp2
    repeat (go_quiet (fail); try go_wp2)
    go_ret
    exact ⟨Ye2, iq173 a5.out, bq173 HB.out a5.out, kb HK.out⟩
   ·replace c7 := Bool.eq_false_iff.mpr c7; subst c7
    have H1 : (if (wrap64 ((wrap64 (s0_1 + 1)) - 1)) < (s0_0.length : Int) then (if 0 ≤ (wrap64 ((wrap64 (s0_1 + 1)) - 1)) then (if a1 = 0 then (none) else (some (Int.tmod (wrap64 (rd s0_0 (wrap64 ((wrap64 (s0_1 + 1)) - 1)))) a1, (wrap64 (s0_1 + 1))))) else (none)) else (if (s0_0.length : Int) = 0 then (none) else (if 0 ≤ (Int.tmod (wrap64 ((wrap64 (s0_1 + 1)) - 1)) (s0_0.length : Int)) then (if (Int.tmod (wrap64 ((wrap64 (s0_1 + 1)) - 1)) (s0_0.length : Int)) < (s0_0.length : Int) then (if 0 ≤ (Int.tmod (wrap64 ((wrap64 ((wrap64 ((wrap64 (s0_1 + 1)) - 1)) * 7)) + 3)) (s0_0.length : Int)) then (if (Int.tmod (wrap64 ((wrap64 ((wrap64 ((wrap64 (s0_1 + 1)) - 1)) * 7)) + 3)) (s0_0.length : Int)) < (s0_0.length : Int) then (if a1 = 0 then (none) else (some (Int.tmod (Go.bits .xor .i64 (wrap64 ((wrap64 ((wrap64 ((wrap64 ((wrap64 (rd s0_0 (Int.tmod (wrap64 ((wrap64 (s0_1 + 1)) - 1)) (s0_0.length : Int)))) * 131)) + (wrap64 ((wrap64 (rd s0_0 (Int.tmod (wrap64 ((wrap64 ((wrap64 ((wrap64 (s0_1 + 1)) - 1)) * 7)) + 3)) (s0_0.length : Int)))) * 1117)))) + (wrap64 ((wrap64 ((wrap64 (s0_1 + 1)) - 1)) * 29)))) + (wrap64 ((wrap64 (Int.tdiv (wrap64 ((wrap64 (s0_1 + 1)) - 1)) (s0_0.length : Int))) * 53)))) (wrap64 (Int.tdiv (wrap64 ((wrap64 ((wrap64 ((wrap64 ((wrap64 (rd s0_0 (Int.tmod (wrap64 ((wrap64 (s0_1 + 1)) - 1)) (s0_0.length : Int)))) * 131)) + (wrap64 ((wrap64 (rd s0_0 (Int.tmod (wrap64 ((wrap64 ((wrap64 ((wrap64 (s0_1 + 1)) - 1)) * 7)) + 3)) (s0_0.length : Int)))) * 1117)))) + (wrap64 ((wrap64 ((wrap64 (s0_1 + 1)) - 1)) * 29)))) + (wrap64 ((wrap64 (Int.tdiv (wrap64 ((wrap64 (s0_1 + 1)) - 1)) (s0_0.length : Int))) * 53)))) 64))) a1, (wrap64 (s0_1 + 1))))) else (none)) else (none)) else (none)) else (none)))) = some (r1, r2) := by rw [if_neg (show ¬ (false = true) by decide)] at H; exact H
    clear H; have H := H1; clear H1
    by_cases c8 : (wrap64 ((wrap64 (s0_1 + 1)) - 1)) < (s0_0.length : Int)
    ·rw [if_pos c8] at H
     have au : decide ((wrap64 ((wrap64 (s0_1 + 1)) - 1)) < (s0_0.length : Int)) = true := decide_eq_true c8; clear c8
     obtain ⟨a8, aa⟩ : ∃ j_ : Int, (wrap64 ((wrap64 (s0_1 + 1)) - 1)) = j_ := ⟨_, rfl⟩
     replace H : (if 0 ≤ (a8) then (if a1 = 0 then (none) else (some (Int.tmod (wrap64 (rd s0_0 (a8))) a1, (wrap64 (s0_1 + 1))))) else (none)) = some (r1, r2) := by first | (rw [aa] at H; exact H) | (simp only [aa] at H ⊢; exact H)
     (try rw [aa] at au); have hji9w : (IntKind.i64.wrap ((wrap64 (s0_1 + 1)) - 1)) = a8 := (i64_w _).trans aa
     by_cases c10 : 0 ≤ (a8)
     ·rw [if_pos c10] at H
      have c10b0 : decide (0 ≤ (a8)) = true := decide_eq_true c10; clear c10
      by_cases ad : a1 = 0
      ·rw [if_pos ad] at H
       exact absurd H (by simp)
      ·rw [if_neg ad] at H
       have c11b0 : (a1 == 0) = false := beq_eq_false_iff_ne.mpr ad; have c11b1 : (a1 != 0) = true := bne_iff_ne.mpr ad; simp only [Option.some.injEq, Prod.mk.injEq] at H; obtain ⟨rfl, rfl⟩ := H; obtain ⟨ASz12_0, cSz12_0, HGz12, hgz12, HSz12_0⟩ := a5.out; have aJ := cellS173_0 HGz12; have aK := cellS173_1 HGz12; have aL := blk_frozen HGz12 1; clear HGz12 hgz12; have ak : 0 ≤ ((a8) : Int) := oda; have al : (a8) < (s0_0.length : Int) := oda; obtain ⟨ad104, aE, av⟩ := Kd.at_int HSz12_0 (a8) ak al
       cases aE
       replace av := pw_cell_below HB.out av; replace ak := eq_true ak; replace al := eq_true al
       go_wp2
       repeat (go_quiet (fail); try go_wp2)
       go_ret
       exact ⟨by first | rfl | (simp [errW_none, errW_some] <;> rfl) | (simp only [← aa]; first | rfl | (simp [errW_none, errW_some] <;> rfl)) | (simp [*, errW_none, errW_some] <;> rfl), iq173 a5.out, bq173 HB.out a5.out, kb HK.out⟩
     ·rw [if_neg c10] at H
      exact absurd H (by simp)
    ·rw [if_neg c8] at H
     have au : decide ((wrap64 ((wrap64 (s0_1 + 1)) - 1)) < (s0_0.length : Int)) = false := decide_eq_false c8; clear c8
     by_cases ab : (s0_0.length : Int) = 0
     ·rw [if_pos ab] at H
      exact absurd H (by simp)
     ·rw [if_neg ab] at H
      have c13b0 : ((s0_0.length : Int) == 0) = false := beq_eq_false_iff_ne.mpr ab; have c13b1 : ((s0_0.length : Int) != 0) = true := bne_iff_ne.mpr ab
      have c13b2 : ¬ (s0_0 = []) := fun h_ => ab (by rw [h_]; rfl)
      obtain ⟨a6, am⟩ : ∃ j_ : Int, (Int.tmod (wrap64 ((wrap64 (s0_1 + 1)) - 1)) (s0_0.length : Int)) = j_ := ⟨_, rfl⟩
      replace H : (if 0 ≤ (a6) then (if (a6) < (s0_0.length : Int) then (if 0 ≤ (Int.tmod (wrap64 ((wrap64 ((wrap64 ((wrap64 (s0_1 + 1)) - 1)) * 7)) + 3)) (s0_0.length : Int)) then (if (Int.tmod (wrap64 ((wrap64 ((wrap64 ((wrap64 (s0_1 + 1)) - 1)) * 7)) + 3)) (s0_0.length : Int)) < (s0_0.length : Int) then (if a1 = 0 then (none) else (some (Int.tmod (Go.bits .xor .i64 (wrap64 ((wrap64 ((wrap64 ((wrap64 ((wrap64 (rd s0_0 (a6))) * 131)) + (wrap64 ((wrap64 (rd s0_0 (Int.tmod (wrap64 ((wrap64 ((wrap64 ((wrap64 (s0_1 + 1)) - 1)) * 7)) + 3)) (s0_0.length : Int)))) * 1117)))) + (wrap64 ((wrap64 ((wrap64 (s0_1 + 1)) - 1)) * 29)))) + (wrap64 ((wrap64 (Int.tdiv (wrap64 ((wrap64 (s0_1 + 1)) - 1)) (s0_0.length : Int))) * 53)))) (wrap64 (Int.tdiv (wrap64 ((wrap64 ((wrap64 ((wrap64 ((wrap64 (rd s0_0 (a6))) * 131)) + (wrap64 ((wrap64 (rd s0_0 (Int.tmod (wrap64 ((wrap64 ((wrap64 ((wrap64 (s0_1 + 1)) - 1)) * 7)) + 3)) (s0_0.length : Int)))) * 1117)))) + (wrap64 ((wrap64 ((wrap64 (s0_1 + 1)) - 1)) * 29)))) + (wrap64 ((wrap64 (Int.tdiv (wrap64 ((wrap64 (s0_1 + 1)) - 1)) (s0_0.length : Int))) * 53)))) 64))) a1, (wrap64 (s0_1 + 1))))) else (none)) else (none)) else (none)) else (none)) = some (r1, r2) := by first | (rw [am] at H; exact H) | (simp only [am] at H ⊢; exact H)
      by_cases ae : 0 ≤ (a6)
      ·rw [if_pos ae] at H
       have c15b0 : decide (0 ≤ (a6)) = true := decide_eq_true ae; clear ae
       by_cases af : (a6) < (s0_0.length : Int)
       ·rw [if_pos af] at H
        have c16b0 : decide ((a6) < (s0_0.length : Int)) = true := decide_eq_true af; clear af
        obtain ⟨a7, an⟩ : ∃ j_ : Int, (Int.tmod (wrap64 ((wrap64 ((wrap64 ((wrap64 (s0_1 + 1)) - 1)) * 7)) + 3)) (s0_0.length : Int)) = j_ := ⟨_, rfl⟩
        replace H : (if 0 ≤ (a7) then (if (a7) < (s0_0.length : Int) then (if a1 = 0 then (none) else (some (Int.tmod (Go.bits .xor .i64 (wrap64 ((wrap64 ((wrap64 ((wrap64 ((wrap64 (rd s0_0 (a6))) * 131)) + (wrap64 ((wrap64 (rd s0_0 (a7))) * 1117)))) + (wrap64 ((wrap64 ((wrap64 (s0_1 + 1)) - 1)) * 29)))) + (wrap64 ((wrap64 (Int.tdiv (wrap64 ((wrap64 (s0_1 + 1)) - 1)) (s0_0.length : Int))) * 53)))) (wrap64 (Int.tdiv (wrap64 ((wrap64 ((wrap64 ((wrap64 ((wrap64 (rd s0_0 (a6))) * 131)) + (wrap64 ((wrap64 (rd s0_0 (a7))) * 1117)))) + (wrap64 ((wrap64 ((wrap64 (s0_1 + 1)) - 1)) * 29)))) + (wrap64 ((wrap64 (Int.tdiv (wrap64 ((wrap64 (s0_1 + 1)) - 1)) (s0_0.length : Int))) * 53)))) 64))) a1, (wrap64 (s0_1 + 1))))) else (none)) else (none)) = some (r1, r2) := by first | (rw [an] at H; exact H) | (simp only [an] at H ⊢; exact H)
        by_cases ag : 0 ≤ (a7)
        ·rw [if_pos ag] at H
         have c18b0 : decide (0 ≤ (a7)) = true := decide_eq_true ag; clear ag
         by_cases ah : (a7) < (s0_0.length : Int)
         ·rw [if_pos ah] at H
          have c19b0 : decide ((a7) < (s0_0.length : Int)) = true := decide_eq_true ah; clear ah
          by_cases ai : a1 = 0
          ·rw [if_pos ai] at H
           exact absurd H (by simp)
          ·rw [if_neg ai] at H
           have c20b0 : (a1 == 0) = false := beq_eq_false_iff_ne.mpr ai; have c20b1 : (a1 != 0) = true := bne_iff_ne.mpr ai; simp only [Option.some.injEq, Prod.mk.injEq] at H; obtain ⟨rfl, rfl⟩ := H; obtain ⟨ASz21_0, cSz21_0, HGz21, hgz21, HSz21_0⟩ := a5.out; have aM := cellS173_0 HGz21; have aN := cellS173_1 HGz21; have aO := blk_frozen HGz21 1; clear HGz21 hgz21; have ao : 0 ≤ ((a6) : Int) := oda; have ap : (a6) < (s0_0.length : Int) := oda; obtain ⟨aF, aG, aw⟩ := Kd.at_int HSz21_0 (a6) ao ap
           cases aG
           replace aw := pw_cell_below HB.out aw; replace ao := eq_true ao; replace ap := eq_true ap; have aq : 0 ≤ ((a7) : Int) := oda; have ar : (a7) < (s0_0.length : Int) := oda; obtain ⟨aH, aI, ax⟩ := Kd.at_int HSz21_0 (a7) aq ar
           obtain rfl : aF = aH := (by injection aI)
           replace ax := pw_cell_below HB.out ax; replace aq := eq_true aq; replace ar := eq_true ar
           go_wp2
           repeat (go_quiet (fail); try go_wp2)
           go_ret
           exact ⟨by first | rfl | (simp [errW_none, errW_some] <;> rfl) | (simp only [← am, ← an]; first | rfl | (simp [errW_none, errW_some] <;> rfl)) | (simp [*, errW_none, errW_some] <;> rfl), iq173 a5.out, bq173 HB.out a5.out, kb HK.out⟩
         ·rw [if_neg ah] at H
          exact absurd H (by simp)
        ·rw [if_neg ag] at H
         exact absurd H (by simp)
       ·rw [if_neg af] at H
        exact absurd H (by simp)
      ·rw [if_neg ae] at H
       exact absurd H (by simp)

end Go.Proofs.YtknagppkeodggaaDoor.P


namespace Go.Proofs.YtknagppkeodggaaDoor.P
open Go.RowKit Go.Proofs.YtknagppkeodggaaDoorW.PrintWords Go.Proofs.YtknagppkeodggaaDoorW.PrintLast Go.Proofs.YtknagppkeodggaaDoorW.PrintMore
attribute [local go_sem] max2_int min2_int max_two min_two max_three min_three max_four min_four
set_option linter.unusedVariables false
set_option linter.unusedSimpArgs false

/-! ### spec_l1Text: function 65 -/
def spec_l1Text.l0 : Nat → ByteArray → Int → List Int → Int → Option (ByteArray × Int)
 | 0, _, _, _, _ => none
 | k + 1, x3, x4, aj, ak => if x4 > 0 then ((spec_l1Rd_pick.f k aj ak 4).bind fun bt168 => (if 0 ≤ bt168.1 then (if bt168.1 ≤ 4 then (if 0 ≤ 1 then (if 1 ≤ (((⟨#[97, 98, 99, 100]⟩ : ByteArray).extract (bt168.1 : Int).toNat (⟨#[97, 98, 99, 100]⟩ : ByteArray).size).size : Int) then (if x3.size + (((⟨#[97, 98, 99, 100]⟩ : ByteArray).extract (bt168.1 : Int).toNat (⟨#[97, 98, 99, 100]⟩ : ByteArray).size).extract 0 1).size ≤ 9223372036854775807 then (if (x3 ++ (((⟨#[97, 98, 99, 100]⟩ : ByteArray).extract (bt168.1 : Int).toNat (⟨#[97, 98, 99, 100]⟩ : ByteArray).size).extract 0 1)).size + 1 ≤ 9223372036854775807 then (spec_l1Text.l0 k ((x3 ++ (((⟨#[97, 98, 99, 100]⟩ : ByteArray).extract (bt168.1 : Int).toNat (⟨#[97, 98, 99, 100]⟩ : ByteArray).size).extract 0 1)) ++ (⟨#[10]⟩ : ByteArray)) (wrap64 (x4 - 1)) aj bt168.2) else (none)) else (none)) else (none)) else (none)) else (none)) else (none))) else (some (x3, ak))
def spec_l1Text.f (k : Nat) (s0_0 : List Int) (s0_1 : Int) : Option (ByteArray × Int) := (spec_l1Rd_pick.f k s0_0 s0_1 9).bind fun bt164 => (if bt164.1 = 0 then (some ((⟨#[]⟩ : ByteArray), bt164.2)) else (if bt164.1 = 1 then (some ((⟨#[255, 0]⟩ : ByteArray), bt164.2)) else (if bt164.1 = 2 then (some ((⟨#[110, 111, 32, 110, 101, 119, 108, 105, 110, 101]⟩ : ByteArray), bt164.2)) else ((spec_l1Rd_pick.f k s0_0 bt164.2 7).bind fun bt166 => (spec_l1Text.l0 k (⟨#[]⟩ : ByteArray) bt166.1 s0_0 bt166.2)))))
theorem spec_l1Text.mono_l : ∀ k, (∀ y0 y1 y2 y3, LeO (spec_l1Text.l0 k y0 y1 y2 y3) (spec_l1Text.l0 (k + 1) y0 y1 y2 y3))
 | 0 => fun _ _ _ _ r h => by simp [spec_l1Text.l0] at h
 | k + 1 => by
  have ih0 := spec_l1Text.mono_l k
  ·intro y0 y1 y2 y3
   unfold spec_l1Text.l0
   repeat' first
   | (with_reducible exact ih0 _ _ _ _)
   | (with_reducible exact spec_l1Rd_pick.mono _ _ _ _)
   | (with_reducible exact LeO.refl _)
   | (with_reducible exact LeO.none _)
   | (with_reducible refine LeO.ite ?_ ?_)
   | (with_reducible refine LeO.bind ?_ (fun _ => ?_))
   | exact ih0 _ _ _ _
   | exact spec_l1Rd_pick.mono _ _ _ _
   | exact LeO.none _
   | refine LeO.ite ?_ ?_
   | refine LeO.bind ?_ (fun _ => ?_)
theorem spec_l1Text.mono : ∀ a0 a1 k, LeO (spec_l1Text.f k a0 a1) (spec_l1Text.f (k + 1) a0 a1) := by
 intro a0 a1 k; have ih0 := spec_l1Text.mono_l k
 unfold spec_l1Text.f
 repeat' first
   | (with_reducible exact ih0 _ _ _ _)
   | (with_reducible exact spec_l1Rd_pick.mono _ _ _ _)
   | (with_reducible exact LeO.refl _)
   | (with_reducible exact LeO.none _)
   | (with_reducible refine LeO.ite ?_ ?_)
   | (with_reducible refine LeO.bind ?_ (fun _ => ?_))
   | exact ih0 _ _ _ _
   | exact spec_l1Rd_pick.mono _ _ _ _
   | exact LeO.none _
   | refine LeO.ite ?_ ?_
   | refine LeO.bind ?_ (fun _ => ?_)
set_option maxHeartbeats 8000000 in
set_option maxRecDepth 100000 in
theorem spec_l1Text.calls (k : Nat) (g : Nat) (s0_0 : List Int) (s0_1 : Int) (r1 : ByteArray) (r2 : Int) (w0 w : World) (hI : IsS173 w0 w g s0_0 s0_1) (hB : Below w0.heap.size w0 w) (h : spec_l1Text.f k s0_0 s0_1 = some (r1, r2)) :
  Calls Tryd.prog 65 #[.pointer (some ⟨g, 0, none⟩)] w fun e w' => e = .returned (.string r1) ∧ IsS173 w0 w' g s0_0 r2 ∧ Below w0.heap.size w0 w' ∧ KeepBut w w' g none := by
 have a2 := Aside0.mk hI; have HK := Aside0.mk (KeepBut.refl w g none); have HL := Aside0.mk hB.size; clear hI; have HW0 := Aside0.mk hB.size; have HB := Aside0.mk hB; clear hB; have H : ((spec_l1Rd_pick.f k s0_0 s0_1 9).bind fun bt164 => (if bt164.1 = 0 then (some ((⟨#[]⟩ : ByteArray), bt164.2)) else (if bt164.1 = 1 then (some ((⟨#[255, 0]⟩ : ByteArray), bt164.2)) else (if bt164.1 = 2 then (some ((⟨#[110, 111, 32, 110, 101, 119, 108, 105, 110, 101]⟩ : ByteArray), bt164.2)) else ((spec_l1Rd_pick.f k s0_0 bt164.2 7).bind fun bt166 => (spec_l1Text.l0 k (⟨#[]⟩ : ByteArray) bt166.1 s0_0 bt166.2)))))) = some (r1, r2) := h; clear h; replace H := Option.bind_eq_some_iff.mp H; obtain ⟨⟨a4, a6⟩, A20, H⟩ := H; replace H : (if a4 = 0 then (some ((⟨#[]⟩ : ByteArray), a6)) else (if a4 = 1 then (some ((⟨#[255, 0]⟩ : ByteArray), a6)) else (if a4 = 2 then (some ((⟨#[110, 111, 32, 110, 101, 119, 108, 105, 110, 101]⟩ : ByteArray), a6)) else ((spec_l1Rd_pick.f k s0_0 a6 7).bind fun bt166 => (spec_l1Text.l0 k (⟨#[]⟩ : ByteArray) bt166.1 s0_0 bt166.2))))) = some (r1, r2) := H; have A2 := Aside0.mk A20; clear A20
 by_cases c3 : a4 = 0
 ·rw [if_pos c3] at H
  have al : (a4 == 0) = true := beq_iff_eq.mpr c3; have am : (a4 != 0) = false := bne_eq_false_iff_eq.mpr c3; clear c3; simp only [Option.some.injEq, Prod.mk.injEq] at H; obtain ⟨rfl, rfl⟩ := H
  go_enter Tryd.func65, Tryd.ntmps65
  go_wp2_with (first | ((with_reducible refine gc 66 rfl ?_); refine gl (some 6) _ (#[.pointer (some ⟨g, 0, none⟩), .int .i64 9]) Tryd.func66 ?_; (with_reducible refine (spec_l1Rd_pick.calls k g s0_0 s0_1 9 a4 a6 w0 _ ?side1 ?side2 A2.out).mono ?_); (case side1 => exact iq173 a2.out); (case side2 => exact bq173 HB.out a2.out); rintro e w4 ⟨rfl, hi, hb, hk⟩; refine ⟨_, rfl, ?_⟩; refine Ya3 (KeepBut.trans (kb HK.out) hk (.inl rfl)) (hb) (hi) ?_; clear HK HB a2; intro HK HB a2; (try clear hb); (try clear hb2); (try clear hk); (try clear hi)))
  go_ret
  exact ⟨Ye2, iq173 a2.out, bq173 HB.out a2.out, kb HK.out⟩
 ·rw [if_neg c3] at H
  have al : (a4 == 0) = false := beq_eq_false_iff_ne.mpr c3; have am : (a4 != 0) = true := bne_iff_ne.mpr c3
  by_cases c5 : a4 = 1
  ·rw [if_pos c5] at H
   have an : (a4 == 1) = true := beq_iff_eq.mpr c5; have ao : (a4 != 1) = false := bne_eq_false_iff_eq.mpr c5; clear c5; simp only [Option.some.injEq, Prod.mk.injEq] at H; obtain ⟨rfl, rfl⟩ := H
   go_enter Tryd.func65, Tryd.ntmps65
   go_wp2_with (first | ((with_reducible refine gc 66 rfl ?_); refine gl (some 6) _ (#[.pointer (some ⟨g, 0, none⟩), .int .i64 9]) Tryd.func66 ?_; (with_reducible refine (spec_l1Rd_pick.calls k g s0_0 s0_1 9 a4 a6 w0 _ ?side1 ?side2 A2.out).mono ?_); (case side1 => exact iq173 a2.out); (case side2 => exact bq173 HB.out a2.out); rintro e w6 ⟨rfl, hi, hb, hk⟩; refine ⟨_, rfl, ?_⟩; refine Ya3 (KeepBut.trans (kb HK.out) hk (.inl rfl)) (hb) (hi) ?_; clear HK HB a2; intro HK HB a2; (try clear hb); (try clear hb2); (try clear hk); (try clear hi)))
   go_ret
   exact ⟨Ye2, iq173 a2.out, bq173 HB.out a2.out, kb HK.out⟩
  ·rw [if_neg c5] at H
   have an : (a4 == 1) = false := beq_eq_false_iff_ne.mpr c5; have ao : (a4 != 1) = true := bne_iff_ne.mpr c5
   by_cases c7 : a4 = 2
   ·rw [if_pos c7] at H
    have ap : (a4 == 2) = true := beq_iff_eq.mpr c7; have aq : (a4 != 2) = false := bne_eq_false_iff_eq.mpr c7; clear c7; simp only [Option.some.injEq, Prod.mk.injEq] at H; obtain ⟨rfl, rfl⟩ := H
    go_enter Tryd.func65, Tryd.ntmps65
    go_wp2_with (first | ((with_reducible refine gc 66 rfl ?_); refine gl (some 6) _ (#[.pointer (some ⟨g, 0, none⟩), .int .i64 9]) Tryd.func66 ?_; (with_reducible refine (spec_l1Rd_pick.calls k g s0_0 s0_1 9 a4 a6 w0 _ ?side1 ?side2 A2.out).mono ?_); (case side1 => exact iq173 a2.out); (case side2 => exact bq173 HB.out a2.out); rintro e w8 ⟨rfl, hi, hb, hk⟩; refine ⟨_, rfl, ?_⟩; refine Ya3 (KeepBut.trans (kb HK.out) hk (.inl rfl)) (hb) (hi) ?_; clear HK HB a2; intro HK HB a2; (try clear hb); (try clear hb2); (try clear hk); (try clear hi)))
    go_ret
    exact ⟨Ye2, iq173 a2.out, bq173 HB.out a2.out, kb HK.out⟩
   ·rw [if_neg c7] at H
    have ap : (a4 == 2) = false := beq_eq_false_iff_ne.mpr c7; have aq : (a4 != 2) = true := bne_iff_ne.mpr c7; replace H := Option.bind_eq_some_iff.mp H; obtain ⟨⟨ag, ah⟩, A90, H⟩ := H; replace H : (spec_l1Text.l0 k (⟨#[]⟩ : ByteArray) ag s0_0 ah) = some (r1, r2) := H; have A9 := Aside0.mk A90; clear A90; have H' := Aside0.mk H; clear H
    go_enter Tryd.func65, Tryd.ntmps65
    go_wp2_with (first | ((with_reducible refine gc 66 rfl ?_); refine gl (some 6) _ (#[.pointer (some ⟨g, 0, none⟩), .int .i64 9]) Tryd.func66 ?_; (with_reducible refine (spec_l1Rd_pick.calls k g s0_0 s0_1 9 a4 a6 w0 _ ?side1 ?side2 A2.out).mono ?_); (case side1 => exact iq173 a2.out); (case side2 => exact bq173 HB.out a2.out); rintro e w10 ⟨rfl, hi, hb, hk⟩; refine ⟨_, rfl, ?_⟩; refine Ya3 (KeepBut.trans (kb HK.out) hk (.inl rfl)) (hb) (hi) ?_; clear HK HB a2; intro HK HB a2; (try clear hb); (try clear hb2); (try clear hk); (try clear hi)) | ((with_reducible refine gc 66 rfl ?_); refine gl (some 14) _ (#[.pointer (some ⟨g, 0, none⟩), .int .i64 7]) Tryd.func66 ?_; (with_reducible refine (spec_l1Rd_pick.calls k g s0_0 a6 7 ag ah w0 _ ?side1 ?side2 A9.out).mono ?_); (case side1 => exact iq173 a2.out); (case side2 => exact bq173 HB.out a2.out); rintro e w11 ⟨rfl, hi, hb, hk⟩; refine ⟨_, rfl, ?_⟩; refine Ya3 (KeepBut.trans (kb HK.out) hk (.inl rfl)) (hb) (hi) ?_; clear HK HB a2; intro HK HB a2; (try clear hb); (try clear hb2); (try clear hk); (try clear hi)))
    go_loopg [3, 4] k (fun kq v3 v4 w' => ∃ (a5 : ByteArray) (a7 : Int) (af : Int), v3 = .string a5 ∧ v4 = .int .i64 a7 ∧ Aside0 (spec_l1Text.l0 kq a5 a7 s0_0 af = some (r1, r2)) ∧ Aside0 (kq ≤ k) ∧ Aside0 (IsS173 w0 w' g s0_0 af) ∧ Aside0 (KeepBut w w' g none) ∧ Aside0 (Below w0.heap.size w0 w'))
    case atStart => exact ⟨((⟨#[]⟩ : ByteArray)), (ag), (ah), Ye1, Ye1, H', ⟨Nat.le_refl _⟩, ⟨iq173 a2.out⟩, ⟨kb HK.out⟩, ⟨bq173 HB.out a2.out⟩⟩
    case round =>
     clear H'; (try clear p2); (try clear c3); (try clear al); (try clear am); (try clear c5); (try clear an); (try clear ao); (try clear c6); (try clear c7); (try clear ap); (try clear aq); obtain ⟨a5, a7, af, rfl, rfl, HA, HK1, a2, HK, HB⟩ := hrel
     cases gk with
     | zero => exact absurd HA.out (by simp [spec_l1Text.l0])
     | succ k1 =>
      have H := HA.out; clear HA; simp only [spec_l1Text.l0] at H
      by_cases a9 : a7 > 0
      ·rw [if_pos a9] at H
       have au : decide (0 < a7) = true := decide_eq_true a9; clear a9; replace H := Option.bind_eq_some_iff.mp H; obtain ⟨⟨a3, ai⟩, ar, H⟩ := H; replace H : (if 0 ≤ a3 then (if a3 ≤ 4 then (if 0 ≤ 1 then (if 1 ≤ (((⟨#[97, 98, 99, 100]⟩ : ByteArray).extract (a3 : Int).toNat (⟨#[97, 98, 99, 100]⟩ : ByteArray).size).size : Int) then (if a5.size + (((⟨#[97, 98, 99, 100]⟩ : ByteArray).extract (a3 : Int).toNat (⟨#[97, 98, 99, 100]⟩ : ByteArray).size).extract 0 1).size ≤ 9223372036854775807 then (if (a5 ++ (((⟨#[97, 98, 99, 100]⟩ : ByteArray).extract (a3 : Int).toNat (⟨#[97, 98, 99, 100]⟩ : ByteArray).size).extract 0 1)).size + 1 ≤ 9223372036854775807 then (spec_l1Text.l0 k1 ((a5 ++ (((⟨#[97, 98, 99, 100]⟩ : ByteArray).extract (a3 : Int).toNat (⟨#[97, 98, 99, 100]⟩ : ByteArray).size).extract 0 1)) ++ (⟨#[10]⟩ : ByteArray)) (wrap64 (a7 - 1)) s0_0 ai) else (none)) else (none)) else (none)) else (none)) else (none)) else (none)) = some (r1, r2) := H; have A13 := Aside0.mk ar; clear ar
       by_cases ac : 0 ≤ a3
       ·rw [if_pos ac] at H
        have c14b0 := eq_true ac; have c14b1 : decide (0 ≤ a3) = true := decide_eq_true ac; clear ac
        by_cases ad : a3 ≤ 4
        ·rw [if_pos ad] at H
         have c15b0 := eq_true ad; have c15b1 : decide (a3 ≤ 4) = true := decide_eq_true ad; clear ad
         by_cases ae : 0 ≤ 1
         ·rw [if_pos ae] at H
          have c16b0 := eq_true ae; have c16b1 : decide (0 ≤ 1) = true := decide_eq_true ae; clear ae
          by_cases a8 : 1 ≤ (((⟨#[97, 98, 99, 100]⟩ : ByteArray).extract (a3 : Int).toNat (⟨#[97, 98, 99, 100]⟩ : ByteArray).size).size : Int)
          ·rw [if_pos a8] at H
           have c17q : 1 ≤ 4 - a3.toNat := (by have h_ := a8; rw [ByteArray.size_extract] at h_; have e_ : (⟨#[97, 98, 99, 100]⟩ : ByteArray).size = 4 := rfl; omega)
           have c17r : (((4 - a3.toNat : Nat) : Int) < 1) = False := eq_false (by omega); have c17b0 := eq_true a8; have c17b1 : decide (1 ≤ (((⟨#[97, 98, 99, 100]⟩ : ByteArray).extract (a3 : Int).toNat (⟨#[97, 98, 99, 100]⟩ : ByteArray).size).size : Int)) = true := decide_eq_true a8
           have c17o : 1 ≤ 4 - a3.toNat := (by have h_ := a8; rw [ByteArray.size_extract] at h_; have e_ : (⟨#[97, 98, 99, 100]⟩ : ByteArray).size = 4 := rfl; omega)
           clear a8
           by_cases aa : a5.size + (((⟨#[97, 98, 99, 100]⟩ : ByteArray).extract (a3 : Int).toNat (⟨#[97, 98, 99, 100]⟩ : ByteArray).size).extract 0 1).size ≤ 9223372036854775807
           ·rw [if_pos aa] at H
            try have c18n : a5.size + 1 ≤ 9223372036854775807 := (by have h_ := aa; (try simp only [ByteArray.size_append] at h_); (try simp only [ByteArray.size_extract] at h_); (try simp only [show (⟨#[97, 98, 99, 100]⟩ : ByteArray).size = 4 from rfl] at h_); (try omega); (try simpa using h_))
            try have c18m := eq_true c18n
            try have c18d := decide_eq_true c18n
            try have c18l := eq_false (Nat.not_lt.2 c18n)
            (try clear c18n); have c18b0 := eq_true aa; have c18b1 : decide (a5.size + (((⟨#[97, 98, 99, 100]⟩ : ByteArray).extract (a3 : Int).toNat (⟨#[97, 98, 99, 100]⟩ : ByteArray).size).extract 0 1).size ≤ 9223372036854775807) = true := decide_eq_true aa
            try have c18b2 : (9223372036854775807 < a5.size + (((⟨#[97, 98, 99, 100]⟩ : ByteArray).extract (a3 : Int).toNat (⟨#[97, 98, 99, 100]⟩ : ByteArray).size).extract 0 1).size) = False := eq_false (Nat.not_lt.2 aa)
            by_cases ab : (a5 ++ (((⟨#[97, 98, 99, 100]⟩ : ByteArray).extract (a3 : Int).toNat (⟨#[97, 98, 99, 100]⟩ : ByteArray).size).extract 0 1)).size + 1 ≤ 9223372036854775807
            ·rw [if_pos ab] at H
             try have c19n : a5.size + 1 + 1 ≤ 9223372036854775807 := (by have h_ := ab; (try simp only [ByteArray.size_append] at h_); (try simp only [ByteArray.size_extract] at h_); (try simp only [show (⟨#[97, 98, 99, 100]⟩ : ByteArray).size = 4 from rfl] at h_); (try omega); (try simpa using h_))
             try have c19m := eq_true c19n
             try have c19d := decide_eq_true c19n
             try have c19l := eq_false (Nat.not_lt.2 c19n)
             (try clear c19n); have c19b0 := eq_true ab; have c19b1 : decide ((a5 ++ (((⟨#[97, 98, 99, 100]⟩ : ByteArray).extract (a3 : Int).toNat (⟨#[97, 98, 99, 100]⟩ : ByteArray).size).extract 0 1)).size + 1 ≤ 9223372036854775807) = true := decide_eq_true ab
             try have c19b2 : (9223372036854775807 < (a5 ++ (((⟨#[97, 98, 99, 100]⟩ : ByteArray).extract (a3 : Int).toNat (⟨#[97, 98, 99, 100]⟩ : ByteArray).size).extract 0 1)).size + 1) = False := eq_false (Nat.not_lt.2 ab)
             have H' := Aside0.mk H; clear H
             go_wp2_with (first | ((with_reducible refine gc 66 rfl ?_); refine gl (some 21) _ (#[.pointer (some ⟨g, 0, none⟩), .int .i64 4]) Tryd.func66 ?_; (with_reducible refine (spec_l1Rd_pick.calls k1 g s0_0 af 4 a3 ai w0 _ ?side1 ?side2 A13.out).mono ?_); (case side1 => exact iq173 a2.out); (case side2 => exact bq173 HB.out a2.out); rintro e w20 ⟨rfl, hi, hb, hk⟩; refine ⟨_, rfl, ?_⟩; refine Ya3 (KeepBut.trans (kb HK.out) hk (.inl rfl)) (hb) (hi) ?_; clear HK HB a2; intro HK HB a2; (try clear hb); (try clear hb2); (try clear hk); (try clear hi)))
             go_roundg k1
             case measure => have := HK1.out; omega
             case rel => exact ⟨((a5 ++ (((⟨#[97, 98, 99, 100]⟩ : ByteArray).extract (a3 : Int).toNat (⟨#[97, 98, 99, 100]⟩ : ByteArray).size).extract 0 1)) ++ (⟨#[10]⟩ : ByteArray)), (wrap64 (a7 - 1)), (ai), Ye1, Ye1, H', ⟨by have := HK1.out; omega⟩, ⟨iq173 a2.out⟩, ⟨kb HK.out⟩, ⟨bq173 HB.out a2.out⟩⟩
            ·rw [if_neg ab] at H
             exact absurd H (by simp)
           ·rw [if_neg aa] at H
            exact absurd H (by simp)
          ·rw [if_neg a8] at H
           exact absurd H (by simp)
         ·rw [if_neg ae] at H
          exact absurd H (by simp)
        ·rw [if_neg ad] at H
         exact absurd H (by simp)
       ·rw [if_neg ac] at H
        exact absurd H (by simp)
      ·rw [if_neg a9] at H
       have au : decide (0 < a7) = false := decide_eq_false a9; clear a9; simp only [Option.some.injEq, Prod.mk.injEq] at H; obtain ⟨rfl, rfl⟩ := H
       go_wp2
       go_ret
       exact ⟨Ye2, iq173 a2.out, bq173 HB.out a2.out, kb HK.out⟩

end Go.Proofs.YtknagppkeodggaaDoor.P


namespace Go.Proofs.YtknagppkeodggaaDoor.P
open Go.RowKit Go.Proofs.YtknagppkeodggaaDoorW.PrintWords Go.Proofs.YtknagppkeodggaaDoorW.PrintLast Go.Proofs.YtknagppkeodggaaDoorW.PrintMore
attribute [local go_sem] max2_int min2_int max_two min_two max_three min_three max_four min_four
set_option linter.unusedVariables false
set_option linter.unusedSimpArgs false

/-! ### spec_l4Spoil: function 67 -/
def spec_l4Spoil.f (k : Nat) (s0_0 : List Int) (s0_1 : Int) (a1 : ByteArray) : Option (ByteArray × Int) := (spec_l1Rd_pick.f k s0_0 s0_1 9).bind fun bt211 => (if bt211.1 = 0 then (some ((⟨#[]⟩ : ByteArray), bt211.2)) else (if bt211.1 = 1 then (if a1.size + 1 ≤ 9223372036854775807 then (some (a1 ++ (⟨#[47]⟩ : ByteArray), bt211.2)) else (none)) else (if bt211.1 = 2 then (if 1 + a1.size ≤ 9223372036854775807 then (some ((⟨#[47]⟩ : ByteArray) ++ a1, bt211.2)) else (none)) else (if bt211.1 = 3 then (if a1.size + 3 ≤ 9223372036854775807 then (some (a1 ++ (⟨#[47, 46, 46]⟩ : ByteArray), bt211.2)) else (none)) else (if bt211.1 = 4 then (if 2 + a1.size ≤ 9223372036854775807 then (some ((⟨#[46, 47]⟩ : ByteArray) ++ a1, bt211.2)) else (none)) else (if bt211.1 = 5 then (if a1.size + 1 ≤ 9223372036854775807 then ((spec_l1Rd_pick.f k s0_0 bt211.2 2).bind fun bt213 => ((spec_l1Many.f k (⟨#[110]⟩ : ByteArray) (wrap64 (20 + bt213.1))).bind fun a7 => (if (a1 ++ (⟨#[47]⟩ : ByteArray)).size + a7.size ≤ 9223372036854775807 then (some ((a1 ++ (⟨#[47]⟩ : ByteArray)) ++ a7, bt213.2)) else (none)))) else (none)) else (if bt211.1 = 6 then ((spec_l1Rd_pick.f k s0_0 bt211.2 2).bind fun bt216 => ((spec_l1Many.f k (⟨#[112, 47]⟩ : ByteArray) (wrap64 (5 + bt216.1))).bind fun a8 => (if a8.size + 1 ≤ 9223372036854775807 then (some (a8 ++ (⟨#[113]⟩ : ByteArray), bt216.2)) else (none)))) else (if bt211.1 = 7 then ((some (([(⟨#[32]⟩ : ByteArray), (⟨#[34]⟩ : ByteArray), (⟨#[127]⟩ : ByteArray), (⟨#[42]⟩ : ByteArray), (⟨#[63]⟩ : ByteArray)] : List ByteArray) : List ByteArray)).bind fun a5 => ((spec_l1Rd_pick.f k s0_0 bt211.2 5).bind fun bt222 => (if 0 ≤ bt222.1 then (if bt222.1 < (a5.length : Int) then (if a1.size + (rdOf ByteArray.empty a5 bt222.1).size ≤ 9223372036854775807 then (some (a1 ++ (rdOf ByteArray.empty a5 bt222.1), bt222.2)) else (none)) else (none)) else (none)))) else ((spec_l1Many.f k (⟨#[42, 97]⟩ : ByteArray) 9).bind fun a9 => (if a9.size + 1 ≤ 9223372036854775807 then (some (a9 ++ (⟨#[63]⟩ : ByteArray), bt211.2)) else (none)))))))))))
theorem spec_l4Spoil.mono : ∀ a0 a1 a2 k, LeO (spec_l4Spoil.f k a0 a1 a2) (spec_l4Spoil.f (k + 1) a0 a1 a2) := by
 intro a0 a1 a2 k
 unfold spec_l4Spoil.f
 repeat' first
   | (with_reducible exact spec_l1Many.mono _ _ _)
   | (with_reducible exact spec_l1Rd_pick.mono _ _ _ _)
   | (with_reducible exact LeO.refl _)
   | (with_reducible exact LeO.none _)
   | (with_reducible refine LeO.ite ?_ ?_)
   | (with_reducible refine LeO.bind ?_ (fun _ => ?_))
   | exact spec_l1Many.mono _ _ _
   | exact spec_l1Rd_pick.mono _ _ _ _
   | exact LeO.none _
   | refine LeO.ite ?_ ?_
   | refine LeO.bind ?_ (fun _ => ?_)
set_option maxHeartbeats 8000000 in
set_option maxRecDepth 100000 in
theorem spec_l4Spoil.calls (k : Nat) (g : Nat) (s0_0 : List Int) (s0_1 : Int) (a1 : ByteArray) (r1 : ByteArray) (r2 : Int) (w0 w : World) (hI : IsS173 w0 w g s0_0 s0_1) (hB : Below w0.heap.size w0 w) (h : spec_l4Spoil.f k s0_0 s0_1 a1 = some (r1, r2)) :
  Calls Tryd.prog 67 #[.pointer (some ⟨g, 0, none⟩), .string a1] w fun e w' => e = .returned (.string r1) ∧ IsS173 w0 w' g s0_0 r2 ∧ Below w0.heap.size w0 w' ∧ KeepBut w w' g none := by
 have a3 := Aside0.mk hI; have HK := Aside0.mk (KeepBut.refl w g none); have HL := Aside0.mk hB.size; clear hI; have HW0 := Aside0.mk hB.size; have HB := Aside0.mk hB; clear hB; have H : ((spec_l1Rd_pick.f k s0_0 s0_1 9).bind fun bt211 => (if bt211.1 = 0 then (some ((⟨#[]⟩ : ByteArray), bt211.2)) else (if bt211.1 = 1 then (if a1.size + 1 ≤ 9223372036854775807 then (some (a1 ++ (⟨#[47]⟩ : ByteArray), bt211.2)) else (none)) else (if bt211.1 = 2 then (if 1 + a1.size ≤ 9223372036854775807 then (some ((⟨#[47]⟩ : ByteArray) ++ a1, bt211.2)) else (none)) else (if bt211.1 = 3 then (if a1.size + 3 ≤ 9223372036854775807 then (some (a1 ++ (⟨#[47, 46, 46]⟩ : ByteArray), bt211.2)) else (none)) else (if bt211.1 = 4 then (if 2 + a1.size ≤ 9223372036854775807 then (some ((⟨#[46, 47]⟩ : ByteArray) ++ a1, bt211.2)) else (none)) else (if bt211.1 = 5 then (if a1.size + 1 ≤ 9223372036854775807 then ((spec_l1Rd_pick.f k s0_0 bt211.2 2).bind fun bt213 => ((spec_l1Many.f k (⟨#[110]⟩ : ByteArray) (wrap64 (20 + bt213.1))).bind fun a7 => (if (a1 ++ (⟨#[47]⟩ : ByteArray)).size + a7.size ≤ 9223372036854775807 then (some ((a1 ++ (⟨#[47]⟩ : ByteArray)) ++ a7, bt213.2)) else (none)))) else (none)) else (if bt211.1 = 6 then ((spec_l1Rd_pick.f k s0_0 bt211.2 2).bind fun bt216 => ((spec_l1Many.f k (⟨#[112, 47]⟩ : ByteArray) (wrap64 (5 + bt216.1))).bind fun a8 => (if a8.size + 1 ≤ 9223372036854775807 then (some (a8 ++ (⟨#[113]⟩ : ByteArray), bt216.2)) else (none)))) else (if bt211.1 = 7 then ((some (([(⟨#[32]⟩ : ByteArray), (⟨#[34]⟩ : ByteArray), (⟨#[127]⟩ : ByteArray), (⟨#[42]⟩ : ByteArray), (⟨#[63]⟩ : ByteArray)] : List ByteArray) : List ByteArray)).bind fun a5 => ((spec_l1Rd_pick.f k s0_0 bt211.2 5).bind fun bt222 => (if 0 ≤ bt222.1 then (if bt222.1 < (a5.length : Int) then (if a1.size + (rdOf ByteArray.empty a5 bt222.1).size ≤ 9223372036854775807 then (some (a1 ++ (rdOf ByteArray.empty a5 bt222.1), bt222.2)) else (none)) else (none)) else (none)))) else ((spec_l1Many.f k (⟨#[42, 97]⟩ : ByteArray) 9).bind fun a9 => (if a9.size + 1 ≤ 9223372036854775807 then (some (a9 ++ (⟨#[63]⟩ : ByteArray), bt211.2)) else (none)))))))))))) = some (r1, r2) := h; clear h; replace H := Option.bind_eq_some_iff.mp H; obtain ⟨⟨a4, a6⟩, A30, H⟩ := H; replace H : (if a4 = 0 then (some ((⟨#[]⟩ : ByteArray), a6)) else (if a4 = 1 then (if a1.size + 1 ≤ 9223372036854775807 then (some (a1 ++ (⟨#[47]⟩ : ByteArray), a6)) else (none)) else (if a4 = 2 then (if 1 + a1.size ≤ 9223372036854775807 then (some ((⟨#[47]⟩ : ByteArray) ++ a1, a6)) else (none)) else (if a4 = 3 then (if a1.size + 3 ≤ 9223372036854775807 then (some (a1 ++ (⟨#[47, 46, 46]⟩ : ByteArray), a6)) else (none)) else (if a4 = 4 then (if 2 + a1.size ≤ 9223372036854775807 then (some ((⟨#[46, 47]⟩ : ByteArray) ++ a1, a6)) else (none)) else (if a4 = 5 then (if a1.size + 1 ≤ 9223372036854775807 then ((spec_l1Rd_pick.f k s0_0 a6 2).bind fun bt213 => ((spec_l1Many.f k (⟨#[110]⟩ : ByteArray) (wrap64 (20 + bt213.1))).bind fun a7 => (if (a1 ++ (⟨#[47]⟩ : ByteArray)).size + a7.size ≤ 9223372036854775807 then (some ((a1 ++ (⟨#[47]⟩ : ByteArray)) ++ a7, bt213.2)) else (none)))) else (none)) else (if a4 = 6 then ((spec_l1Rd_pick.f k s0_0 a6 2).bind fun bt216 => ((spec_l1Many.f k (⟨#[112, 47]⟩ : ByteArray) (wrap64 (5 + bt216.1))).bind fun a8 => (if a8.size + 1 ≤ 9223372036854775807 then (some (a8 ++ (⟨#[113]⟩ : ByteArray), bt216.2)) else (none)))) else (if a4 = 7 then ((some (([(⟨#[32]⟩ : ByteArray), (⟨#[34]⟩ : ByteArray), (⟨#[127]⟩ : ByteArray), (⟨#[42]⟩ : ByteArray), (⟨#[63]⟩ : ByteArray)] : List ByteArray) : List ByteArray)).bind fun a5 => ((spec_l1Rd_pick.f k s0_0 a6 5).bind fun bt222 => (if 0 ≤ bt222.1 then (if bt222.1 < (a5.length : Int) then (if a1.size + (rdOf ByteArray.empty a5 bt222.1).size ≤ 9223372036854775807 then (some (a1 ++ (rdOf ByteArray.empty a5 bt222.1), bt222.2)) else (none)) else (none)) else (none)))) else ((spec_l1Many.f k (⟨#[42, 97]⟩ : ByteArray) 9).bind fun a9 => (if a9.size + 1 ≤ 9223372036854775807 then (some (a9 ++ (⟨#[63]⟩ : ByteArray), a6)) else (none))))))))))) = some (r1, r2) := H; have A3 := Aside0.mk A30; clear A30
 by_cases c4 : a4 = 0
 ·rw [if_pos c4] at H
  have aH : (a4 == 0) = true := beq_iff_eq.mpr c4; have aI : (a4 != 0) = false := bne_eq_false_iff_eq.mpr c4; clear c4; simp only [Option.some.injEq, Prod.mk.injEq] at H; obtain ⟨rfl, rfl⟩ := H
  go_enter Tryd.func67, Tryd.ntmps67
  go_wp2_with (first | ((with_reducible refine gc 66 rfl ?_); refine gl (some 6) _ (#[.pointer (some ⟨g, 0, none⟩), .int .i64 9]) Tryd.func66 ?_; (with_reducible refine (spec_l1Rd_pick.calls k g s0_0 s0_1 9 a4 a6 w0 _ ?side1 ?side2 A3.out).mono ?_); (case side1 => exact iq173 a3.out); (case side2 => exact bq173 HB.out a3.out); rintro e w5 ⟨rfl, hi, hb, hk⟩; refine ⟨_, rfl, ?_⟩; refine Ya3 (KeepBut.trans (kb HK.out) hk (.inl rfl)) (hb) (hi) ?_; clear HK HB a3; intro HK HB a3; (try clear hb); (try clear hb2); (try clear hk); (try clear hi)))
  go_ret
  exact ⟨Ye2, iq173 a3.out, bq173 HB.out a3.out, kb HK.out⟩
 ·rw [if_neg c4] at H
  have aH : (a4 == 0) = false := beq_eq_false_iff_ne.mpr c4; have aI : (a4 != 0) = true := bne_iff_ne.mpr c4
  by_cases c6 : a4 = 1
  ·rw [if_pos c6] at H
   have aJ : (a4 == 1) = true := beq_iff_eq.mpr c6; have aK : (a4 != 1) = false := bne_eq_false_iff_eq.mpr c6; clear c6
   by_cases c7 : a1.size + 1 ≤ 9223372036854775807
   ·rw [if_pos c7] at H
    have c7b0 := eq_true c7; have c7b1 : decide (a1.size + 1 ≤ 9223372036854775807) = true := decide_eq_true c7
    try have c7b2 : (9223372036854775807 < a1.size + 1) = False := eq_false (Nat.not_lt.2 c7)
    simp only [Option.some.injEq, Prod.mk.injEq] at H; obtain ⟨rfl, rfl⟩ := H
    go_enter Tryd.func67, Tryd.ntmps67
    go_wp2_with (first | ((with_reducible refine gc 66 rfl ?_); refine gl (some 6) _ (#[.pointer (some ⟨g, 0, none⟩), .int .i64 9]) Tryd.func66 ?_; (with_reducible refine (spec_l1Rd_pick.calls k g s0_0 s0_1 9 a4 a6 w0 _ ?side1 ?side2 A3.out).mono ?_); (case side1 => exact iq173 a3.out); (case side2 => exact bq173 HB.out a3.out); rintro e w8 ⟨rfl, hi, hb, hk⟩; refine ⟨_, rfl, ?_⟩; refine Ya3 (KeepBut.trans (kb HK.out) hk (.inl rfl)) (hb) (hi) ?_; clear HK HB a3; intro HK HB a3; (try clear hb); (try clear hb2); (try clear hk); (try clear hi)))
    go_ret
    exact ⟨Ye2, iq173 a3.out, bq173 HB.out a3.out, kb HK.out⟩
   ·rw [if_neg c7] at H
    exact absurd H (by simp)
  ·rw [if_neg c6] at H
   have aJ : (a4 == 1) = false := beq_eq_false_iff_ne.mpr c6; have aK : (a4 != 1) = true := bne_iff_ne.mpr c6
   by_cases c9 : a4 = 2
   ·rw [if_pos c9] at H
    have aL : (a4 == 2) = true := beq_iff_eq.mpr c9; have aM : (a4 != 2) = false := bne_eq_false_iff_eq.mpr c9; clear c9
    by_cases c10 : 1 + a1.size ≤ 9223372036854775807
    ·rw [if_pos c10] at H
     have c10b0 := eq_true c10; have c10b1 : decide (1 + a1.size ≤ 9223372036854775807) = true := decide_eq_true c10
     try have c10b2 : (9223372036854775807 < 1 + a1.size) = False := eq_false (Nat.not_lt.2 c10)
     simp only [Option.some.injEq, Prod.mk.injEq] at H; obtain ⟨rfl, rfl⟩ := H
     go_enter Tryd.func67, Tryd.ntmps67
     go_wp2_with (first | ((with_reducible refine gc 66 rfl ?_); refine gl (some 6) _ (#[.pointer (some ⟨g, 0, none⟩), .int .i64 9]) Tryd.func66 ?_; (with_reducible refine (spec_l1Rd_pick.calls k g s0_0 s0_1 9 a4 a6 w0 _ ?side1 ?side2 A3.out).mono ?_); (case side1 => exact iq173 a3.out); (case side2 => exact bq173 HB.out a3.out); rintro e w11 ⟨rfl, hi, hb, hk⟩; refine ⟨_, rfl, ?_⟩; refine Ya3 (KeepBut.trans (kb HK.out) hk (.inl rfl)) (hb) (hi) ?_; clear HK HB a3; intro HK HB a3; (try clear hb); (try clear hb2); (try clear hk); (try clear hi)))
     go_ret
     exact ⟨Ye2, iq173 a3.out, bq173 HB.out a3.out, kb HK.out⟩
    ·rw [if_neg c10] at H
     exact absurd H (by simp)
   ·rw [if_neg c9] at H
    have aL : (a4 == 2) = false := beq_eq_false_iff_ne.mpr c9; have aM : (a4 != 2) = true := bne_iff_ne.mpr c9
    by_cases ab : a4 = 3
    ·rw [if_pos ab] at H
     have aN : (a4 == 3) = true := beq_iff_eq.mpr ab; have aO : (a4 != 3) = false := bne_eq_false_iff_eq.mpr ab; clear ab
     by_cases ah : a1.size + 3 ≤ 9223372036854775807
     ·rw [if_pos ah] at H
      have c13b0 := eq_true ah; have c13b1 : decide (a1.size + 3 ≤ 9223372036854775807) = true := decide_eq_true ah
      try have c13b2 : (9223372036854775807 < a1.size + 3) = False := eq_false (Nat.not_lt.2 ah)
      simp only [Option.some.injEq, Prod.mk.injEq] at H; obtain ⟨rfl, rfl⟩ := H
      go_enter Tryd.func67, Tryd.ntmps67
      go_wp2_with (first | ((with_reducible refine gc 66 rfl ?_); refine gl (some 6) _ (#[.pointer (some ⟨g, 0, none⟩), .int .i64 9]) Tryd.func66 ?_; (with_reducible refine (spec_l1Rd_pick.calls k g s0_0 s0_1 9 a4 a6 w0 _ ?side1 ?side2 A3.out).mono ?_); (case side1 => exact iq173 a3.out); (case side2 => exact bq173 HB.out a3.out); rintro e w14 ⟨rfl, hi, hb, hk⟩; refine ⟨_, rfl, ?_⟩; refine Ya3 (KeepBut.trans (kb HK.out) hk (.inl rfl)) (hb) (hi) ?_; clear HK HB a3; intro HK HB a3; (try clear hb); (try clear hb2); (try clear hk); (try clear hi)))
      go_ret
      exact ⟨Ye2, iq173 a3.out, bq173 HB.out a3.out, kb HK.out⟩
     ·rw [if_neg ah] at H
      exact absurd H (by simp)
    ·rw [if_neg ab] at H
     have aN : (a4 == 3) = false := beq_eq_false_iff_ne.mpr ab; have aO : (a4 != 3) = true := bne_iff_ne.mpr ab
     by_cases ac : a4 = 4
     ·rw [if_pos ac] at H
      have aP : (a4 == 4) = true := beq_iff_eq.mpr ac; have aQ : (a4 != 4) = false := bne_eq_false_iff_eq.mpr ac; clear ac
      by_cases ai : 2 + a1.size ≤ 9223372036854775807
      ·rw [if_pos ai] at H
       have c16b0 := eq_true ai; have c16b1 : decide (2 + a1.size ≤ 9223372036854775807) = true := decide_eq_true ai
       try have c16b2 : (9223372036854775807 < 2 + a1.size) = False := eq_false (Nat.not_lt.2 ai)
       simp only [Option.some.injEq, Prod.mk.injEq] at H; obtain ⟨rfl, rfl⟩ := H
       go_enter Tryd.func67, Tryd.ntmps67
       go_wp2_with (first | ((with_reducible refine gc 66 rfl ?_); refine gl (some 6) _ (#[.pointer (some ⟨g, 0, none⟩), .int .i64 9]) Tryd.func66 ?_; (with_reducible refine (spec_l1Rd_pick.calls k g s0_0 s0_1 9 a4 a6 w0 _ ?side1 ?side2 A3.out).mono ?_); (case side1 => exact iq173 a3.out); (case side2 => exact bq173 HB.out a3.out); rintro e w17 ⟨rfl, hi, hb, hk⟩; refine ⟨_, rfl, ?_⟩; refine Ya3 (KeepBut.trans (kb HK.out) hk (.inl rfl)) (hb) (hi) ?_; clear HK HB a3; intro HK HB a3; (try clear hb); (try clear hb2); (try clear hk); (try clear hi)))
       go_ret
       exact ⟨Ye2, iq173 a3.out, bq173 HB.out a3.out, kb HK.out⟩
      ·rw [if_neg ai] at H
       exact absurd H (by simp)
     ·rw [if_neg ac] at H
      have aP : (a4 == 4) = false := beq_eq_false_iff_ne.mpr ac; have aQ : (a4 != 4) = true := bne_iff_ne.mpr ac
      by_cases ad : a4 = 5
      ·rw [if_pos ad] at H
       have aR : (a4 == 5) = true := beq_iff_eq.mpr ad; have aS : (a4 != 5) = false := bne_eq_false_iff_eq.mpr ad; clear ad
       by_cases aj : a1.size + 1 ≤ 9223372036854775807
       ·rw [if_pos aj] at H
        have c19b0 := eq_true aj; have c19b1 : decide (a1.size + 1 ≤ 9223372036854775807) = true := decide_eq_true aj
        try have c19b2 : (9223372036854775807 < a1.size + 1) = False := eq_false (Nat.not_lt.2 aj)
        replace H := Option.bind_eq_some_iff.mp H; obtain ⟨⟨ap, av⟩, az, H⟩ := H; replace H : ((spec_l1Many.f k (⟨#[110]⟩ : ByteArray) (wrap64 (20 + ap))).bind fun a7 => (if (a1 ++ (⟨#[47]⟩ : ByteArray)).size + a7.size ≤ 9223372036854775807 then (some ((a1 ++ (⟨#[47]⟩ : ByteArray)) ++ a7, av)) else (none))) = some (r1, r2) := H; have A20 := Aside0.mk az; clear az; replace H := Option.bind_eq_some_iff.mp H; obtain ⟨a7, aA, H⟩ := H; replace H : (if (a1 ++ (⟨#[47]⟩ : ByteArray)).size + a7.size ≤ 9223372036854775807 then (some ((a1 ++ (⟨#[47]⟩ : ByteArray)) ++ a7, av)) else (none)) = some (r1, r2) := H; have A21 := Aside0.mk aA; clear aA
        by_cases ag : (a1 ++ (⟨#[47]⟩ : ByteArray)).size + a7.size ≤ 9223372036854775807
        ·rw [if_pos ag] at H
         try have c22n : a1.size + 1 + a7.size ≤ 9223372036854775807 := (by have h_ := ag; (try simp only [ByteArray.size_append] at h_); (try simp only [ByteArray.size_extract] at h_); (try simp only [show (⟨#[47]⟩ : ByteArray).size = 1 from rfl] at h_); (try omega); (try simpa using h_))
         try have c22m := eq_true c22n
         try have c22d := decide_eq_true c22n
         try have c22l := eq_false (Nat.not_lt.2 c22n)
         (try clear c22n); have c22b0 := eq_true ag; have c22b1 : decide ((a1 ++ (⟨#[47]⟩ : ByteArray)).size + a7.size ≤ 9223372036854775807) = true := decide_eq_true ag
         try have c22b2 : (9223372036854775807 < (a1 ++ (⟨#[47]⟩ : ByteArray)).size + a7.size) = False := eq_false (Nat.not_lt.2 ag)
         simp only [Option.some.injEq, Prod.mk.injEq] at H; obtain ⟨rfl, rfl⟩ := H
         go_enter Tryd.func67, Tryd.ntmps67
         go_wp2_with (first | ((with_reducible refine gc 66 rfl ?_); refine gl (some 6) _ (#[.pointer (some ⟨g, 0, none⟩), .int .i64 9]) Tryd.func66 ?_; (with_reducible refine (spec_l1Rd_pick.calls k g s0_0 s0_1 9 a4 a6 w0 _ ?side1 ?side2 A3.out).mono ?_); (case side1 => exact iq173 a3.out); (case side2 => exact bq173 HB.out a3.out); rintro e w23 ⟨rfl, hi, hb, hk⟩; refine ⟨_, rfl, ?_⟩; refine Ya3 (KeepBut.trans (kb HK.out) hk (.inl rfl)) (hb) (hi) ?_; clear HK HB a3; intro HK HB a3; (try clear hb); (try clear hb2); (try clear hk); (try clear hi)) | ((with_reducible refine gc 66 rfl ?_); refine gl (some 30) _ (#[.pointer (some ⟨g, 0, none⟩), .int .i64 2]) Tryd.func66 ?_; (with_reducible refine (spec_l1Rd_pick.calls k g s0_0 a6 2 ap av w0 _ ?side1 ?side2 A20.out).mono ?_); (case side1 => exact iq173 a3.out); (case side2 => exact bq173 HB.out a3.out); rintro e w24 ⟨rfl, hi, hb, hk⟩; refine ⟨_, rfl, ?_⟩; refine Ya3 (KeepBut.trans (kb HK.out) hk (.inl rfl)) (hb) (hi) ?_; clear HK HB a3; intro HK HB a3; (try clear hb); (try clear hb2); (try clear hk); (try clear hi)) | ((with_reducible refine gc 68 rfl ?_); refine gl (some 32) _ (#[.string (⟨#[110]⟩ : ByteArray), .int .i64 (wrap64 (20 + ap))]) Tryd.func68 ?_; (with_reducible refine (spec_l1Many.calls k (⟨#[110]⟩ : ByteArray) (wrap64 (20 + ap)) a7 _ A21.out).mono ?_); rintro e w' ⟨rfl, ⟨nd, rfl⟩⟩; refine ⟨_, rfl, ?_⟩))
         go_ret
         exact ⟨Ye2, iq173 a3.out, bq173 HB.out a3.out, kb HK.out⟩
        ·rw [if_neg ag] at H
         exact absurd H (by simp)
       ·rw [if_neg aj] at H
        exact absurd H (by simp)
      ·rw [if_neg ad] at H
       have aR : (a4 == 5) = false := beq_eq_false_iff_ne.mpr ad; have aS : (a4 != 5) = true := bne_iff_ne.mpr ad
       by_cases ae : a4 = 6
       ·rw [if_pos ae] at H
        have aT : (a4 == 6) = true := beq_iff_eq.mpr ae; have aU : (a4 != 6) = false := bne_eq_false_iff_eq.mpr ae; clear ae; replace H := Option.bind_eq_some_iff.mp H; obtain ⟨⟨aq, aw⟩, aB, H⟩ := H; replace H : ((spec_l1Many.f k (⟨#[112, 47]⟩ : ByteArray) (wrap64 (5 + aq))).bind fun a8 => (if a8.size + 1 ≤ 9223372036854775807 then (some (a8 ++ (⟨#[113]⟩ : ByteArray), aw)) else (none))) = some (r1, r2) := H; have A26 := Aside0.mk aB; clear aB; replace H := Option.bind_eq_some_iff.mp H; obtain ⟨a8, aC, H⟩ := H; replace H : (if a8.size + 1 ≤ 9223372036854775807 then (some (a8 ++ (⟨#[113]⟩ : ByteArray), aw)) else (none)) = some (r1, r2) := H; have A27 := Aside0.mk aC; clear aC
        by_cases ak : a8.size + 1 ≤ 9223372036854775807
        ·rw [if_pos ak] at H
         have c28b0 := eq_true ak; have c28b1 : decide (a8.size + 1 ≤ 9223372036854775807) = true := decide_eq_true ak
         try have c28b2 : (9223372036854775807 < a8.size + 1) = False := eq_false (Nat.not_lt.2 ak)
         simp only [Option.some.injEq, Prod.mk.injEq] at H; obtain ⟨rfl, rfl⟩ := H
         go_enter Tryd.func67, Tryd.ntmps67
         go_wp2_with (first | ((with_reducible refine gc 66 rfl ?_); refine gl (some 6) _ (#[.pointer (some ⟨g, 0, none⟩), .int .i64 9]) Tryd.func66 ?_; (with_reducible refine (spec_l1Rd_pick.calls k g s0_0 s0_1 9 a4 a6 w0 _ ?side1 ?side2 A3.out).mono ?_); (case side1 => exact iq173 a3.out); (case side2 => exact bq173 HB.out a3.out); rintro e w29 ⟨rfl, hi, hb, hk⟩; refine ⟨_, rfl, ?_⟩; refine Ya3 (KeepBut.trans (kb HK.out) hk (.inl rfl)) (hb) (hi) ?_; clear HK HB a3; intro HK HB a3; (try clear hb); (try clear hb2); (try clear hk); (try clear hi)) | ((with_reducible refine gc 66 rfl ?_); refine gl (some 37) _ (#[.pointer (some ⟨g, 0, none⟩), .int .i64 2]) Tryd.func66 ?_; (with_reducible refine (spec_l1Rd_pick.calls k g s0_0 a6 2 aq aw w0 _ ?side1 ?side2 A26.out).mono ?_); (case side1 => exact iq173 a3.out); (case side2 => exact bq173 HB.out a3.out); rintro e w30 ⟨rfl, hi, hb, hk⟩; refine ⟨_, rfl, ?_⟩; refine Ya3 (KeepBut.trans (kb HK.out) hk (.inl rfl)) (hb) (hi) ?_; clear HK HB a3; intro HK HB a3; (try clear hb); (try clear hb2); (try clear hk); (try clear hi)) | ((with_reducible refine gc 68 rfl ?_); refine gl (some 39) _ (#[.string (⟨#[112, 47]⟩ : ByteArray), .int .i64 (wrap64 (5 + aq))]) Tryd.func68 ?_; (with_reducible refine (spec_l1Many.calls k (⟨#[112, 47]⟩ : ByteArray) (wrap64 (5 + aq)) a8 _ A27.out).mono ?_); rintro e w' ⟨rfl, ⟨nd, rfl⟩⟩; refine ⟨_, rfl, ?_⟩))
         go_ret
         exact ⟨Ye2, iq173 a3.out, bq173 HB.out a3.out, kb HK.out⟩
        ·rw [if_neg ak] at H
         exact absurd H (by simp)
       ·rw [if_neg ae] at H
        have aT : (a4 == 6) = false := beq_eq_false_iff_ne.mpr ae; have aU : (a4 != 6) = true := bne_iff_ne.mpr ae
        by_cases af : a4 = 7
        ·rw [if_pos af] at H
         have aV : (a4 == 7) = true := beq_iff_eq.mpr af; have aW : (a4 != 7) = false := bne_eq_false_iff_eq.mpr af; clear af
         obtain ⟨a5, al⟩ : ∃ y_ : List ByteArray, y_ = (([(⟨#[32]⟩ : ByteArray), (⟨#[34]⟩ : ByteArray), (⟨#[127]⟩ : ByteArray), (⟨#[42]⟩ : ByteArray), (⟨#[63]⟩ : ByteArray)] : List ByteArray)) := ⟨_, rfl⟩
         replace H : ((spec_l1Rd_pick.f k s0_0 a6 5).bind fun bt222 => (if 0 ≤ bt222.1 then (if bt222.1 < (a5.length : Int) then (if a1.size + (rdOf ByteArray.empty a5 bt222.1).size ≤ 9223372036854775807 then (some (a1 ++ (rdOf ByteArray.empty a5 bt222.1), bt222.2)) else (none)) else (none)) else (none))) = some (r1, r2) := by first | (rw [al]; with_reducible exact H) | (have H2_ := (Option.bind_some _ _).symm.trans H; rw [al]; with_reducible exact H2_) | (have H2_ := (Option.bind_some _ _).symm.trans H; with_reducible exact H2_) | with_reducible exact H | (rw [al]; exact H) | exact H
         have aD := Aside0.mk al; clear al; replace H := Option.bind_eq_some_iff.mp H; obtain ⟨⟨aa, aE⟩, aF, H⟩ := H; replace H : (if 0 ≤ aa then (if aa < (a5.length : Int) then (if a1.size + (rdOf ByteArray.empty a5 aa).size ≤ 9223372036854775807 then (some (a1 ++ (rdOf ByteArray.empty a5 aa), aE)) else (none)) else (none)) else (none)) = some (r1, r2) := H; have A32 := Aside0.mk aF; clear aF
         by_cases ar : 0 ≤ aa
         ·rw [if_pos ar] at H
          have c33b0 : decide (0 ≤ aa) = true := decide_eq_true ar; clear ar
          by_cases au : aa < (a5.length : Int)
          ·rw [if_pos au] at H
           have c34b0 : decide (aa < (a5.length : Int)) = true := decide_eq_true au; clear au
           by_cases am : a1.size + (rdOf ByteArray.empty a5 aa).size ≤ 9223372036854775807
           ·rw [if_pos am] at H
            have c35b0 := eq_true am; have c35b1 : decide (a1.size + (rdOf ByteArray.empty a5 aa).size ≤ 9223372036854775807) = true := decide_eq_true am
            try have c35b2 : (9223372036854775807 < a1.size + (rdOf ByteArray.empty a5 aa).size) = False := eq_false (Nat.not_lt.2 am)
            simp only [Option.some.injEq, Prod.mk.injEq] at H; obtain ⟨rfl, rfl⟩ := H
            go_enter Tryd.func67, Tryd.ntmps67
            go_wp2_with (first | ((with_reducible refine gc 66 rfl ?_); refine gl (some 6) _ (#[.pointer (some ⟨g, 0, none⟩), .int .i64 9]) Tryd.func66 ?_; (with_reducible refine (spec_l1Rd_pick.calls k g s0_0 s0_1 9 a4 a6 w0 _ ?side1 ?side2 A3.out).mono ?_); (case side1 => exact iq173 a3.out); (case side2 => exact bq173 HB.out a3.out); rintro e w36 ⟨rfl, hi, hb, hk⟩; refine ⟨_, rfl, ?_⟩; refine Ya3 (KeepBut.trans (kb HK.out) hk (.inl rfl)) (hb) (hi) ?_; clear HK HB a3; intro HK HB a3; (try clear hb); (try clear hb2); (try clear hk); (try clear hi)) | ((with_reducible refine gd 44 rfl ?_); refine Kd.R_lit Kd.string _ 9 ?hg (N := 44) ?hd (xs := ([(⟨#[32]⟩ : ByteArray), (⟨#[34]⟩ : ByteArray), (⟨#[127]⟩ : ByteArray), (⟨#[42]⟩ : ByteArray), (⟨#[63]⟩ : ByteArray)] : List ByteArray)) (inner := [.string (⟨#[32]⟩ : ByteArray), .string (⟨#[34]⟩ : ByteArray), .string (⟨#[127]⟩ : ByteArray), .string (⟨#[42]⟩ : ByteArray), .string (⟨#[63]⟩ : ByteArray)]) (ok := fun _ => True) (okp := fun _ => True) ?hr ?hp (fun _ hk => hk) trivial (Below.refl _ _) (Nat.le_refl _) (by simp) ?_; (case hd => rfl); (case hg => rfl); (case hr => first | (go_simp; done) | (go_simp; rfl)); (case hp => exact (Reps.one (show Kd.M Kd.string _ _ _ (⟨#[32]⟩ : ByteArray) [.string (⟨#[32]⟩ : ByteArray)] from rfl) (Reps.one (show Kd.M Kd.string _ _ _ (⟨#[34]⟩ : ByteArray) [.string (⟨#[34]⟩ : ByteArray)] from rfl) (Reps.one (show Kd.M Kd.string _ _ _ (⟨#[127]⟩ : ByteArray) [.string (⟨#[127]⟩ : ByteArray)] from rfl) (Reps.one (show Kd.M Kd.string _ _ _ (⟨#[42]⟩ : ByteArray) [.string (⟨#[42]⟩ : ByteArray)] from rfl) (Reps.one (show Kd.M Kd.string _ _ _ (⟨#[63]⟩ : ByteArray) [.string (⟨#[63]⟩ : ByteArray)] from rfl) (Reps.none _ _))))))); intro v220 w37 ho38 hb hg_ hnew_; clear hg_ hnew_; (first | rw [← aD.out] at ho38 | (simp only [Int.reduceToNat] at ho38; rw [← aD.out] at ho38)); refine Ya4 (Kd.R_lower ho38 (keep_size (w := w) (g := g) (row := none) (kb HK.out))) (IsS173.below (iq173 a3.out) hb) (KeepBut.trans (kb HK.out) (KeepBut.of_below hb g none) (.inl rfl)) (below_step (bq173 HB.out a3.out) hb) ?_; clear a3 HK HB; intro an a3 HK HB; clear hb ho38) | ((with_reducible refine gc 66 rfl ?_); refine gl (some 46) _ (#[.pointer (some ⟨g, 0, none⟩), .int .i64 5]) Tryd.func66 ?_; (with_reducible refine (spec_l1Rd_pick.calls k g s0_0 a6 5 aa aE w0 _ ?side1 ?side2 A32.out).mono ?_); (case side1 => exact iq173 a3.out); (case side2 => exact bq173 HB.out a3.out); rintro e w39 ⟨rfl, hi, hb, hk⟩; refine ⟨_, rfl, ?_⟩; refine Ya4 (ra173 (iq173 a3.out) (kr an.out) hk) (KeepBut.trans (kb HK.out) hk (.inl rfl)) (hb) (hi) ?_; clear an HK HB a3; intro an HK HB a3; (try clear hb); (try clear hb2); (try clear hk); (try clear hi); obtain ⟨Ao40, co40, aX⟩ := Kd.R_slice an.out; subst aX; have ax : 0 ≤ (aa : Int) := oda; have ay : aa < (a5.length : Int) := oda; obtain ⟨ad224, aY, aZ⟩ := Kd.at_string (Kd.R_reads' an.out).2.2 aa ax ay; cases aY; replace ax := eq_true ax; replace ay := eq_true ay))
            go_ret
            exact ⟨Ye2, iq173 a3.out, bq173 HB.out a3.out, kb HK.out⟩
           ·rw [if_neg am] at H
            exact absurd H (by simp)
          ·rw [if_neg au] at H
           exact absurd H (by simp)
         ·rw [if_neg ar] at H
          exact absurd H (by simp)
        ·rw [if_neg af] at H
         have aV : (a4 == 7) = false := beq_eq_false_iff_ne.mpr af; have aW : (a4 != 7) = true := bne_iff_ne.mpr af; replace H := Option.bind_eq_some_iff.mp H; obtain ⟨a9, aG, H⟩ := H; replace H : (if a9.size + 1 ≤ 9223372036854775807 then (some (a9 ++ (⟨#[63]⟩ : ByteArray), a6)) else (none)) = some (r1, r2) := H; have A41 := Aside0.mk aG; clear aG
         by_cases ao : a9.size + 1 ≤ 9223372036854775807
         ·rw [if_pos ao] at H
          have c42b0 := eq_true ao; have c42b1 : decide (a9.size + 1 ≤ 9223372036854775807) = true := decide_eq_true ao
          try have c42b2 : (9223372036854775807 < a9.size + 1) = False := eq_false (Nat.not_lt.2 ao)
          simp only [Option.some.injEq, Prod.mk.injEq] at H; obtain ⟨rfl, rfl⟩ := H
          go_enter Tryd.func67, Tryd.ntmps67
          go_wp2_with (first | ((with_reducible refine gc 66 rfl ?_); refine gl (some 6) _ (#[.pointer (some ⟨g, 0, none⟩), .int .i64 9]) Tryd.func66 ?_; (with_reducible refine (spec_l1Rd_pick.calls k g s0_0 s0_1 9 a4 a6 w0 _ ?side1 ?side2 A3.out).mono ?_); (case side1 => exact iq173 a3.out); (case side2 => exact bq173 HB.out a3.out); rintro e w43 ⟨rfl, hi, hb, hk⟩; refine ⟨_, rfl, ?_⟩; refine Ya3 (KeepBut.trans (kb HK.out) hk (.inl rfl)) (hb) (hi) ?_; clear HK HB a3; intro HK HB a3; (try clear hb); (try clear hb2); (try clear hk); (try clear hi)) | ((with_reducible refine gc 68 rfl ?_); refine gl (some 50) _ (#[.string (⟨#[42, 97]⟩ : ByteArray), .int .i64 9]) Tryd.func68 ?_; (with_reducible refine (spec_l1Many.calls k (⟨#[42, 97]⟩ : ByteArray) 9 a9 _ A41.out).mono ?_); rintro e w' ⟨rfl, ⟨nd, rfl⟩⟩; refine ⟨_, rfl, ?_⟩))
          go_ret
          exact ⟨Ye2, iq173 a3.out, bq173 HB.out a3.out, kb HK.out⟩
         ·rw [if_neg ao] at H
          exact absurd H (by simp)

end Go.Proofs.YtknagppkeodggaaDoor.P


namespace Go.Proofs.YtknagppkeodggaaDoor.P
open Go.RowKit Go.Proofs.YtknagppkeodggaaDoorW.PrintWords Go.Proofs.YtknagppkeodggaaDoorW.PrintLast Go.Proofs.YtknagppkeodggaaDoorW.PrintMore
attribute [local go_sem] max2_int min2_int max_two min_two max_three min_three max_four min_four
set_option linter.unusedVariables false
set_option linter.unusedSimpArgs false

/-! ### spec_l4Path: function 77 -/
def spec_l4Path.l0 : Nat → ByteArray → Int → List Int → Int → Option (ByteArray × Int)
 | 0, _, _, _, _ => none
 | k + 1, x3, x4, az, aA => if x4 > 0 then (if x3.size + 1 ≤ 9223372036854775807 then ((some (([(⟨#[120]⟩ : ByteArray), (⟨#[121]⟩ : ByteArray), (⟨#[120, 120]⟩ : ByteArray), (⟨#[109, 97, 105, 110, 46, 107]⟩ : ByteArray), (⟨#[97]⟩ : ByteArray), (⟨#[120, 33]⟩ : ByteArray)] : List ByteArray) : List ByteArray)).bind fun a7 => ((spec_l1Rd_pick.f k az aA 6).bind fun bt183 => (if 0 ≤ bt183.1 then (if bt183.1 < (a7.length : Int) then (if (x3 ++ (⟨#[47]⟩ : ByteArray)).size + (rdOf ByteArray.empty a7 bt183.1).size ≤ 9223372036854775807 then (spec_l4Path.l0 k ((x3 ++ (⟨#[47]⟩ : ByteArray)) ++ (rdOf ByteArray.empty a7 bt183.1)) (wrap64 (x4 - 1)) az bt183.2) else (none)) else (none)) else (none)))) else (none)) else (some (x3, aA))
def spec_l4Path.f (k : Nat) (s0_0 : List Int) (s0_1 : Int) : Option (ByteArray × Int) := (spec_l1Rd_pick.f k s0_0 s0_1 3).bind fun bt170 => (if 0 ≤ bt170.1 then (if bt170.1 ≤ 3 then (if 0 ≤ 1 then (if 1 ≤ (((⟨#[97, 98, 99]⟩ : ByteArray).extract (bt170.1 : Int).toNat (⟨#[97, 98, 99]⟩ : ByteArray).size).size : Int) then ((some (([(⟨#[]⟩ : ByteArray), (⟨#[]⟩ : ByteArray), (⟨#[]⟩ : ByteArray), (⟨#[]⟩ : ByteArray), (⟨#[33, 98]⟩ : ByteArray), (⟨#[45]⟩ : ByteArray)] : List ByteArray) : List ByteArray)).bind fun a3 => ((spec_l1Rd_pick.f k s0_0 bt170.2 6).bind fun bt175 => (if 0 ≤ bt175.1 then (if bt175.1 < (a3.length : Int) then (if (((⟨#[97, 98, 99]⟩ : ByteArray).extract (bt170.1 : Int).toNat (⟨#[97, 98, 99]⟩ : ByteArray).size).extract 0 1).size + (rdOf ByteArray.empty a3 bt175.1).size ≤ 9223372036854775807 then ((spec_l1Rd_pick.f k s0_0 bt175.2 4).bind fun bt178 => (spec_l4Path.l0 k ((((⟨#[97, 98, 99]⟩ : ByteArray).extract (bt170.1 : Int).toNat (⟨#[97, 98, 99]⟩ : ByteArray).size).extract 0 1) ++ (rdOf ByteArray.empty a3 bt175.1)) bt178.1 s0_0 bt178.2)) else (none)) else (none)) else (none)))) else (none)) else (none)) else (none)) else (none))
theorem spec_l4Path.mono_l : ∀ k, (∀ y0 y1 y2 y3, LeO (spec_l4Path.l0 k y0 y1 y2 y3) (spec_l4Path.l0 (k + 1) y0 y1 y2 y3))
 | 0 => fun _ _ _ _ r h => by simp [spec_l4Path.l0] at h
 | k + 1 => by
  have ih0 := spec_l4Path.mono_l k
  ·intro y0 y1 y2 y3
   unfold spec_l4Path.l0
   repeat' first
   | (with_reducible exact ih0 _ _ _ _)
   | (with_reducible exact spec_l1Rd_pick.mono _ _ _ _)
   | (with_reducible exact LeO.refl _)
   | (with_reducible exact LeO.none _)
   | (with_reducible refine LeO.ite ?_ ?_)
   | (with_reducible refine LeO.bind ?_ (fun _ => ?_))
   | exact ih0 _ _ _ _
   | exact spec_l1Rd_pick.mono _ _ _ _
   | exact LeO.none _
   | refine LeO.ite ?_ ?_
   | refine LeO.bind ?_ (fun _ => ?_)
theorem spec_l4Path.mono : ∀ a0 a1 k, LeO (spec_l4Path.f k a0 a1) (spec_l4Path.f (k + 1) a0 a1) := by
 intro a0 a1 k; have ih0 := spec_l4Path.mono_l k
 unfold spec_l4Path.f
 repeat' first
   | (with_reducible exact ih0 _ _ _ _)
   | (with_reducible exact spec_l1Rd_pick.mono _ _ _ _)
   | (with_reducible exact LeO.refl _)
   | (with_reducible exact LeO.none _)
   | (with_reducible refine LeO.ite ?_ ?_)
   | (with_reducible refine LeO.bind ?_ (fun _ => ?_))
   | exact ih0 _ _ _ _
   | exact spec_l1Rd_pick.mono _ _ _ _
   | exact LeO.none _
   | refine LeO.ite ?_ ?_
   | refine LeO.bind ?_ (fun _ => ?_)
def spec_l4Path.T1 : Bool × List (List Nat × List Nat) := (true, [([], []), ([0], [0]), ([1], [1]), ([2], [2]), ([], []), ([], []), ([5, 1], [5]), ([4, 6], [4, 6]), ([7], [7]), ([3, 8], [3, 8]), ([9, 6, 0, 1, 2, 3, 4, 5, 6, 7, 8, 9], [9])])
def spec_l4Path.B1 : List Nat := [0, 1, 3, 7, 0, 0, 35, 115, 243, 511, 1023]
theorem spec_l4Path.tab1 : rtab .any (opsOf Tryd.f77 1) = spec_l4Path.T1 := by kernel_rfl
theorem spec_l4Path.bits1 : waitsOk spec_l4Path.T1.2 spec_l4Path.B1 = true := by kernel_rfl
set_option maxHeartbeats 8000000 in
set_option maxRecDepth 100000 in
theorem spec_l4Path.calls (k : Nat) (g : Nat) (s0_0 : List Int) (s0_1 : Int) (r1 : ByteArray) (r2 : Int) (w0 w : World) (hI : IsS173 w0 w g s0_0 s0_1) (hB : Below w0.heap.size w0 w) (h : spec_l4Path.f k s0_0 s0_1 = some (r1, r2)) :
  Calls Tryd.prog 77 #[.pointer (some ⟨g, 0, none⟩)] w fun e w' => e = .returned (.string r1) ∧ IsS173 w0 w' g s0_0 r2 ∧ Below w0.heap.size w0 w' ∧ KeepBut w w' g none := by
 have a2 := Aside0.mk hI; have HK := Aside0.mk (KeepBut.refl w g none); have HL := Aside0.mk hB.size; clear hI; have HW0 := Aside0.mk hB.size; have HB := Aside0.mk hB; clear hB; have H : ((spec_l1Rd_pick.f k s0_0 s0_1 3).bind fun bt170 => (if 0 ≤ bt170.1 then (if bt170.1 ≤ 3 then (if 0 ≤ 1 then (if 1 ≤ (((⟨#[97, 98, 99]⟩ : ByteArray).extract (bt170.1 : Int).toNat (⟨#[97, 98, 99]⟩ : ByteArray).size).size : Int) then ((some (([(⟨#[]⟩ : ByteArray), (⟨#[]⟩ : ByteArray), (⟨#[]⟩ : ByteArray), (⟨#[]⟩ : ByteArray), (⟨#[33, 98]⟩ : ByteArray), (⟨#[45]⟩ : ByteArray)] : List ByteArray) : List ByteArray)).bind fun a3 => ((spec_l1Rd_pick.f k s0_0 bt170.2 6).bind fun bt175 => (if 0 ≤ bt175.1 then (if bt175.1 < (a3.length : Int) then (if (((⟨#[97, 98, 99]⟩ : ByteArray).extract (bt170.1 : Int).toNat (⟨#[97, 98, 99]⟩ : ByteArray).size).extract 0 1).size + (rdOf ByteArray.empty a3 bt175.1).size ≤ 9223372036854775807 then ((spec_l1Rd_pick.f k s0_0 bt175.2 4).bind fun bt178 => (spec_l4Path.l0 k ((((⟨#[97, 98, 99]⟩ : ByteArray).extract (bt170.1 : Int).toNat (⟨#[97, 98, 99]⟩ : ByteArray).size).extract 0 1) ++ (rdOf ByteArray.empty a3 bt175.1)) bt178.1 s0_0 bt178.2)) else (none)) else (none)) else (none)))) else (none)) else (none)) else (none)) else (none))) = some (r1, r2) := h; clear h; replace H := Option.bind_eq_some_iff.mp H; obtain ⟨⟨a4, ac⟩, A20, H⟩ := H; replace H : (if 0 ≤ a4 then (if a4 ≤ 3 then (if 0 ≤ 1 then (if 1 ≤ (((⟨#[97, 98, 99]⟩ : ByteArray).extract (a4 : Int).toNat (⟨#[97, 98, 99]⟩ : ByteArray).size).size : Int) then ((some (([(⟨#[]⟩ : ByteArray), (⟨#[]⟩ : ByteArray), (⟨#[]⟩ : ByteArray), (⟨#[]⟩ : ByteArray), (⟨#[33, 98]⟩ : ByteArray), (⟨#[45]⟩ : ByteArray)] : List ByteArray) : List ByteArray)).bind fun a3 => ((spec_l1Rd_pick.f k s0_0 ac 6).bind fun bt175 => (if 0 ≤ bt175.1 then (if bt175.1 < (a3.length : Int) then (if (((⟨#[97, 98, 99]⟩ : ByteArray).extract (a4 : Int).toNat (⟨#[97, 98, 99]⟩ : ByteArray).size).extract 0 1).size + (rdOf ByteArray.empty a3 bt175.1).size ≤ 9223372036854775807 then ((spec_l1Rd_pick.f k s0_0 bt175.2 4).bind fun bt178 => (spec_l4Path.l0 k ((((⟨#[97, 98, 99]⟩ : ByteArray).extract (a4 : Int).toNat (⟨#[97, 98, 99]⟩ : ByteArray).size).extract 0 1) ++ (rdOf ByteArray.empty a3 bt175.1)) bt178.1 s0_0 bt178.2)) else (none)) else (none)) else (none)))) else (none)) else (none)) else (none)) else (none)) = some (r1, r2) := H; have A2 := Aside0.mk A20; clear A20
 by_cases c3 : 0 ≤ a4
 ·rw [if_pos c3] at H
  have aE := eq_true c3; have aF : decide (0 ≤ a4) = true := decide_eq_true c3; clear c3
  by_cases c4 : a4 ≤ 3
  ·rw [if_pos c4] at H
   have aG := eq_true c4; have aH : decide (a4 ≤ 3) = true := decide_eq_true c4; clear c4
   by_cases c5 : 0 ≤ 1
   ·rw [if_pos c5] at H
    have aI := eq_true c5; have aJ : decide (0 ≤ 1) = true := decide_eq_true c5; clear c5
    by_cases c6 : 1 ≤ (((⟨#[97, 98, 99]⟩ : ByteArray).extract (a4 : Int).toNat (⟨#[97, 98, 99]⟩ : ByteArray).size).size : Int)
    ·rw [if_pos c6] at H
     have c6q : 1 ≤ 3 - a4.toNat := (by have h_ := c6; rw [ByteArray.size_extract] at h_; have e_ : (⟨#[97, 98, 99]⟩ : ByteArray).size = 3 := rfl; omega)
     have c6r : (((3 - a4.toNat : Nat) : Int) < 1) = False := eq_false (by omega); have aK := eq_true c6; have aL : decide (1 ≤ (((⟨#[97, 98, 99]⟩ : ByteArray).extract (a4 : Int).toNat (⟨#[97, 98, 99]⟩ : ByteArray).size).size : Int)) = true := decide_eq_true c6
     have c6o : 1 ≤ 3 - a4.toNat := (by have h_ := c6; rw [ByteArray.size_extract] at h_; have e_ : (⟨#[97, 98, 99]⟩ : ByteArray).size = 3 := rfl; omega)
     clear c6
     obtain ⟨a3, ah⟩ : ∃ y_ : List ByteArray, y_ = (([(⟨#[]⟩ : ByteArray), (⟨#[]⟩ : ByteArray), (⟨#[]⟩ : ByteArray), (⟨#[]⟩ : ByteArray), (⟨#[33, 98]⟩ : ByteArray), (⟨#[45]⟩ : ByteArray)] : List ByteArray)) := ⟨_, rfl⟩
     replace H : ((spec_l1Rd_pick.f k s0_0 ac 6).bind fun bt175 => (if 0 ≤ bt175.1 then (if bt175.1 < (a3.length : Int) then (if (((⟨#[97, 98, 99]⟩ : ByteArray).extract (a4 : Int).toNat (⟨#[97, 98, 99]⟩ : ByteArray).size).extract 0 1).size + (rdOf ByteArray.empty a3 bt175.1).size ≤ 9223372036854775807 then ((spec_l1Rd_pick.f k s0_0 bt175.2 4).bind fun bt178 => (spec_l4Path.l0 k ((((⟨#[97, 98, 99]⟩ : ByteArray).extract (a4 : Int).toNat (⟨#[97, 98, 99]⟩ : ByteArray).size).extract 0 1) ++ (rdOf ByteArray.empty a3 bt175.1)) bt178.1 s0_0 bt178.2)) else (none)) else (none)) else (none))) = some (r1, r2) := by first | (rw [ah]; with_reducible exact H) | (have H2_ := (Option.bind_some _ _).symm.trans H; rw [ah]; with_reducible exact H2_) | (have H2_ := (Option.bind_some _ _).symm.trans H; with_reducible exact H2_) | with_reducible exact H | (rw [ah]; exact H) | exact H
     have ar := Aside0.mk ah; clear ah; replace H := Option.bind_eq_some_iff.mp H; obtain ⟨⟨a5, ai⟩, A70, H⟩ := H; replace H : (if 0 ≤ a5 then (if a5 < (a3.length : Int) then (if (((⟨#[97, 98, 99]⟩ : ByteArray).extract (a4 : Int).toNat (⟨#[97, 98, 99]⟩ : ByteArray).size).extract 0 1).size + (rdOf ByteArray.empty a3 a5).size ≤ 9223372036854775807 then ((spec_l1Rd_pick.f k s0_0 ai 4).bind fun bt178 => (spec_l4Path.l0 k ((((⟨#[97, 98, 99]⟩ : ByteArray).extract (a4 : Int).toNat (⟨#[97, 98, 99]⟩ : ByteArray).size).extract 0 1) ++ (rdOf ByteArray.empty a3 a5)) bt178.1 s0_0 bt178.2)) else (none)) else (none)) else (none)) = some (r1, r2) := H; have A7 := Aside0.mk A70; clear A70
     by_cases c8 : 0 ≤ a5
     ·rw [if_pos c8] at H
      have aM : decide (0 ≤ a5) = true := decide_eq_true c8; clear c8
      by_cases c9 : a5 < (a3.length : Int)
      ·rw [if_pos c9] at H
       have aN : decide (a5 < (a3.length : Int)) = true := decide_eq_true c9; clear c9
       by_cases c10 : (((⟨#[97, 98, 99]⟩ : ByteArray).extract (a4 : Int).toNat (⟨#[97, 98, 99]⟩ : ByteArray).size).extract 0 1).size + (rdOf ByteArray.empty a3 a5).size ≤ 9223372036854775807
       ·rw [if_pos c10] at H
        try have c10n : 1 + (rdOf ByteArray.empty a3 a5).size ≤ 9223372036854775807 := (by have h_ := c10; (try simp only [ByteArray.size_append] at h_); (try simp only [ByteArray.size_extract] at h_); (try simp only [show (⟨#[97, 98, 99]⟩ : ByteArray).size = 3 from rfl] at h_); (try omega); (try simpa using h_))
        try have c10m := eq_true c10n
        try have c10d := decide_eq_true c10n
        try have c10l := eq_false (Nat.not_lt.2 c10n)
        (try clear c10n); have aO := eq_true c10; have aP : decide ((((⟨#[97, 98, 99]⟩ : ByteArray).extract (a4 : Int).toNat (⟨#[97, 98, 99]⟩ : ByteArray).size).extract 0 1).size + (rdOf ByteArray.empty a3 a5).size ≤ 9223372036854775807) = true := decide_eq_true c10
        try have aQ : (9223372036854775807 < (((⟨#[97, 98, 99]⟩ : ByteArray).extract (a4 : Int).toNat (⟨#[97, 98, 99]⟩ : ByteArray).size).extract 0 1).size + (rdOf ByteArray.empty a3 a5).size) = False := eq_false (Nat.not_lt.2 c10)
        replace H := Option.bind_eq_some_iff.mp H; obtain ⟨⟨au, av⟩, aB, H⟩ := H; replace H : (spec_l4Path.l0 k ((((⟨#[97, 98, 99]⟩ : ByteArray).extract (a4 : Int).toNat (⟨#[97, 98, 99]⟩ : ByteArray).size).extract 0 1) ++ (rdOf ByteArray.empty a3 a5)) au s0_0 av) = some (r1, r2) := H; have A11 := Aside0.mk aB; clear aB; have H' := Aside0.mk H; clear H
        go_enter Tryd.func77, Tryd.ntmps77
        try go_wp2
        have pi177 : (0 ≤ (a5 : Int)) = True := eq_true (oda); have qi177 : (a5 < (a3.length : Int)) = True := eq_true (oda); refine Ya3 (IsS173.drew a2.out) (keep_drew HK.out) (below_drew1 HB.out) ?_; clear a2 HK HB; intro a2 HK HB; refine start_ (n := 11) (S := fun w' => True) (ds := []) (fb 11 0) (by kernel_rfl) rfl rfl trivial (fun hHeld => ?_); refine with_tabW spec_l4Path.tab1 spec_l4Path.bits1 (fun HT_ HW_ => ?_); generalize w.drew = w12 at a2 HK HB hHeld ⊢; refine pu 0 5 (fb 11 1) HT_ ?_; refine pu 5 10 (fb 11 33) HT_ ?_; refine inv_at [1, 2, 3, 4, 6, 7, 8, 9, 10] (fun a0_ b a w' => ∃ (a6 : Value) (adz_v173 : Addr) (m7_ : Value), a = putSel a0_ b [(1, 6, .int .i64 a4), (2, 7, .string ((⟨#[97, 98, 99]⟩ : ByteArray).extract (a4 : Int).toNat (⟨#[97, 98, 99]⟩ : ByteArray).size)), (3, 8, .string (((⟨#[97, 98, 99]⟩ : ByteArray).extract (a4 : Int).toNat (⟨#[97, 98, 99]⟩ : ByteArray).size).extract 0 1)), (4, 9, a6), (6, 11, .int .i64 a5), (7, 12, m7_), (8, 13, .string (rdOf ByteArray.empty a3 a5)), (9, 14, .string ((((⟨#[97, 98, 99]⟩ : ByteArray).extract (a4 : Int).toNat (⟨#[97, 98, 99]⟩ : ByteArray).size).extract 0 1) ++ (rdOf ByteArray.empty a3 a5))), (10, 3, .string ((((⟨#[97, 98, 99]⟩ : ByteArray).extract (a4 : Int).toNat (⟨#[97, 98, 99]⟩ : ByteArray).size).extract 0 1) ++ (rdOf ByteArray.empty a3 a5)))] ∧ (b 1 = false → IsS173 w0 w' g s0_0 s0_1) ∧ (KeepBut w w' g none) ∧ (Below w0.heap.size w0 w') ∧ (b 1 = true → b 6 = false → IsS173 w0 w' g s0_0 ac) ∧ (b 4 = true → Kd.R Kd.string 9 w' w.heap.size (fun _ => True) a6 a3) ∧ (b 4 = true → ∃ c_, (a6 : Value) = .slice (some adz_v173) a3.length c_) ∧ (b 6 = true → IsS173 w0 w' g s0_0 ai) ∧ (b 7 = true → (m7_ : Value) = .pointer (some (adz_v173.add (a5).toNat)))) HT_.out HW_.out (by kernel_rfl) (by kernel_rfl) ?_ ?_ ?_
        ·exact ⟨.bool false, ⟨0, 0, none⟩, .bool false, by simp only [putSel, Bool.false_eq_true, if_false], fun _ => a2.out, HK.out, HB.out, fun h_ => absurd h_ (by decide), fun h_ => absurd h_ (by decide), fun h_ => absurd h_ (by decide), fun h_ => absurd h_ (by decide), fun h_ => absurd h_ (by decide)⟩
        ·skip
         clear HB a2 HK; refine steps_cons ?_ ?_
         ·rintro b a w' ⟨a6, adz_v173, m7_, ha, Q_HI0, Q_HK, Q_HB, Q_HI0_e1, Q_HO174, Q_HA_HO174, Q_HI0_e6, Q_X7_⟩ hb_ hon hoff; refine ⟨_, rfl, fun K hK => ?_⟩
          have e5 : a.tmps[5]? = some (.pointer (some ⟨g, 0, none⟩)) := by rw [ha]; exact (putSel_off rfl).trans rfl
          replace ha := Aside0.mk ha; have a2 := Aside0.mk (Q_HI0 hb_); have HK := Aside0.mk Q_HK; have HB := Aside0.mk Q_HB; refine goes_ Tryd.func66 (by kernel_rfl) rfl #[.pointer (some ⟨g, 0, none⟩), .int .i64 3] (by rfl) rfl rfl (by first | (simp only [List.map_toArray, List.map_cons, List.map_nil, Act.eval, Array.getD_eq_getD_getElem?, Option.getD_some, e5]; done) | (simp only [List.map_toArray, List.map_cons, List.map_nil, Act.eval, Array.getD_eq_getD_getElem?, Option.getD_some, e5]; rfl)) ?_; (with_reducible refine (spec_l1Rd_pick.calls k g s0_0 s0_1 3 a4 ac w0 _ ?side1 ?side2 A2.out).mono ?_); (case side1 => exact iq173 a2.out); (case side2 => exact bq173 HB.out a2.out); rintro e aj ⟨rfl, hi, hb, hk⟩; refine ⟨_, rfl, ?_⟩; have ad := Aside0.mk (KeepBut.trans (kb HK.out) hk (.inl rfl)); have ak := Aside0.mk (hb); have ae := Aside0.mk (hi)
          have z_HO174 := fun (h0_ : b 4 = true) => (show Kd.R Kd.string 9 aj w.heap.size (fun _ => True) a6 a3 from by first | exact (Kd.R_mono (Kd.R_keep (IsS173.apart (show IsS173 w0 _ g s0_0 s0_1 from iq173 a2.out) (by (with_reducible repeat (first | apply Kd.R_alloc | apply Kd.R_drewN | apply Kd.R_drew)); exact (Q_HO174 h0_)) (by decide)) hk (fun _ h => h.2)) (fun _ h => h.1)) | exact Kd.R_mono (Kd.R_mono (Kd.R_keep (IsS173.apart (show IsS173 w0 _ g s0_0 s0_1 from iq173 a2.out) (by (with_reducible repeat (first | apply Kd.R_alloc | apply Kd.R_drewN | apply Kd.R_drew)); exact (Q_HO174 h0_)) (by decide)) hk (fun _ h => h.2)) (fun _ h => h.1)) (fun _ h_ => by first | trivial | exact h_ | exact h_.1))
          clear HK; clear HB; clear a2; have HK := ad; have HB := ak; have a2 := ae; clear ad ak ae; (try clear hb); (try clear hb2); (try clear hk); (try clear hi); refine hK.out _ _ ⟨a6, adz_v173, m7_, (by rw [ha.out]; exact putSel_upk 0 hb_ rfl rfl rfl), fun h0_ => absurd ((up_self b 1).symm.trans h0_) (by decide), (kb HK.out), (bq173 HB.out a2.out), fun _ _ => (iq173 a2.out), z_HO174, Q_HA_HO174, fun h0_ => absurd ((hoff 6 (by kernel_rfl)).symm.trans h0_) (by decide), fun h0_ => absurd ((hoff 7 (by kernel_rfl)).symm.trans h0_) (by decide)⟩
         refine steps_cons ?_ ?_
         ·rintro b a w' ⟨a6, adz_v173, m7_, ha, Q_HI0, Q_HK, Q_HB, Q_HI0_e1, Q_HO174, Q_HA_HO174, Q_HI0_e6, Q_X7_⟩ hb_ hon hoff; refine ⟨_, rfl, fun K hK => ?_⟩
          have e6 : a.tmps[6]? = some (.int .i64 a4) := by rw [ha]; exact putSel_on (e := (1, 6, .int .i64 a4)) 0 rfl rfl (hon 1 (by kernel_rfl)) rfl
          replace ha := Aside0.mk ha; have HK := Aside0.mk Q_HK; have HB := Aside0.mk Q_HB; refine value_ (w1 := w') (v := .string ((⟨#[97, 98, 99]⟩ : ByteArray).extract (a4 : Int).toNat (⟨#[97, 98, 99]⟩ : ByteArray).size)) (by rfl) rfl ?_ ?_
          ·go_simp; (try simp only [i64_w])
           try rfl
          refine hK.out _ _ ⟨a6, adz_v173, m7_, (by rw [ha.out]; exact putSel_upk 1 hb_ rfl rfl rfl), fun h0_ => absurd ((hon 1 (by kernel_rfl)).symm.trans h0_) (by decide), Q_HK, Q_HB, Q_HI0_e1, Q_HO174, Q_HA_HO174, Q_HI0_e6, Q_X7_⟩
         refine steps_cons ?_ ?_
         ·rintro b a w' ⟨a6, adz_v173, m7_, ha, Q_HI0, Q_HK, Q_HB, Q_HI0_e1, Q_HO174, Q_HA_HO174, Q_HI0_e6, Q_X7_⟩ hb_ hon hoff; refine ⟨_, rfl, fun K hK => ?_⟩
          have e7 : a.tmps[7]? = some (.string ((⟨#[97, 98, 99]⟩ : ByteArray).extract (a4 : Int).toNat (⟨#[97, 98, 99]⟩ : ByteArray).size)) := by rw [ha]; exact putSel_on (e := (2, 7, .string ((⟨#[97, 98, 99]⟩ : ByteArray).extract (a4 : Int).toNat (⟨#[97, 98, 99]⟩ : ByteArray).size))) 1 rfl rfl (hon 2 (by kernel_rfl)) rfl
          replace ha := Aside0.mk ha; have HK := Aside0.mk Q_HK; have HB := Aside0.mk Q_HB; refine value_ (w1 := w') (v := .string (((⟨#[97, 98, 99]⟩ : ByteArray).extract (a4 : Int).toNat (⟨#[97, 98, 99]⟩ : ByteArray).size).extract 0 1)) (by rfl) rfl ?_ ?_
          ·go_simp; (try simp only [i64_w])
           try rfl
          refine hK.out _ _ ⟨a6, adz_v173, m7_, (by rw [ha.out]; exact putSel_upk 2 hb_ rfl rfl rfl), fun h0_ => absurd ((hon 1 (by kernel_rfl)).symm.trans h0_) (by decide), Q_HK, Q_HB, Q_HI0_e1, Q_HO174, Q_HA_HO174, Q_HI0_e6, Q_X7_⟩
         refine steps_cons ?_ ?_
         ·rintro b a w' ⟨a6, adz_v173, m7_, ha, Q_HI0, Q_HK, Q_HB, Q_HI0_e1, Q_HO174, Q_HA_HO174, Q_HI0_e6, Q_X7_⟩ hb_ hon hoff; refine ⟨_, rfl, fun K hK => ?_⟩; replace ha := Aside0.mk ha; have HK := Aside0.mk Q_HK; have HB := Aside0.mk Q_HB; refine Kd.R_lit_step Kd.string _ 9 ?hg (N := 9) ?hd (xs := ([(⟨#[]⟩ : ByteArray), (⟨#[]⟩ : ByteArray), (⟨#[]⟩ : ByteArray), (⟨#[]⟩ : ByteArray), (⟨#[33, 98]⟩ : ByteArray), (⟨#[45]⟩ : ByteArray)] : List ByteArray)) (inner := [.string (⟨#[]⟩ : ByteArray), .string (⟨#[]⟩ : ByteArray), .string (⟨#[]⟩ : ByteArray), .string (⟨#[]⟩ : ByteArray), .string (⟨#[33, 98]⟩ : ByteArray), .string (⟨#[45]⟩ : ByteArray)]) (ok := fun _ => True) (okp := fun _ => True) ?hr ?hp (fun _ hk => hk) trivial (Below.refl _ _) (Nat.le_refl _) (by simp) ?_; (case hd => rfl); (case hg => rfl); (case hr => first | (go_simp; done) | (go_simp; rfl)); (case hp => exact (Reps.one (show Kd.M Kd.string _ _ _ (⟨#[]⟩ : ByteArray) [.string (⟨#[]⟩ : ByteArray)] from rfl) (Reps.one (show Kd.M Kd.string _ _ _ (⟨#[]⟩ : ByteArray) [.string (⟨#[]⟩ : ByteArray)] from rfl) (Reps.one (show Kd.M Kd.string _ _ _ (⟨#[]⟩ : ByteArray) [.string (⟨#[]⟩ : ByteArray)] from rfl) (Reps.one (show Kd.M Kd.string _ _ _ (⟨#[]⟩ : ByteArray) [.string (⟨#[]⟩ : ByteArray)] from rfl) (Reps.one (show Kd.M Kd.string _ _ _ (⟨#[33, 98]⟩ : ByteArray) [.string (⟨#[33, 98]⟩ : ByteArray)] from rfl) (Reps.one (show Kd.M Kd.string _ _ _ (⟨#[45]⟩ : ByteArray) [.string (⟨#[45]⟩ : ByteArray)] from rfl) (Reps.none _ _)))))))); intro a6 aj ho14 hb hg_ hnew_; clear hg_ hnew_; (first | rw [← ar.out] at ho14 | (simp only [Int.reduceToNat] at ho14; rw [← ar.out] at ho14)); have ad := Aside0.mk (Kd.R_lower ho14 (keep_size (w := w) (g := g) (row := none) (kb HK.out))); have ae := Aside0.mk (KeepBut.trans (kb HK.out) (KeepBut.of_below hb g none) (.inl rfl)); have n3_ := Aside0.mk (below_step (be HB.out) hb)
          have z_HI0 := fun (h0_ : b 1 = false) => (show IsS173 w0 aj g s0_0 s0_1 from by first | exact (IsS173.below (by repeat (first | (with_reducible first | exact (Q_HI0 h0_) | apply IsS173.alloc | apply IsS173.drewN | apply IsS173.drew | apply IsS173.set_1) | exact (Q_HI0 h0_))) hb))
          have z_HI0_e1 := fun (h0_ : b 1 = true) (h1_ : b 6 = false) => (show IsS173 w0 aj g s0_0 ac from by first | exact (IsS173.below (by repeat (first | (with_reducible first | exact (Q_HI0_e1 h0_ h1_) | apply IsS173.alloc | apply IsS173.drewN | apply IsS173.drew | apply IsS173.set_1) | exact (Q_HI0_e1 h0_ h1_))) hb))
          have z_HI0_e6 := fun (h0_ : b 6 = true) => (show IsS173 w0 aj g s0_0 ai from by first | exact (IsS173.below (by repeat (first | (with_reducible first | exact (Q_HI0_e6 h0_) | apply IsS173.alloc | apply IsS173.drewN | apply IsS173.drew | apply IsS173.set_1) | exact (Q_HI0_e6 h0_))) hb))
          clear HK; clear HB; have aa := ad; have HK := ae; have HB := n3_; clear ad ae n3_; clear hb ho14; obtain ⟨Ao15, aR, aS⟩ := Kd.R_slice aa.out; subst aS; obtain ⟨ado15, fo15, _⟩ := Kd.at_string (Kd.R_reads' aa.out).2.2 0 (by decide) (by rw [ar.out]; simp)
          cases fo15
          refine hK.out _ _ ⟨.slice (some ado15) a3.length aR, ado15, m7_, (by rw [ha.out]; exact putSel_upk 3 hb_ rfl rfl rfl), z_HI0, (kb HK.out), (be HB.out), z_HI0_e1, fun _ => (kr aa.out), fun _ => ⟨_, rfl⟩, z_HI0_e6, fun h0_ => absurd ((hoff 7 (by kernel_rfl)).symm.trans h0_) (by decide)⟩
         refine steps_cons ?_ ?_
         ·rintro b a w' ⟨a6, adz_v173, m7_, ha, Q_HI0, Q_HK, Q_HB, Q_HI0_e1, Q_HO174, Q_HA_HO174, Q_HI0_e6, Q_X7_⟩ hb_ hon hoff; refine ⟨_, rfl, fun K hK => ?_⟩
          have e10 : a.tmps[10]? = some (.pointer (some ⟨g, 0, none⟩)) := by rw [ha]; exact (putSel_off rfl).trans rfl
          replace ha := Aside0.mk ha; have HK := Aside0.mk Q_HK; have HB := Aside0.mk Q_HB; have a2 := Aside0.mk (Q_HI0_e1 (hon 1 (by kernel_rfl)) hb_); refine goes_ Tryd.func66 (by kernel_rfl) rfl #[.pointer (some ⟨g, 0, none⟩), .int .i64 6] (by rfl) rfl rfl (by first | (simp only [List.map_toArray, List.map_cons, List.map_nil, Act.eval, Array.getD_eq_getD_getElem?, Option.getD_some, e10]; done) | (simp only [List.map_toArray, List.map_cons, List.map_nil, Act.eval, Array.getD_eq_getD_getElem?, Option.getD_some, e10]; rfl)) ?_; (with_reducible refine (spec_l1Rd_pick.calls k g s0_0 ac 6 a5 ai w0 _ ?side1 ?side2 A7.out).mono ?_); (case side1 => exact iq173 a2.out); (case side2 => exact bq173 HB.out a2.out); rintro e w15 ⟨rfl, hi, hb, hk⟩; refine ⟨_, rfl, ?_⟩; have ad := Aside0.mk (KeepBut.trans (kb HK.out) hk (.inl rfl)); have ak := Aside0.mk (hb); have ae := Aside0.mk (hi)
          have z_HO174 := fun (h0_ : b 4 = true) => (show Kd.R Kd.string 9 w15 w.heap.size (fun _ => True) a6 a3 from by first | exact (Kd.R_mono (Kd.R_keep (IsS173.apart (show IsS173 w0 _ g s0_0 ac from iq173 a2.out) (by (with_reducible repeat (first | apply Kd.R_alloc | apply Kd.R_drewN | apply Kd.R_drew)); exact (Q_HO174 h0_)) (by decide)) hk (fun _ h => h.2)) (fun _ h => h.1)) | exact Kd.R_mono (Kd.R_mono (Kd.R_keep (IsS173.apart (show IsS173 w0 _ g s0_0 ac from iq173 a2.out) (by (with_reducible repeat (first | apply Kd.R_alloc | apply Kd.R_drewN | apply Kd.R_drew)); exact (Q_HO174 h0_)) (by decide)) hk (fun _ h => h.2)) (fun _ h => h.1)) (fun _ h_ => by first | trivial | exact h_ | exact h_.1))
          clear HK; clear HB; clear a2; have HK := ad; have HB := ak; have a2 := ae; clear ad ak ae; (try clear hb); (try clear hb2); (try clear hk); (try clear hi); refine hK.out _ _ ⟨a6, adz_v173, m7_, (by rw [ha.out]; exact putSel_upk 4 hb_ rfl rfl rfl), fun h0_ => absurd ((hon 1 (by kernel_rfl)).symm.trans h0_) (by decide), (kb HK.out), (bq173 HB.out a2.out), fun _ h1_ => absurd ((up_self b 6).symm.trans h1_) (by decide), z_HO174, Q_HA_HO174, fun _ => (iq173 a2.out), fun h0_ => absurd ((hoff 7 (by kernel_rfl)).symm.trans h0_) (by decide)⟩
         refine steps_cons ?_ ?_
         ·rintro b a w' ⟨a6, adz_v173, m7_, ha, Q_HI0, Q_HK, Q_HB, Q_HI0_e1, Q_HO174, Q_HA_HO174, Q_HI0_e6, Q_X7_⟩ hb_ hon hoff; refine ⟨_, rfl, fun K hK => ?_⟩
          have e9 : a.tmps[9]? = some (a6) := by rw [ha]; exact putSel_on (e := (4, 9, a6)) 3 rfl rfl (hon 4 (by kernel_rfl)) rfl
          have e11 : a.tmps[11]? = some (.int .i64 a5) := by rw [ha]; exact putSel_on (e := (6, 11, .int .i64 a5)) 4 rfl rfl (hon 6 (by kernel_rfl)) rfl
          replace ha := Aside0.mk ha; have HK := Aside0.mk Q_HK; have HB := Aside0.mk Q_HB; have aa := Aside0.mk (Q_HO174 (hon 4 (by kernel_rfl))); have HA_HO174 := Aside0.mk (Q_HA_HO174 (hon 4 (by kernel_rfl))); have a2 := Aside0.mk (Q_HI0_e6 (hon 6 (by kernel_rfl))); obtain ⟨c_, hv_⟩ := HA_HO174.out
          rw [hv_] at e9
          refine value_ (w1 := w') (v := .pointer (some (adz_v173.add (a5).toNat))) (by rfl) rfl ?_ ?_
          ·go_simp; (try simp only [i64_w])
           try rfl
          refine hK.out _ _ ⟨a6, adz_v173, (.pointer (some (adz_v173.add (a5).toNat))), (by rw [ha.out]; exact putSel_upk 5 hb_ rfl rfl rfl), fun h0_ => absurd ((hon 1 (by kernel_rfl)).symm.trans h0_) (by decide), Q_HK, Q_HB, fun _ h1_ => absurd ((hon 6 (by kernel_rfl)).symm.trans h1_) (by decide), Q_HO174, Q_HA_HO174, Q_HI0_e6, fun _ => rfl⟩
         refine steps_cons ?_ ?_
         ·rintro b a w' ⟨a6, adz_v173, m7_, ha, Q_HI0, Q_HK, Q_HB, Q_HI0_e1, Q_HO174, Q_HA_HO174, Q_HI0_e6, Q_X7_⟩ hb_ hon hoff; refine ⟨_, rfl, fun K hK => ?_⟩
          have e12 : a.tmps[12]? = some (m7_) := by rw [ha]; exact putSel_on (e := (7, 12, m7_)) 5 rfl rfl (hon 7 (by kernel_rfl)) rfl
          rw [Q_X7_ (hon 7 (by kernel_rfl))] at e12
          replace ha := Aside0.mk ha; have HK := Aside0.mk Q_HK; have HB := Aside0.mk Q_HB; have aa := Aside0.mk (Q_HO174 (hon 4 (by kernel_rfl))); have HA_HO174 := Aside0.mk (Q_HA_HO174 (hon 4 (by kernel_rfl))); have a2 := Aside0.mk (Q_HI0_e6 (hon 6 (by kernel_rfl))); obtain ⟨c_, hv_⟩ := HA_HO174.out; have hF_ := aa.out
          rw [hv_] at hF_
          obtain ⟨ad_, ea_, hx_⟩ := Kd.at_string (Kd.R_reads' hF_).2.2 a5 (of_eq_true pi177) (of_eq_true qi177)
          cases ea_
          refine value_ (w1 := w') (v := .string (rdOf ByteArray.empty a3 a5)) (by rfl) rfl ?_ ?_
          ·go_simp; (try simp only [i64_w])
           try rfl
          refine hK.out _ _ ⟨a6, adz_v173, m7_, (by rw [ha.out]; exact putSel_upk 6 hb_ rfl rfl rfl), fun h0_ => absurd ((hon 1 (by kernel_rfl)).symm.trans h0_) (by decide), Q_HK, Q_HB, fun _ h1_ => absurd ((hon 6 (by kernel_rfl)).symm.trans h1_) (by decide), Q_HO174, Q_HA_HO174, Q_HI0_e6, Q_X7_⟩
         refine steps_cons ?_ ?_
         ·rintro b a w' ⟨a6, adz_v173, m7_, ha, Q_HI0, Q_HK, Q_HB, Q_HI0_e1, Q_HO174, Q_HA_HO174, Q_HI0_e6, Q_X7_⟩ hb_ hon hoff; refine ⟨_, rfl, fun K hK => ?_⟩
          have e8 : a.tmps[8]? = some (.string (((⟨#[97, 98, 99]⟩ : ByteArray).extract (a4 : Int).toNat (⟨#[97, 98, 99]⟩ : ByteArray).size).extract 0 1)) := by rw [ha]; exact putSel_on (e := (3, 8, .string (((⟨#[97, 98, 99]⟩ : ByteArray).extract (a4 : Int).toNat (⟨#[97, 98, 99]⟩ : ByteArray).size).extract 0 1))) 2 rfl rfl (hon 3 (by kernel_rfl)) rfl
          have e13 : a.tmps[13]? = some (.string (rdOf ByteArray.empty a3 a5)) := by rw [ha]; exact putSel_on (e := (8, 13, .string (rdOf ByteArray.empty a3 a5))) 6 rfl rfl (hon 8 (by kernel_rfl)) rfl
          replace ha := Aside0.mk ha; have HK := Aside0.mk Q_HK; have HB := Aside0.mk Q_HB; have aa := Aside0.mk (Q_HO174 (hon 4 (by kernel_rfl))); have HA_HO174 := Aside0.mk (Q_HA_HO174 (hon 4 (by kernel_rfl))); have a2 := Aside0.mk (Q_HI0_e6 (hon 6 (by kernel_rfl))); refine value_ (w1 := w') (v := .string ((((⟨#[97, 98, 99]⟩ : ByteArray).extract (a4 : Int).toNat (⟨#[97, 98, 99]⟩ : ByteArray).size).extract 0 1) ++ (rdOf ByteArray.empty a3 a5))) (by rfl) rfl ?_ ?_
          ·go_simp; (try simp only [i64_w])
           try rfl
          refine hK.out _ _ ⟨a6, adz_v173, m7_, (by rw [ha.out]; exact putSel_upk 7 hb_ rfl rfl rfl), fun h0_ => absurd ((hon 1 (by kernel_rfl)).symm.trans h0_) (by decide), Q_HK, Q_HB, fun _ h1_ => absurd ((hon 6 (by kernel_rfl)).symm.trans h1_) (by decide), Q_HO174, Q_HA_HO174, Q_HI0_e6, Q_X7_⟩
         refine steps_cons ?_ ?_
         ·rintro b a w' ⟨a6, adz_v173, m7_, ha, Q_HI0, Q_HK, Q_HB, Q_HI0_e1, Q_HO174, Q_HA_HO174, Q_HI0_e6, Q_X7_⟩ hb_ hon hoff; refine ⟨_, rfl, fun K hK => ?_⟩
          have e14 : a.tmps[14]? = some (.string ((((⟨#[97, 98, 99]⟩ : ByteArray).extract (a4 : Int).toNat (⟨#[97, 98, 99]⟩ : ByteArray).size).extract 0 1) ++ (rdOf ByteArray.empty a3 a5))) := by rw [ha]; exact putSel_on (e := (9, 14, .string ((((⟨#[97, 98, 99]⟩ : ByteArray).extract (a4 : Int).toNat (⟨#[97, 98, 99]⟩ : ByteArray).size).extract 0 1) ++ (rdOf ByteArray.empty a3 a5)))) 7 rfl rfl (hon 9 (by kernel_rfl)) rfl
          replace ha := Aside0.mk ha; have HK := Aside0.mk Q_HK; have HB := Aside0.mk Q_HB; have aa := Aside0.mk (Q_HO174 (hon 4 (by kernel_rfl))); have HA_HO174 := Aside0.mk (Q_HA_HO174 (hon 4 (by kernel_rfl))); have a2 := Aside0.mk (Q_HI0_e6 (hon 6 (by kernel_rfl))); refine value_ (w1 := w') (v := .string ((((⟨#[97, 98, 99]⟩ : ByteArray).extract (a4 : Int).toNat (⟨#[97, 98, 99]⟩ : ByteArray).size).extract 0 1) ++ (rdOf ByteArray.empty a3 a5))) (by rfl) rfl ?_ ?_
          ·go_simp; (try simp only [i64_w])
           try rfl
          refine hK.out _ _ ⟨a6, adz_v173, m7_, (by rw [ha.out]; exact putSel_upk 8 hb_ rfl rfl rfl), fun h0_ => absurd ((hon 1 (by kernel_rfl)).symm.trans h0_) (by decide), Q_HK, Q_HB, fun _ h1_ => absurd ((hon 6 (by kernel_rfl)).symm.trans h1_) (by decide), Q_HO174, Q_HA_HO174, Q_HI0_e6, Q_X7_⟩
         exact steps_nil
        rintro b a w18 hall ⟨a6, adz_v173, m7_, ha, Q_HI0, Q_HK, Q_HB, Q_HI0_e1, Q_HO174, Q_HA_HO174, Q_HI0_e6, Q_X7_⟩; clear HB a2 HK; have hb1_ := hall 1 (by kernel_rfl); have hb2_ := hall 2 (by kernel_rfl); have hb3_ := hall 3 (by kernel_rfl); have hb4_ := hall 4 (by kernel_rfl); have hb6_ := hall 6 (by kernel_rfl); have hb7_ := hall 7 (by kernel_rfl); have hb8_ := hall 8 (by kernel_rfl); have hb9_ := hall 9 (by kernel_rfl); have hb10_ := hall 10 (by kernel_rfl); subst ha; obtain rfl := Q_X7_ hb7_; simp only [putSel, hb1_, hb2_, hb3_, hb4_, hb6_, hb7_, hb8_, hb9_, hb10_, if_true, Act.put, List.setIfInBounds_toArray, List.set_cons_zero, List.set_cons_succ]; clear Q_HI0; have HK := Aside0.mk Q_HK; clear Q_HK; have HB := Aside0.mk Q_HB; clear Q_HB; clear Q_HI0_e1; have aa := Aside0.mk (Q_HO174 hb4_); clear Q_HO174; have HA_HO174 := Aside0.mk (Q_HA_HO174 hb4_); clear Q_HA_HO174; have a2 := Aside0.mk (Q_HI0_e6 hb6_); clear Q_HI0_e6; clear hall hb1_ hb2_ hb3_ hb4_ hb6_ hb7_ hb8_ hb9_ hb10_; obtain ⟨co19, aT⟩ := HA_HO174.out; clear HA_HO174; subst aT
        try go_wp2_with (first | ((with_reducible refine gc 66 rfl ?_); refine gl (some 16) _ (#[.pointer (some ⟨g, 0, none⟩), .int .i64 4]) Tryd.func66 ?_; (with_reducible refine (spec_l1Rd_pick.calls k g s0_0 ai 4 au av w0 _ ?side1 ?side2 A11.out).mono ?_); (case side1 => exact iq173 a2.out); (case side2 => exact bq173 HB.out a2.out); rintro e w20 ⟨rfl, hi, hb, hk⟩; refine ⟨_, rfl, ?_⟩; refine Ya4 (ra173 (iq173 a2.out) (kr aa.out) hk) (KeepBut.trans (kb HK.out) hk (.inl rfl)) (hb) (hi) ?_; clear aa HK HB a2; intro aa HK HB a2; (try clear hb); (try clear hb2); (try clear hk); (try clear hi)))
        go_loopg [3, 4] k (fun kq v3 v4 w' => ∃ (a9 : ByteArray) (ab : Int) (al : Int), v3 = .string a9 ∧ v4 = .int .i64 ab ∧ Aside0 (spec_l4Path.l0 kq a9 ab s0_0 al = some (r1, r2)) ∧ Aside0 (kq ≤ k) ∧ Aside0 (IsS173 w0 w' g s0_0 al) ∧ Aside0 (KeepBut w w' g none) ∧ Aside0 (Below w0.heap.size w0 w'))
        case atStart => exact ⟨((((⟨#[97, 98, 99]⟩ : ByteArray).extract (a4 : Int).toNat (⟨#[97, 98, 99]⟩ : ByteArray).size).extract 0 1) ++ (rdOf ByteArray.empty a3 a5)), (au), (av), Ye1, Ye1, H', ⟨Nat.le_refl _⟩, ⟨iq173 a2.out⟩, ⟨kb HK.out⟩, ⟨bq173 HB.out a2.out⟩⟩
        case round =>
         clear H'; (try clear c1); (try clear qi1); (try clear p2); (try clear c3); (try clear aE); (try clear aF); (try clear c4); (try clear aG); (try clear aH); (try clear c5); (try clear aI); (try clear aJ); (try clear c6); (try clear aK); (try clear aL); (try clear c7); (try clear c8); (try clear aM); (try clear c9); (try clear aN); (try clear c10); (try clear aO); (try clear aP); (try clear aQ); (try clear qi17); obtain ⟨a9, ab, al, rfl, rfl, HA, HK1, a2, HK, HB⟩ := hrel
         cases gk with
         | zero => exact absurd HA.out (by simp [spec_l4Path.l0])
         | succ k1 =>
          have H := HA.out; clear HA; simp only [spec_l4Path.l0] at H
          by_cases af : ab > 0
          ·rw [if_pos af] at H
           have aU : decide (0 < ab) = true := decide_eq_true af; clear af
           by_cases am : a9.size + 1 ≤ 9223372036854775807
           ·rw [if_pos am] at H
            have c22b0 := eq_true am; have c22b1 : decide (a9.size + 1 ≤ 9223372036854775807) = true := decide_eq_true am
            try have c22b2 : (9223372036854775807 < a9.size + 1) = False := eq_false (Nat.not_lt.2 am)
            obtain ⟨a7, an⟩ : ∃ y_ : List ByteArray, y_ = (([(⟨#[120]⟩ : ByteArray), (⟨#[121]⟩ : ByteArray), (⟨#[120, 120]⟩ : ByteArray), (⟨#[109, 97, 105, 110, 46, 107]⟩ : ByteArray), (⟨#[97]⟩ : ByteArray), (⟨#[120, 33]⟩ : ByteArray)] : List ByteArray)) := ⟨_, rfl⟩
            replace H : ((spec_l1Rd_pick.f k1 s0_0 al 6).bind fun bt183 => (if 0 ≤ bt183.1 then (if bt183.1 < (a7.length : Int) then (if (a9 ++ (⟨#[47]⟩ : ByteArray)).size + (rdOf ByteArray.empty a7 bt183.1).size ≤ 9223372036854775807 then (spec_l4Path.l0 k1 ((a9 ++ (⟨#[47]⟩ : ByteArray)) ++ (rdOf ByteArray.empty a7 bt183.1)) (wrap64 (ab - 1)) s0_0 bt183.2) else (none)) else (none)) else (none))) = some (r1, r2) := by first | (rw [an]; with_reducible exact H) | (have H2_ := (Option.bind_some _ _).symm.trans H; rw [an]; with_reducible exact H2_) | (have H2_ := (Option.bind_some _ _).symm.trans H; with_reducible exact H2_) | with_reducible exact H | (rw [an]; exact H) | exact H
            have aC := Aside0.mk an; clear an; replace H := Option.bind_eq_some_iff.mp H; obtain ⟨⟨a8, aw⟩, aD, H⟩ := H; replace H : (if 0 ≤ a8 then (if a8 < (a7.length : Int) then (if (a9 ++ (⟨#[47]⟩ : ByteArray)).size + (rdOf ByteArray.empty a7 a8).size ≤ 9223372036854775807 then (spec_l4Path.l0 k1 ((a9 ++ (⟨#[47]⟩ : ByteArray)) ++ (rdOf ByteArray.empty a7 a8)) (wrap64 (ab - 1)) s0_0 aw) else (none)) else (none)) else (none)) = some (r1, r2) := H; have A23 := Aside0.mk aD; clear aD
            by_cases ap : 0 ≤ a8
            ·rw [if_pos ap] at H
             have c24b0 : decide (0 ≤ a8) = true := decide_eq_true ap; clear ap
             by_cases aq : a8 < (a7.length : Int)
             ·rw [if_pos aq] at H
              have c25b0 : decide (a8 < (a7.length : Int)) = true := decide_eq_true aq; clear aq
              by_cases ag : (a9 ++ (⟨#[47]⟩ : ByteArray)).size + (rdOf ByteArray.empty a7 a8).size ≤ 9223372036854775807
              ·rw [if_pos ag] at H
               try have c26n : a9.size + 1 + (rdOf ByteArray.empty a7 a8).size ≤ 9223372036854775807 := (by have h_ := ag; (try simp only [ByteArray.size_append] at h_); (try simp only [ByteArray.size_extract] at h_); (try simp only [show (⟨#[47]⟩ : ByteArray).size = 1 from rfl] at h_); (try omega); (try simpa using h_))
               try have c26m := eq_true c26n
               try have c26d := decide_eq_true c26n
               try have c26l := eq_false (Nat.not_lt.2 c26n)
               (try clear c26n); have c26b0 := eq_true ag; have c26b1 : decide ((a9 ++ (⟨#[47]⟩ : ByteArray)).size + (rdOf ByteArray.empty a7 a8).size ≤ 9223372036854775807) = true := decide_eq_true ag
               try have c26b2 : (9223372036854775807 < (a9 ++ (⟨#[47]⟩ : ByteArray)).size + (rdOf ByteArray.empty a7 a8).size) = False := eq_false (Nat.not_lt.2 ag)
               have H' := Aside0.mk H; clear H
               go_wp2_with (first | ((with_reducible refine gd 23 rfl ?_); refine Kd.R_lit Kd.string _ 9 ?hg (N := 23) ?hd (xs := ([(⟨#[120]⟩ : ByteArray), (⟨#[121]⟩ : ByteArray), (⟨#[120, 120]⟩ : ByteArray), (⟨#[109, 97, 105, 110, 46, 107]⟩ : ByteArray), (⟨#[97]⟩ : ByteArray), (⟨#[120, 33]⟩ : ByteArray)] : List ByteArray)) (inner := [.string (⟨#[120]⟩ : ByteArray), .string (⟨#[121]⟩ : ByteArray), .string (⟨#[120, 120]⟩ : ByteArray), .string (⟨#[109, 97, 105, 110, 46, 107]⟩ : ByteArray), .string (⟨#[97]⟩ : ByteArray), .string (⟨#[120, 33]⟩ : ByteArray)]) (ok := fun _ => True) (okp := fun _ => True) ?hr ?hp (fun _ hk => hk) trivial (Below.refl _ _) (Nat.le_refl _) (by simp) ?_; (case hd => rfl); (case hg => rfl); (case hr => first | (go_simp; done) | (go_simp; rfl)); (case hp => exact (Reps.one (show Kd.M Kd.string _ _ _ (⟨#[120]⟩ : ByteArray) [.string (⟨#[120]⟩ : ByteArray)] from rfl) (Reps.one (show Kd.M Kd.string _ _ _ (⟨#[121]⟩ : ByteArray) [.string (⟨#[121]⟩ : ByteArray)] from rfl) (Reps.one (show Kd.M Kd.string _ _ _ (⟨#[120, 120]⟩ : ByteArray) [.string (⟨#[120, 120]⟩ : ByteArray)] from rfl) (Reps.one (show Kd.M Kd.string _ _ _ (⟨#[109, 97, 105, 110, 46, 107]⟩ : ByteArray) [.string (⟨#[109, 97, 105, 110, 46, 107]⟩ : ByteArray)] from rfl) (Reps.one (show Kd.M Kd.string _ _ _ (⟨#[97]⟩ : ByteArray) [.string (⟨#[97]⟩ : ByteArray)] from rfl) (Reps.one (show Kd.M Kd.string _ _ _ (⟨#[120, 33]⟩ : ByteArray) [.string (⟨#[120, 33]⟩ : ByteArray)] from rfl) (Reps.none _ _)))))))); intro v181 w27 ho28 hb hg_ hnew_; clear hg_ hnew_; (first | rw [← aC.out] at ho28 | (simp only [Int.reduceToNat] at ho28; rw [← aC.out] at ho28)); refine Ya4 (Kd.R_lower ho28 (keep_size (w := w) (g := g) (row := none) (kb HK.out))) (IsS173.below (iq173 a2.out) hb) (KeepBut.trans (kb HK.out) (KeepBut.of_below hb g none) (.inl rfl)) (below_step (bq173 HB.out a2.out) hb) ?_; clear a2 HK HB; intro ao a2 HK HB; clear hb ho28) | ((with_reducible refine gc 66 rfl ?_); refine gl (some 25) _ (#[.pointer (some ⟨g, 0, none⟩), .int .i64 6]) Tryd.func66 ?_; (with_reducible refine (spec_l1Rd_pick.calls k1 g s0_0 al 6 a8 aw w0 _ ?side1 ?side2 A23.out).mono ?_); (case side1 => exact iq173 a2.out); (case side2 => exact bq173 HB.out a2.out); rintro e w29 ⟨rfl, hi, hb, hk⟩; refine ⟨_, rfl, ?_⟩; refine Ya4 (ra173 (iq173 a2.out) (kr ao.out) hk) (KeepBut.trans (kb HK.out) hk (.inl rfl)) (hb) (hi) ?_; clear ao HK HB a2; intro ao HK HB a2; (try clear hb); (try clear hb2); (try clear hk); (try clear hi); obtain ⟨Ao30, co30, aV⟩ := Kd.R_slice ao.out; subst aV; have ax : 0 ≤ (a8 : Int) := oda; have ay : a8 < (a7.length : Int) := oda; obtain ⟨ad185, aW, aX⟩ := Kd.at_string (Kd.R_reads' ao.out).2.2 a8 ax ay; cases aW; replace ax := eq_true ax; replace ay := eq_true ay))
               go_roundg k1
               case measure => have := HK1.out; omega
               case rel => exact ⟨((a9 ++ (⟨#[47]⟩ : ByteArray)) ++ (rdOf ByteArray.empty a7 a8)), (wrap64 (ab - 1)), (aw), Ye1, Ye1, H', ⟨by have := HK1.out; omega⟩, ⟨iq173 a2.out⟩, ⟨kb HK.out⟩, ⟨bq173 HB.out a2.out⟩⟩
              ·rw [if_neg ag] at H
               exact absurd H (by simp)
             ·rw [if_neg aq] at H
              exact absurd H (by simp)
            ·rw [if_neg ap] at H
             exact absurd H (by simp)
           ·rw [if_neg am] at H
            exact absurd H (by simp)
          ·rw [if_neg af] at H
           have aU : decide (0 < ab) = false := decide_eq_false af; clear af; simp only [Option.some.injEq, Prod.mk.injEq] at H; obtain ⟨rfl, rfl⟩ := H
           go_wp2
           go_ret
           exact ⟨Ye2, iq173 a2.out, bq173 HB.out a2.out, kb HK.out⟩
       ·rw [if_neg c10] at H
        exact absurd H (by simp)
      ·rw [if_neg c9] at H
       exact absurd H (by simp)
     ·rw [if_neg c8] at H
      exact absurd H (by simp)
    ·rw [if_neg c6] at H
     exact absurd H (by simp)
   ·rw [if_neg c5] at H
    exact absurd H (by simp)
  ·rw [if_neg c4] at H
   exact absurd H (by simp)
 ·rw [if_neg c3] at H
  exact absurd H (by simp)

end Go.Proofs.YtknagppkeodggaaDoor.P


namespace Go.Proofs.YtknagppkeodggaaDoor.P
open Go.RowKit Go.Proofs.YtknagppkeodggaaDoorW.PrintWords Go.Proofs.YtknagppkeodggaaDoorW.PrintLast Go.Proofs.YtknagppkeodggaaDoorW.PrintMore
attribute [local go_sem] max2_int min2_int max_two min_two max_three min_three max_four min_four
set_option linter.unusedVariables false
set_option linter.unusedSimpArgs false

/-! ### spec_l5Draw: function 97 -/
mutual
def spec_l5Draw.l0 : Nat → Int → List Int → Int → List (S27) → Option ((List (S27)) × Int)
 | 0, _, _, _, _ => none
 | k + 1, x4, b4, bm, b7 => if x4 > 0 then ((spec_l4Path.f k b4 bm).bind fun bt190 => ((spec_l1Text.f k b4 bt190.2).bind fun bt192 => ((spec_l1Rd_pick.f k b4 bt192.2 4).bind fun bt194 => ((spec_Put.f k b7 bt190.1 bt192.1 (bt194.1 == 0)).bind fun bt196 => (if bt196.2 = 0 then (spec_l5Draw.l0 k (wrap64 (x4 - 1)) b4 bt194.2 bt196.1) else (spec_l5Draw.l0 k (wrap64 (x4 - 1)) b4 bt194.2 b7)))))) else ((spec_l1Rd_pick.f k b4 bm 16).bind fun bt201 => (if bt201.1 = 0 then ((spec_l1Rd_pick.f k b4 bt201.2 3).bind fun bt203 => (spec_l5Draw.l1 k (wrap64 (100 - bt203.1)) 0 b4 bt203.2 b7)) else (some (b7, bt201.2))))
def spec_l5Draw.l1 : Nat → Int → Int → List Int → Int → List (S27) → Option ((List (S27)) × Int)
 | 0, _, _, _, _, _ => none
 | k + 1, x7, x8, b4, bm, b7 => if (b7.length : Int) < x7 then ((some (([(wrap64 (97 + (wrap64 (Int.tdiv x8 26)))) % 256, (wrap64 (97 + (Int.tmod x8 26))) % 256] : List Int) : List Int)).bind fun b5 => (if 1 + (strOfNums b5).size ≤ 9223372036854775807 then ((spec_l5Set.f k b7 ((⟨#[122]⟩ : ByteArray) ++ (strOfNums b5)) (⟨#[]⟩ : ByteArray) false).bind fun b6 => (spec_l5Draw.l1 k x7 (wrap64 (x8 + 1)) b4 bm b6)) else (none))) else (some (b7, bm))
end
def spec_l5Draw.f (k : Nat) (s0_0 : List Int) (s0_1 : Int) : Option ((List (S27)) × Int) := (spec_l1Rd_pick.f k s0_0 s0_1 8).bind fun bt188 => (spec_l5Draw.l0 k bt188.1 s0_0 bt188.2 ([] : List (S27)))
theorem spec_l5Draw.mono_l : ∀ k, (∀ y0 y1 y2 y3, LeO (spec_l5Draw.l0 k y0 y1 y2 y3) (spec_l5Draw.l0 (k + 1) y0 y1 y2 y3)) ∧ (∀ y0 y1 y2 y3 y4, LeO (spec_l5Draw.l1 k y0 y1 y2 y3 y4) (spec_l5Draw.l1 (k + 1) y0 y1 y2 y3 y4))
 | 0 => ⟨fun _ _ _ _ r h => by simp [spec_l5Draw.l0] at h, fun _ _ _ _ _ r h => by simp [spec_l5Draw.l1] at h⟩
 | k + 1 => by
  obtain ⟨ih0, ih1⟩ := spec_l5Draw.mono_l k; refine ⟨?_, ?_⟩
  ·intro y0 y1 y2 y3
   unfold spec_l5Draw.l0
   repeat' first
   | (with_reducible exact ih0 _ _ _ _)
   | (with_reducible exact ih1 _ _ _ _ _)
   | (with_reducible exact spec_Put.mono _ _ _ _ _)
   | (with_reducible exact spec_l1Rd_pick.mono _ _ _ _)
   | (with_reducible exact spec_l1Text.mono _ _ _)
   | (with_reducible exact spec_l4Path.mono _ _ _)
   | (with_reducible exact spec_l5Set.mono _ _ _ _ _)
   | (with_reducible exact LeO.refl _)
   | (with_reducible exact LeO.none _)
   | (with_reducible refine LeO.ite ?_ ?_)
   | (with_reducible refine LeO.bind ?_ (fun _ => ?_))
   | exact ih0 _ _ _ _
   | exact ih1 _ _ _ _ _
   | exact spec_Put.mono _ _ _ _ _
   | exact spec_l1Rd_pick.mono _ _ _ _
   | exact spec_l1Text.mono _ _ _
   | exact spec_l4Path.mono _ _ _
   | exact spec_l5Set.mono _ _ _ _ _
   | exact LeO.none _
   | refine LeO.ite ?_ ?_
   | refine LeO.bind ?_ (fun _ => ?_)
  ·intro y0 y1 y2 y3 y4
   unfold spec_l5Draw.l1
   repeat' first
   | (with_reducible exact ih0 _ _ _ _)
   | (with_reducible exact ih1 _ _ _ _ _)
   | (with_reducible exact spec_Put.mono _ _ _ _ _)
   | (with_reducible exact spec_l1Rd_pick.mono _ _ _ _)
   | (with_reducible exact spec_l1Text.mono _ _ _)
   | (with_reducible exact spec_l4Path.mono _ _ _)
   | (with_reducible exact spec_l5Set.mono _ _ _ _ _)
   | (with_reducible exact LeO.refl _)
   | (with_reducible exact LeO.none _)
   | (with_reducible refine LeO.ite ?_ ?_)
   | (with_reducible refine LeO.bind ?_ (fun _ => ?_))
   | exact ih0 _ _ _ _
   | exact ih1 _ _ _ _ _
   | exact spec_Put.mono _ _ _ _ _
   | exact spec_l1Rd_pick.mono _ _ _ _
   | exact spec_l1Text.mono _ _ _
   | exact spec_l4Path.mono _ _ _
   | exact spec_l5Set.mono _ _ _ _ _
   | exact LeO.none _
   | refine LeO.ite ?_ ?_
   | refine LeO.bind ?_ (fun _ => ?_)
theorem spec_l5Draw.mono : ∀ a0 a1 k, LeO (spec_l5Draw.f k a0 a1) (spec_l5Draw.f (k + 1) a0 a1) := by
 intro a0 a1 k; obtain ⟨ih0, ih1⟩ := spec_l5Draw.mono_l k
 unfold spec_l5Draw.f
 repeat' first
   | (with_reducible exact ih0 _ _ _ _)
   | (with_reducible exact ih1 _ _ _ _ _)
   | (with_reducible exact spec_Put.mono _ _ _ _ _)
   | (with_reducible exact spec_l1Rd_pick.mono _ _ _ _)
   | (with_reducible exact spec_l1Text.mono _ _ _)
   | (with_reducible exact spec_l4Path.mono _ _ _)
   | (with_reducible exact spec_l5Set.mono _ _ _ _ _)
   | (with_reducible exact LeO.refl _)
   | (with_reducible exact LeO.none _)
   | (with_reducible refine LeO.ite ?_ ?_)
   | (with_reducible refine LeO.bind ?_ (fun _ => ?_))
   | exact ih0 _ _ _ _
   | exact ih1 _ _ _ _ _
   | exact spec_Put.mono _ _ _ _ _
   | exact spec_l1Rd_pick.mono _ _ _ _
   | exact spec_l1Text.mono _ _ _
   | exact spec_l4Path.mono _ _ _
   | exact spec_l5Set.mono _ _ _ _ _
   | exact LeO.none _
   | refine LeO.ite ?_ ?_
   | refine LeO.bind ?_ (fun _ => ?_)
def spec_l5Draw.T5 : Bool × List (List Nat × List Nat) := (true, [([], []), ([], []), ([1], [1]), ([], []), ([3, 2], [3]), ([], []), ([5, 4], [5]), ([6], [6]), ([2, 4, 7], [2, 4, 7]), ([0, 8, 6], [0, 8]), ([9], [9]), ([10], [10]), ([10], [10]), ([], []), ([13, 11, 9, 0, 1, 2, 3, 4, 5, 6, 7, 8, 9, 10, 11, 13], [11, 13]), ([12, 14, 0, 1, 2, 3, 4, 5, 6, 7, 8, 9, 10, 11, 12, 13, 14], [12])])
def spec_l5Draw.B5 : List Nat := [0, 0, 2, 0, 14, 0, 62, 126, 254, 511, 1023, 2047, 2047, 0, 12287, 32767]
theorem spec_l5Draw.tab5 : rtab .any (opsOf Tryd.f97 5) = spec_l5Draw.T5 := by kernel_rfl
theorem spec_l5Draw.bits5 : waitsOk spec_l5Draw.T5.2 spec_l5Draw.B5 = true := by kernel_rfl
set_option maxHeartbeats 8000000 in
set_option maxRecDepth 100000 in
theorem spec_l5Draw.calls (k : Nat) (g : Nat) (s0_0 : List Int) (s0_1 : Int) (r1 : List (S27)) (r2 : Int) (w0 w : World) (hI : IsS173 w0 w g s0_0 s0_1) (hB : Below w0.heap.size w0 w) (h : spec_l5Draw.f k s0_0 s0_1 = some (r1, r2)) :
  Calls Tryd.prog 97 #[.pointer (some ⟨g, 0, none⟩)] w fun e w' => ∃ v0_ : Value, e = .returned (.agg #[v0_]) ∧ Kd.R k27 27 w' w.heap.size (fun _ => True) v0_ r1 ∧ IsS173 w0 w' g s0_0 r2 ∧ Below w0.heap.size w0 w' ∧ KeepBut w w' g none := by
 have hu25 := Tryd.underlying25; have hu27 := Tryd.underlying27; have a2 := Aside0.mk hI; have HK := Aside0.mk (KeepBut.refl w g none); have HL := Aside0.mk hB.size; clear hI; have HW0 := Aside0.mk hB.size; have HB := Aside0.mk hB; clear hB; have H : ((spec_l1Rd_pick.f k s0_0 s0_1 8).bind fun bt188 => (spec_l5Draw.l0 k bt188.1 s0_0 bt188.2 ([] : List (S27)))) = some (r1, r2) := h; clear h; replace H := Option.bind_eq_some_iff.mp H; obtain ⟨⟨bE, bF⟩, A20, H⟩ := H; replace H : (spec_l5Draw.l0 k bE s0_0 bF ([] : List (S27))) = some (r1, r2) := H; have A2 := Aside0.mk A20; clear A20; have H' := Aside0.mk H; clear H
 go_enter Tryd.func97, Tryd.ntmps97
 go_wp2_with (first | ((with_reducible refine gd 2 rfl ?_); refine bx 2 25 (#[.slice none 0 0]) ?_; intro a9 hg w3 hbox hb; refine Ya8 (IsS173.below (iq173 a2.out) hb) (KeepBut.trans (kb HK.out) (KeepBut.of_below hb g none) (.inl rfl)) (below_step (bq173 HB.out a2.out) hb) (hbox) ((by rw [hg]; exact (keep_size (w := w) (g := g) (row := none) (kb HK.out)) : w.heap.size ≤ a9)) ((Nat.le_trans HW0.out (by rw [hg]; exact (keep_size (w := w) (g := g) (row := none) (kb HK.out)) : w.heap.size ≤ a9) : w0.heap.size ≤ a9)) ((by rw [hg]; exact Nat.ne_of_lt (IsS173.lt (show IsS173 w0 _ g s0_0 s0_1 from iq173 a2.out)) : g ≠ a9)) ((by rw [hg]; exact Nat.ne_of_gt (IsS173.lt (show IsS173 w0 _ g s0_0 s0_1 from iq173 a2.out)) : a9 ≠ g)) ?_; clear a2 HK HB; intro a2 HK HB a4 GW186 GE186 bI aU; clear hb hbox hg) | ((with_reducible refine gd 3 rfl ?_); refine bx 3 25 (#[.slice none 0 0]) ?_; intro a8 hg w4 hbox hb; refine Ya11 (IsS173.below (iq173 a2.out) hb) (bb a4 hb) (KeepBut.trans (kb HK.out) (KeepBut.of_below hb g none) (.inl rfl)) (below_step (bq173 HB.out a2.out) hb) (hbox) ((by rw [hg]; exact (keep_size (w := w) (g := g) (row := none) (kb HK.out)) : w.heap.size ≤ a8)) ((Nat.le_trans HW0.out (by rw [hg]; exact (keep_size (w := w) (g := g) (row := none) (kb HK.out)) : w.heap.size ≤ a8) : w0.heap.size ≤ a8)) (bl hg a4) (br hg a4) ((by rw [hg]; exact Nat.ne_of_lt (IsS173.lt (show IsS173 w0 _ g s0_0 s0_1 from iq173 a2.out)) : g ≠ a8)) ((by rw [hg]; exact Nat.ne_of_gt (IsS173.lt (show IsS173 w0 _ g s0_0 s0_1 from iq173 a2.out)) : a8 ≠ g)) ?_; clear a2 a4 HK HB; intro a2 a4 HK HB a3 GW187 GE187 bg bn bo aK; clear hb hbox hg; have hnb5 := bn.out; have hnc5 := bg.out; have hnb6 := aK.out; have hnc6 := bo.out; have ⟨cd, ce⟩ := Yc1 a3.out) | ((with_reducible refine gc 66 rfl ?_); refine gl (some 11) _ (#[.pointer (some ⟨g, 0, none⟩), .int .i64 8]) Tryd.func66 ?_; (with_reducible refine (spec_l1Rd_pick.calls k g s0_0 s0_1 8 bE bF w0 _ ?side1 ?side2 A2.out).mono ?_); (case side1 => exact iq173 a2.out); (case side2 => exact bq173 HB.out a2.out); rintro e w8 ⟨rfl, hi, hb, hk⟩; refine ⟨_, rfl, ?_⟩; refine Ya5 (kxf hk a4 bg aU) (KeepBut.blk hk (g' := a8) (o := .cells #[.slice none 0 0] 25 (0, 0)) (bp a3.out) aK.out (by simp)) (KeepBut.trans (kb HK.out) hk (.inl rfl)) (hb) (hi) ?_; clear a4 a3 HK HB a2; intro a4 a3 HK HB a2; (try clear hb); (try clear hb2); (try clear hk); (try clear hi)))
 go_loopg [4] k (fun kq v4 w' => ∃ (aX : Int) (aW : Int) (a7 : List (S27)) (b8 : Value), v4 = .int .i64 aX ∧ Aside0 (spec_l5Draw.l0 kq aX s0_0 aW a7 = some (r1, r2)) ∧ Aside0 (kq ≤ k) ∧ Aside0 (Kd.R k27 27 w' w.heap.size (fun _ => True) b8 a7) ∧ Aside0 (w'.heap[a9]? = some (.cells #[(.slice none 0 0)] 25 (0, 0))) ∧ Aside0 (w'.heap[a8]? = some (.cells #[b8] 25 (0, 0))) ∧ Aside0 (IsS173 w0 w' g s0_0 aW) ∧ Aside0 (KeepBut w w' g none) ∧ Aside0 (Below w0.heap.size w0 w'))
 case atStart => exact ⟨(bE), (bF), (([] : List (S27))), (.slice none 0 0), Ye1, H', ⟨Nat.le_refl _⟩, ⟨nl⟩, ⟨bk a4.out⟩, ⟨bk a3.out⟩, ⟨iq173 a2.out⟩, ⟨kb HK.out⟩, ⟨bq173 HB.out a2.out⟩⟩
 case round =>
  clear H'; (try clear p2); (try clear c5); (try clear c6); (try clear cd); (try clear ce); obtain ⟨aX, aW, a7, b8, rfl, HA, HK1, a5, a4, a3, a2, HK, HB⟩ := hrel
  cases gk with
  | zero => exact absurd HA.out (by simp [spec_l5Draw.l0])
  | succ k1 =>
   have H := HA.out; clear HA; simp only [spec_l5Draw.l0] at H
   by_cases c9 : aX > 0
   ·rw [if_pos c9] at H
    have bJ : decide (0 < aX) = true := decide_eq_true c9; clear c9; replace H := Option.bind_eq_some_iff.mp H; obtain ⟨⟨aq, aL⟩, bK, H⟩ := H; replace H : ((spec_l1Text.f k1 s0_0 aL).bind fun bt192 => ((spec_l1Rd_pick.f k1 s0_0 bt192.2 4).bind fun bt194 => ((spec_Put.f k1 a7 aq bt192.1 (bt194.1 == 0)).bind fun bt196 => (if bt196.2 = 0 then (spec_l5Draw.l0 k1 (wrap64 (aX - 1)) s0_0 bt194.2 bt196.1) else (spec_l5Draw.l0 k1 (wrap64 (aX - 1)) s0_0 bt194.2 a7))))) = some (r1, r2) := H; have bz := Aside0.mk bK; clear bK; replace H := Option.bind_eq_some_iff.mp H; obtain ⟨⟨ay, aM⟩, bL, H⟩ := H; replace H : ((spec_l1Rd_pick.f k1 s0_0 aM 4).bind fun bt194 => ((spec_Put.f k1 a7 aq ay (bt194.1 == 0)).bind fun bt196 => (if bt196.2 = 0 then (spec_l5Draw.l0 k1 (wrap64 (aX - 1)) s0_0 bt194.2 bt196.1) else (spec_l5Draw.l0 k1 (wrap64 (aX - 1)) s0_0 bt194.2 a7)))) = some (r1, r2) := H; have bA := Aside0.mk bL; clear bL; replace H := Option.bind_eq_some_iff.mp H; obtain ⟨⟨au, az⟩, bM, H⟩ := H; replace H : ((spec_Put.f k1 a7 aq ay (au == 0)).bind fun bt196 => (if bt196.2 = 0 then (spec_l5Draw.l0 k1 (wrap64 (aX - 1)) s0_0 az bt196.1) else (spec_l5Draw.l0 k1 (wrap64 (aX - 1)) s0_0 az a7))) = some (r1, r2) := H; have bB := Aside0.mk bM; clear bM; replace H := Option.bind_eq_some_iff.mp H; obtain ⟨⟨aV, aI⟩, bN, H⟩ := H; replace H : (if aI = 0 then (spec_l5Draw.l0 k1 (wrap64 (aX - 1)) s0_0 az aV) else (spec_l5Draw.l0 k1 (wrap64 (aX - 1)) s0_0 az a7)) = some (r1, r2) := H; have bC := Aside0.mk bN; clear bN
    by_cases bh : aI = 0
    ·rw [if_pos bh] at H
     have cf : (aI == 0) = true := beq_iff_eq.mpr bh; have cg : (aI != 0) = false := bne_eq_false_iff_eq.mpr bh; clear bh; have H' := Aside0.mk H; clear H; obtain ⟨ad, ae, ch⟩ := Kd.R_slice a5.out; subst ch
     try go_wp2
     refine Ya6 (Kd.R_drew a5.out) (blk_drew a4.out) (blk_drew a3.out) (IsS173.drew a2.out) (keep_drew HK.out) (below_drew1 HB.out) ?_; clear a5 a4 a3 a2 HK HB; intro a5 a4 a3 a2 HK HB; refine start_ (n := 16) (S := fun w' => w'.cell? ⟨a8, 0, none⟩ = some (.slice ad a7.length ae)) (ds := []) (fb 16 0) (by kernel_rfl) rfl rfl (bc a3 0) (fun hHeld => ?_); refine with_tabW spec_l5Draw.tab5 spec_l5Draw.bits5 (fun HT_ HW_ => ?_); generalize wr.drew = w16 at a5 a4 a3 a2 HK HB hHeld ⊢; refine pu 1 18 (fb 16 2) HT_ ?_; refine pu 3 20 (fb 16 10) HT_ ?_; refine pu 5 22 (fb 16 42) HT_ ?_; refine take_ (i := 0) (N := some 17) (v := ?_) (a' := ?_) (fb 16 43) rfl rfl (take_ofW HT_.out HW_.out (by kernel_rfl)) (fun _ _ _ h => h) (Or.inl ⟨by rfl, ?_⟩) hHeld ?_ ?_; rotate_left
     ·intro w' s0; go_simp; (with_reducible rfl)
     rotate_left
     ·simp only [Act.put, List.setIfInBounds_toArray, List.set_cons_zero, List.set_cons_succ, i64_w, i32_w]; rfl
     refine join_ (σ := Value × Nat) 2 (fb 16 16383) (fun s_ => [(19, .string aq), (21, .string ay), (23, .int .i64 au), (26, .tuple #[.agg #[s_.1], .int .i64 aI]), (5, .pointer (some ⟨s_.2, 0, none⟩)), (24, .bool (au == 0)), (25, .agg #[.string aq, .string ay, .bool (au == 0)]), (16, .tuple #[.agg #[s_.1], .int .i64 aI]), (27, .agg #[s_.1]), (28, .int .i64 aI)]) (fun s_ w' => (w'.cell? ⟨a8, 0, none⟩ = some (.slice ad a7.length ae)) ∧ (Kd.R k27 27 w' w.heap.size (fun k_ => some k_ ≠ (.slice ad a7.length ae : Value).ownBlock) s_.1 aV) ∧ (Kd.R k27 27 w' w.heap.size (fun k_ => some k_ ≠ (s_.1 : Value).ownBlock) (.slice ad a7.length ae) a7) ∧ (w'.heap[a9]? = some (.cells #[.slice none 0 0] 25 (0, 0))) ∧ (w'.heap[a8]? = some (.cells #[.slice ad a7.length ae] 25 (0, 0))) ∧ (w'.heap[s_.2]? = some (.cells #[.slice none 0 0] 25 (0, 0))) ∧ (w.heap.size ≤ s_.2) ∧ (w0.heap.size ≤ s_.2) ∧ (g ≠ s_.2) ∧ (s_.2 ≠ g) ∧ (a9 ≠ s_.2) ∧ (s_.2 ≠ a9) ∧ (a8 ≠ s_.2) ∧ (s_.2 ≠ a8) ∧ (IsS173 w0 w' g s0_0 az) ∧ (KeepBut w w' g none) ∧ (Below w0.heap.size w0 w')) ?_ ?_; rotate_left
     ·intro hJ2_4_6_9_13; refine join_ (σ := Value) 3 (fb 16 8191) (fun s_ => [(19, .string aq), (21, .string ay), (23, .int .i64 au), (26, .tuple #[.agg #[s_], .int .i64 aI]), (24, .bool (au == 0)), (25, .agg #[.string aq, .string ay, .bool (au == 0)]), (16, .tuple #[.agg #[s_], .int .i64 aI]), (27, .agg #[s_]), (28, .int .i64 aI)]) (fun s_ w' => (w'.cell? ⟨a8, 0, none⟩ = some (.slice ad a7.length ae)) ∧ (Kd.R k27 27 w' w.heap.size (fun k_ => some k_ ≠ (.slice ad a7.length ae : Value).ownBlock) s_ aV) ∧ (Kd.R k27 27 w' w.heap.size (fun k_ => some k_ ≠ (s_ : Value).ownBlock) (.slice ad a7.length ae) a7) ∧ (w'.heap[a9]? = some (.cells #[.slice none 0 0] 25 (0, 0))) ∧ (w'.heap[a8]? = some (.cells #[.slice ad a7.length ae] 25 (0, 0))) ∧ (IsS173 w0 w' g s0_0 az) ∧ (KeepBut w w' g none) ∧ (Below w0.heap.size w0 w')) ?_ ?_; rotate_left
      ·intro hJ2_4_6_9; refine join_ (σ := Nat) 6 (fb 16 8703) (fun s_ => [(19, .string aq), (21, .string ay), (23, .int .i64 au), (5, .pointer (some ⟨s_, 0, none⟩)), (24, .bool (au == 0)), (25, .agg #[.string aq, .string ay, .bool (au == 0)])]) (fun s_ w' => (w'.cell? ⟨a8, 0, none⟩ = some (.slice ad a7.length ae)) ∧ (Kd.R k27 27 w' w.heap.size (fun _ => True) (.slice ad a7.length ae) a7) ∧ (w'.heap[a9]? = some (.cells #[.slice none 0 0] 25 (0, 0))) ∧ (w'.heap[a8]? = some (.cells #[.slice ad a7.length ae] 25 (0, 0))) ∧ (w'.heap[s_]? = some (.cells #[.slice none 0 0] 25 (0, 0))) ∧ (w.heap.size ≤ s_) ∧ (w0.heap.size ≤ s_) ∧ (g ≠ s_) ∧ (s_ ≠ g) ∧ (a9 ≠ s_) ∧ (s_ ≠ a9) ∧ (a8 ≠ s_) ∧ (s_ ≠ a8) ∧ (IsS173 w0 w' g s0_0 az) ∧ (KeepBut w w' g none) ∧ (Below w0.heap.size w0 w')) ?_ ?_; rotate_left
       ·intro hJ2_4_6_13; refine join_ (σ := Unit) 7 (fb 16 511) (fun s_ => [(19, .string aq), (21, .string ay), (23, .int .i64 au), (24, .bool (au == 0)), (25, .agg #[.string aq, .string ay, .bool (au == 0)])]) (fun s_ w' => (w'.cell? ⟨a8, 0, none⟩ = some (.slice ad a7.length ae)) ∧ (Kd.R k27 27 w' w.heap.size (fun _ => True) (.slice ad a7.length ae) a7) ∧ (w'.heap[a9]? = some (.cells #[.slice none 0 0] 25 (0, 0))) ∧ (w'.heap[a8]? = some (.cells #[.slice ad a7.length ae] 25 (0, 0))) ∧ (IsS173 w0 w' g s0_0 az) ∧ (KeepBut w w' g none) ∧ (Below w0.heap.size w0 w')) ?_ ?_; rotate_left
        ·intro hJ2_4_6; refine join_ (σ := Nat) 9 (fb 16 8255) (fun s_ => [(19, .string aq), (21, .string ay), (5, .pointer (some ⟨s_, 0, none⟩))]) (fun s_ w' => (w'.cell? ⟨a8, 0, none⟩ = some (.slice ad a7.length ae)) ∧ (Kd.R k27 27 w' w.heap.size (fun _ => True) (.slice ad a7.length ae) a7) ∧ (w'.heap[a9]? = some (.cells #[.slice none 0 0] 25 (0, 0))) ∧ (w'.heap[a8]? = some (.cells #[.slice ad a7.length ae] 25 (0, 0))) ∧ (w'.heap[s_]? = some (.cells #[.slice none 0 0] 25 (0, 0))) ∧ (w.heap.size ≤ s_) ∧ (w0.heap.size ≤ s_) ∧ (g ≠ s_) ∧ (s_ ≠ g) ∧ (a9 ≠ s_) ∧ (s_ ≠ a9) ∧ (a8 ≠ s_) ∧ (s_ ≠ a8) ∧ (IsS173 w0 w' g s0_0 aM) ∧ (KeepBut w w' g none) ∧ (Below w0.heap.size w0 w')) ?_ ?_; rotate_left
         ·intro hJ2_4_13; refine join_ (σ := Unit) 10 (fb 16 63) (fun s_ => [(19, .string aq), (21, .string ay)]) (fun s_ w' => (w'.cell? ⟨a8, 0, none⟩ = some (.slice ad a7.length ae)) ∧ (Kd.R k27 27 w' w.heap.size (fun _ => True) (.slice ad a7.length ae) a7) ∧ (w'.heap[a9]? = some (.cells #[.slice none 0 0] 25 (0, 0))) ∧ (w'.heap[a8]? = some (.cells #[.slice ad a7.length ae] 25 (0, 0))) ∧ (IsS173 w0 w' g s0_0 aM) ∧ (KeepBut w w' g none) ∧ (Below w0.heap.size w0 w')) ?_ ?_; rotate_left
          ·intro hJ2_4; refine join_ (σ := Nat) 10 (fb 16 8239) (fun s_ => [(19, .string aq), (5, .pointer (some ⟨s_, 0, none⟩))]) (fun s_ w' => (w'.cell? ⟨a8, 0, none⟩ = some (.slice ad a7.length ae)) ∧ (Kd.R k27 27 w' w.heap.size (fun _ => True) (.slice ad a7.length ae) a7) ∧ (w'.heap[a9]? = some (.cells #[.slice none 0 0] 25 (0, 0))) ∧ (w'.heap[a8]? = some (.cells #[.slice ad a7.length ae] 25 (0, 0))) ∧ (w'.heap[s_]? = some (.cells #[.slice none 0 0] 25 (0, 0))) ∧ (w.heap.size ≤ s_) ∧ (w0.heap.size ≤ s_) ∧ (g ≠ s_) ∧ (s_ ≠ g) ∧ (a9 ≠ s_) ∧ (s_ ≠ a9) ∧ (a8 ≠ s_) ∧ (s_ ≠ a8) ∧ (IsS173 w0 w' g s0_0 aL) ∧ (KeepBut w w' g none) ∧ (Below w0.heap.size w0 w')) ?_ ?_; rotate_left
           ·intro hJ2_13; refine join_ (σ := Unit) 11 (fb 16 47) (fun s_ => [(19, .string aq)]) (fun s_ w' => (w'.cell? ⟨a8, 0, none⟩ = some (.slice ad a7.length ae)) ∧ (Kd.R k27 27 w' w.heap.size (fun _ => True) (.slice ad a7.length ae) a7) ∧ (w'.heap[a9]? = some (.cells #[.slice none 0 0] 25 (0, 0))) ∧ (w'.heap[a8]? = some (.cells #[.slice ad a7.length ae] 25 (0, 0))) ∧ (IsS173 w0 w' g s0_0 aL) ∧ (KeepBut w w' g none) ∧ (Below w0.heap.size w0 w')) ?_ ?_; rotate_left
            ·intro hJ2; refine join_ (σ := Nat) 11 (fb 16 8235) (fun s_ => [(5, .pointer (some ⟨s_, 0, none⟩))]) (fun s_ w' => (w'.cell? ⟨a8, 0, none⟩ = some (.slice ad a7.length ae)) ∧ (Kd.R k27 27 w' w.heap.size (fun _ => True) (.slice ad a7.length ae) a7) ∧ (w'.heap[a9]? = some (.cells #[.slice none 0 0] 25 (0, 0))) ∧ (w'.heap[a8]? = some (.cells #[.slice ad a7.length ae] 25 (0, 0))) ∧ (w'.heap[s_]? = some (.cells #[.slice none 0 0] 25 (0, 0))) ∧ (w.heap.size ≤ s_) ∧ (w0.heap.size ≤ s_) ∧ (g ≠ s_) ∧ (s_ ≠ g) ∧ (a9 ≠ s_) ∧ (s_ ≠ a9) ∧ (a8 ≠ s_) ∧ (s_ ≠ a8) ∧ (IsS173 w0 w' g s0_0 aW) ∧ (KeepBut w w' g none) ∧ (Below w0.heap.size w0 w')) ?_ ?_; rotate_left
             ·intro hJ13; refine two_ (i := 2) (j := 13) (Ni := some 19) (Nj := some 5) (fb 16 47) (fb 16 8235) rfl rfl rfl rfl (two_of HT_.out (by kernel_rfl)) (by decide) (by decide) (fun K hK => ?_) (fun K hK => ?_)
              ·skip
               refine gs _ (#[.pointer (some ⟨g, 0, none⟩)]) Tryd.func77 ?_; (with_reducible refine (spec_l4Path.calls k1 g s0_0 aW aq aL w0 _ ?side1 ?side2 bz.out).mono ?_); (case side1 => exact iq173 a2.out); (case side2 => exact bq173 HB.out a2.out); rintro e w17 ⟨rfl, hi, hb, hk⟩; refine ⟨_, rfl, ?_⟩; refine Ya6 (ra173 (iq173 a2.out) (kr a5.out) hk) (kx hk a4 aU) (kx hk a3 aK) (KeepBut.trans (kb HK.out) hk (.inl rfl)) (hb) (hi) ?_; clear a5 a4 a3 HK HB a2; intro a5 a4 a3 HK HB a2; (try clear hb); (try clear hb2); (try clear hk); (try clear hi); refine hK.out _ _ (bc a3 0) (fun hHeld => ?_); clear hK K; refine nm 19 ?_; exact norm_ (by first | (simp only [putAll, Act.put, List.setIfInBounds_toArray, List.set_cons_zero, List.set_cons_succ]; done) | (simp only [putAll, Act.put, List.setIfInBounds_toArray, List.set_cons_zero, List.set_cons_succ]; rfl)) (hJ2 () _ ⟨hHeld, (kr a5.out), (bk a4.out), (bk a3.out), (iq173 a2.out), (kb HK.out), (bq173 HB.out a2.out)⟩)
              ·skip
               refine bst 5 25 (#[.slice none 0 0]) ?_; intro a6 hg w17 hbox hb; refine Ya15 (Kd.R_below (kr a5.out) hb) (bb a4 hb) (bb a3 hb) (IsS173.below (iq173 a2.out) hb) (KeepBut.trans (kb HK.out) (KeepBut.of_below hb g none) (.inl rfl)) (below_step (bq173 HB.out a2.out) hb) (hbox) ((by rw [hg]; exact (keep_size (w := w) (g := g) (row := none) (kb HK.out)) : w.heap.size ≤ a6)) ((Nat.le_trans HW0.out (by rw [hg]; exact (keep_size (w := w) (g := g) (row := none) (kb HK.out)) : w.heap.size ≤ a6) : w0.heap.size ≤ a6)) (bl hg a4) (br hg a4) (bl hg a3) (br hg a3) ((by rw [hg]; exact Nat.ne_of_lt (IsS173.lt (show IsS173 w0 _ g s0_0 aW from iq173 a2.out)) : g ≠ a6)) ((by rw [hg]; exact Nat.ne_of_gt (IsS173.lt (show IsS173 w0 _ g s0_0 aW from iq173 a2.out)) : a6 ≠ g)) ?_; clear a5 a4 a3 a2 HK HB; intro a5 a4 a3 a2 HK HB aa av aw an ao am ap ar al; clear hb hbox hg; refine hK.out _ _ (bc a3 0) (fun hHeld => ?_); clear hK K; refine nm 5 ?_; exact norm_ (by first | (simp only [putAll, Act.put, List.setIfInBounds_toArray, List.set_cons_zero, List.set_cons_succ]; done) | (simp only [putAll, Act.put, List.setIfInBounds_toArray, List.set_cons_zero, List.set_cons_succ]; rfl)) (hJ13 (a6) _ ⟨hHeld, (kr a5.out), (bk a4.out), (bk a3.out), (bk aa.out), av.out, aw.out, ar.out, al.out, an.out, ao.out, am.out, ap.out, (iq173 a2.out), (kb HK.out), (bq173 HB.out a2.out)⟩)
             ·skip
              rintro a6 aY ⟨hS_, h0_, h1_, h2_, h3_, h4_, h5_, h6_, h7_, h8_, h9_, h10_, h11_, h12_, h13_, h14_⟩
              have af : Aside0 (Kd.R k27 27 aY w.heap.size (fun _ => True) (.slice ad a7.length ae) a7) := ⟨h0_⟩
              have ag : Aside0 (aY.heap[a9]? = some (.cells #[.slice none 0 0] 25 (0, 0))) := ⟨h1_⟩
              have ah : Aside0 (aY.heap[a8]? = some (.cells #[.slice ad a7.length ae] 25 (0, 0))) := ⟨h2_⟩
              have ai : Aside0 (aY.heap[a6]? = some (.cells #[.slice none 0 0] 25 (0, 0))) := ⟨h3_⟩
              have aj : Aside0 (w.heap.size ≤ a6) := ⟨h4_⟩
              have ak : Aside0 (w0.heap.size ≤ a6) := ⟨h5_⟩
              have ax : Aside0 (g ≠ a6) := ⟨h6_⟩
              have aA : Aside0 (a6 ≠ g) := ⟨h7_⟩
              have aB : Aside0 (a9 ≠ a6) := ⟨h8_⟩
              have aC : Aside0 (a6 ≠ a9) := ⟨h9_⟩
              have aD : Aside0 (a8 ≠ a6) := ⟨h10_⟩
              have aE : Aside0 (a6 ≠ a8) := ⟨h11_⟩
              have aF : Aside0 (IsS173 w0 aY g s0_0 aW) := ⟨h12_⟩
              have aG : Aside0 (KeepBut w aY g none) := ⟨h13_⟩
              have aH : Aside0 (Below w0.heap.size w0 aY) := ⟨h14_⟩
              clear a5; clear a4; clear a3; clear a2; clear HK; clear HB; clear h0_ h1_ h2_ h3_ h4_ h5_ h6_ h7_ h8_ h9_ h10_ h11_ h12_ h13_ h14_; have a5 := af; have a4 := ag; have a3 := ah; have aa := ai; have av := aj; have aw := ak; have ar := ax; have al := aA; have an := aB; have ao := aC; have am := aD; have ap := aE; have a2 := aF; have HK := aG; have HB := aH; clear af ag ah ai aj ak ax aA aB aC aD aE aF aG aH; have hHeld : aY.cell? ⟨a8, 0, none⟩ = some (.slice ad a7.length ae) := hS_; refine norm_ (a' := ?_) ?_ ?_; rotate_left
              ·simp only [putAll, Act.put, List.setIfInBounds_toArray, List.set_cons_zero, List.set_cons_succ]; rfl
              refine o1 2 (some 19) (fb 16 8239) HT_ (fun K hK => ?_); refine gs _ (#[.pointer (some ⟨g, 0, none⟩)]) Tryd.func77 ?_; (with_reducible refine (spec_l4Path.calls k1 g s0_0 aW aq aL w0 _ ?side1 ?side2 bz.out).mono ?_); (case side1 => exact iq173 a2.out); (case side2 => exact bq173 HB.out a2.out); rintro e aQ ⟨rfl, hi, hb, hk⟩; refine ⟨_, rfl, ?_⟩; refine Ya7 (ra173 (iq173 a2.out) (kr a5.out) hk) (kx hk a4 aU) (kx hk a3 aK) (kx hk aa al) (KeepBut.trans (kb HK.out) hk (.inl rfl)) (hb) (hi) ?_; clear a5 a4 a3 aa HK HB a2; intro a5 a4 a3 aa HK HB a2; (try clear hb); (try clear hb2); (try clear hk); (try clear hi); refine hK.out _ _ (bc a3 0) (fun hHeld => ?_); clear hK K; refine nm 19 ?_; exact norm_ (by first | (simp only [putAll, Act.put, List.setIfInBounds_toArray, List.set_cons_zero, List.set_cons_succ]; done) | (simp only [putAll, Act.put, List.setIfInBounds_toArray, List.set_cons_zero, List.set_cons_succ]; rfl)) (hJ2_13 (a6) _ ⟨hHeld, (kr a5.out), (bk a4.out), (bk a3.out), (bk aa.out), av.out, aw.out, ar.out, al.out, an.out, ao.out, am.out, ap.out, (iq173 a2.out), (kb HK.out), (bq173 HB.out a2.out)⟩)
            ·skip
             rintro _ aY ⟨hS_, h0_, h1_, h2_, h3_, h4_, h5_⟩
             have af : Aside0 (Kd.R k27 27 aY w.heap.size (fun _ => True) (.slice ad a7.length ae) a7) := ⟨h0_⟩
             have ag : Aside0 (aY.heap[a9]? = some (.cells #[.slice none 0 0] 25 (0, 0))) := ⟨h1_⟩
             have ah : Aside0 (aY.heap[a8]? = some (.cells #[.slice ad a7.length ae] 25 (0, 0))) := ⟨h2_⟩
             have ai : Aside0 (IsS173 w0 aY g s0_0 aL) := ⟨h3_⟩
             have aj : Aside0 (KeepBut w aY g none) := ⟨h4_⟩
             have ak : Aside0 (Below w0.heap.size w0 aY) := ⟨h5_⟩
             clear a5; clear a4; clear a3; clear a2; clear HK; clear HB; clear h0_ h1_ h2_ h3_ h4_ h5_; have a5 := af; have a4 := ag; have a3 := ah; have a2 := ai; have HK := aj; have HB := ak; clear af ag ah ai aj ak; have hHeld : aY.cell? ⟨a8, 0, none⟩ = some (.slice ad a7.length ae) := hS_; refine norm_ (a' := ?_) ?_ ?_; rotate_left
             ·simp only [putAll, Act.put, List.setIfInBounds_toArray, List.set_cons_zero, List.set_cons_succ]; rfl
             refine two_ (i := 4) (j := 13) (Ni := some 21) (Nj := some 5) (fb 16 63) (fb 16 8239) rfl rfl rfl rfl (two_of HT_.out (by kernel_rfl)) (by decide) (by decide) (fun K hK => ?_) (fun K hK => ?_)
             ·skip
              refine gs _ (#[.pointer (some ⟨g, 0, none⟩)]) Tryd.func65 ?_; (with_reducible refine (spec_l1Text.calls k1 g s0_0 aL ay aM w0 _ ?side1 ?side2 bA.out).mono ?_); (case side1 => exact iq173 a2.out); (case side2 => exact bq173 HB.out a2.out); rintro e aQ ⟨rfl, hi, hb, hk⟩; refine ⟨_, rfl, ?_⟩; refine Ya6 (ra173 (iq173 a2.out) (kr a5.out) hk) (kx hk a4 aU) (kx hk a3 aK) (KeepBut.trans (kb HK.out) hk (.inl rfl)) (hb) (hi) ?_; clear a5 a4 a3 HK HB a2; intro a5 a4 a3 HK HB a2; (try clear hb); (try clear hb2); (try clear hk); (try clear hi); refine hK.out _ _ (bc a3 0) (fun hHeld => ?_); clear hK K; refine nm 21 ?_; exact norm_ (by first | (simp only [putAll, Act.put, List.setIfInBounds_toArray, List.set_cons_zero, List.set_cons_succ]; done) | (simp only [putAll, Act.put, List.setIfInBounds_toArray, List.set_cons_zero, List.set_cons_succ]; rfl)) (hJ2_4 () _ ⟨hHeld, (kr a5.out), (bk a4.out), (bk a3.out), (iq173 a2.out), (kb HK.out), (bq173 HB.out a2.out)⟩)
             ·skip
              refine bst 5 25 (#[.slice none 0 0]) ?_; intro a6 hg aQ hbox hb; refine Ya15 (Kd.R_below (kr a5.out) hb) (bb a4 hb) (bb a3 hb) (IsS173.below (iq173 a2.out) hb) (KeepBut.trans (kb HK.out) (KeepBut.of_below hb g none) (.inl rfl)) (below_step (bq173 HB.out a2.out) hb) (hbox) ((by rw [hg]; exact (keep_size (w := w) (g := g) (row := none) (kb HK.out)) : w.heap.size ≤ a6)) ((Nat.le_trans HW0.out (by rw [hg]; exact (keep_size (w := w) (g := g) (row := none) (kb HK.out)) : w.heap.size ≤ a6) : w0.heap.size ≤ a6)) (bl hg a4) (br hg a4) (bl hg a3) (br hg a3) ((by rw [hg]; exact Nat.ne_of_lt (IsS173.lt (show IsS173 w0 _ g s0_0 aL from iq173 a2.out)) : g ≠ a6)) ((by rw [hg]; exact Nat.ne_of_gt (IsS173.lt (show IsS173 w0 _ g s0_0 aL from iq173 a2.out)) : a6 ≠ g)) ?_; clear a5 a4 a3 a2 HK HB; intro a5 a4 a3 a2 HK HB aa av aw an ao am ap ar al; clear hb hbox hg; refine hK.out _ _ (bc a3 0) (fun hHeld => ?_); clear hK K; refine nm 5 ?_; exact norm_ (by first | (simp only [putAll, Act.put, List.setIfInBounds_toArray, List.set_cons_zero, List.set_cons_succ]; done) | (simp only [putAll, Act.put, List.setIfInBounds_toArray, List.set_cons_zero, List.set_cons_succ]; rfl)) (hJ2_13 (a6) _ ⟨hHeld, (kr a5.out), (bk a4.out), (bk a3.out), (bk aa.out), av.out, aw.out, ar.out, al.out, an.out, ao.out, am.out, ap.out, (iq173 a2.out), (kb HK.out), (bq173 HB.out a2.out)⟩)
           ·skip
            rintro a6 aQ ⟨hS_, h0_, h1_, h2_, h3_, h4_, h5_, h6_, h7_, h8_, h9_, h10_, h11_, h12_, h13_, h14_⟩
            have af : Aside0 (Kd.R k27 27 aQ w.heap.size (fun _ => True) (.slice ad a7.length ae) a7) := ⟨h0_⟩
            have ag : Aside0 (aQ.heap[a9]? = some (.cells #[.slice none 0 0] 25 (0, 0))) := ⟨h1_⟩
            have ah : Aside0 (aQ.heap[a8]? = some (.cells #[.slice ad a7.length ae] 25 (0, 0))) := ⟨h2_⟩
            have ai : Aside0 (aQ.heap[a6]? = some (.cells #[.slice none 0 0] 25 (0, 0))) := ⟨h3_⟩
            have aj : Aside0 (w.heap.size ≤ a6) := ⟨h4_⟩
            have ak : Aside0 (w0.heap.size ≤ a6) := ⟨h5_⟩
            have ax : Aside0 (g ≠ a6) := ⟨h6_⟩
            have aA : Aside0 (a6 ≠ g) := ⟨h7_⟩
            have aB : Aside0 (a9 ≠ a6) := ⟨h8_⟩
            have aC : Aside0 (a6 ≠ a9) := ⟨h9_⟩
            have aD : Aside0 (a8 ≠ a6) := ⟨h10_⟩
            have aE : Aside0 (a6 ≠ a8) := ⟨h11_⟩
            have aF : Aside0 (IsS173 w0 aQ g s0_0 aL) := ⟨h12_⟩
            have aG : Aside0 (KeepBut w aQ g none) := ⟨h13_⟩
            have aH : Aside0 (Below w0.heap.size w0 aQ) := ⟨h14_⟩
            clear a5; clear a4; clear a3; clear a2; clear HK; clear HB; clear h0_ h1_ h2_ h3_ h4_ h5_ h6_ h7_ h8_ h9_ h10_ h11_ h12_ h13_ h14_; have a5 := af; have a4 := ag; have a3 := ah; have aa := ai; have av := aj; have aw := ak; have ar := ax; have al := aA; have an := aB; have ao := aC; have am := aD; have ap := aE; have a2 := aF; have HK := aG; have HB := aH; clear af ag ah ai aj ak ax aA aB aC aD aE aF aG aH; have hHeld : aQ.cell? ⟨a8, 0, none⟩ = some (.slice ad a7.length ae) := hS_; refine norm_ (a' := ?_) ?_ ?_; rotate_left
            ·simp only [putAll, Act.put, List.setIfInBounds_toArray, List.set_cons_zero, List.set_cons_succ]; rfl
            refine o1 4 (some 21) (fb 16 8255) HT_ (fun K hK => ?_); refine gs _ (#[.pointer (some ⟨g, 0, none⟩)]) Tryd.func65 ?_; (with_reducible refine (spec_l1Text.calls k1 g s0_0 aL ay aM w0 _ ?side1 ?side2 bA.out).mono ?_); (case side1 => exact iq173 a2.out); (case side2 => exact bq173 HB.out a2.out); rintro e aR ⟨rfl, hi, hb, hk⟩; refine ⟨_, rfl, ?_⟩; refine Ya7 (ra173 (iq173 a2.out) (kr a5.out) hk) (kx hk a4 aU) (kx hk a3 aK) (kx hk aa al) (KeepBut.trans (kb HK.out) hk (.inl rfl)) (hb) (hi) ?_; clear a5 a4 a3 aa HK HB a2; intro a5 a4 a3 aa HK HB a2; (try clear hb); (try clear hb2); (try clear hk); (try clear hi); refine hK.out _ _ (bc a3 0) (fun hHeld => ?_); clear hK K; refine nm 21 ?_; exact norm_ (by first | (simp only [putAll, Act.put, List.setIfInBounds_toArray, List.set_cons_zero, List.set_cons_succ]; done) | (simp only [putAll, Act.put, List.setIfInBounds_toArray, List.set_cons_zero, List.set_cons_succ]; rfl)) (hJ2_4_13 (a6) _ ⟨hHeld, (kr a5.out), (bk a4.out), (bk a3.out), (bk aa.out), av.out, aw.out, ar.out, al.out, an.out, ao.out, am.out, ap.out, (iq173 a2.out), (kb HK.out), (bq173 HB.out a2.out)⟩)
          ·skip
           rintro _ aQ ⟨hS_, h0_, h1_, h2_, h3_, h4_, h5_⟩
           have af : Aside0 (Kd.R k27 27 aQ w.heap.size (fun _ => True) (.slice ad a7.length ae) a7) := ⟨h0_⟩
           have ag : Aside0 (aQ.heap[a9]? = some (.cells #[.slice none 0 0] 25 (0, 0))) := ⟨h1_⟩
           have ah : Aside0 (aQ.heap[a8]? = some (.cells #[.slice ad a7.length ae] 25 (0, 0))) := ⟨h2_⟩
           have ai : Aside0 (IsS173 w0 aQ g s0_0 aM) := ⟨h3_⟩
           have aj : Aside0 (KeepBut w aQ g none) := ⟨h4_⟩
           have ak : Aside0 (Below w0.heap.size w0 aQ) := ⟨h5_⟩
           clear a5; clear a4; clear a3; clear a2; clear HK; clear HB; clear h0_ h1_ h2_ h3_ h4_ h5_; have a5 := af; have a4 := ag; have a3 := ah; have a2 := ai; have HK := aj; have HB := ak; clear af ag ah ai aj ak; have hHeld : aQ.cell? ⟨a8, 0, none⟩ = some (.slice ad a7.length ae) := hS_; refine norm_ (a' := ?_) ?_ ?_; rotate_left
           ·simp only [putAll, Act.put, List.setIfInBounds_toArray, List.set_cons_zero, List.set_cons_succ]; rfl
           refine two_ (i := 6) (j := 13) (Ni := some 23) (Nj := some 5) (fb 16 127) (fb 16 8255) rfl rfl rfl rfl (two_of HT_.out (by kernel_rfl)) (by decide) (by decide) (fun K hK => ?_) (fun K hK => ?_)
           ·skip
            refine gs _ (#[.pointer (some ⟨g, 0, none⟩), .int .i64 4]) Tryd.func66 ?_; (with_reducible refine (spec_l1Rd_pick.calls k1 g s0_0 aM 4 au az w0 _ ?side1 ?side2 bB.out).mono ?_); (case side1 => exact iq173 a2.out); (case side2 => exact bq173 HB.out a2.out); rintro e aR ⟨rfl, hi, hb, hk⟩; refine ⟨_, rfl, ?_⟩; refine Ya6 (ra173 (iq173 a2.out) (kr a5.out) hk) (kx hk a4 aU) (kx hk a3 aK) (KeepBut.trans (kb HK.out) hk (.inl rfl)) (hb) (hi) ?_; clear a5 a4 a3 HK HB a2; intro a5 a4 a3 HK HB a2; (try clear hb); (try clear hb2); (try clear hk); (try clear hi); refine hK.out _ _ (bc a3 0) (fun hHeld => ?_); clear hK K; refine nm 23 ?_; refine pu 7 24 (fb 16 255) HT_ ?_; refine pu 8 25 (fb 16 511) HT_ ?_; exact norm_ (by first | (simp only [putAll, Act.put, List.setIfInBounds_toArray, List.set_cons_zero, List.set_cons_succ]; done) | (simp only [putAll, Act.put, List.setIfInBounds_toArray, List.set_cons_zero, List.set_cons_succ]; rfl)) (hJ2_4_6 () _ ⟨hHeld, (kr a5.out), (bk a4.out), (bk a3.out), (iq173 a2.out), (kb HK.out), (bq173 HB.out a2.out)⟩)
           ·skip
            refine bst 5 25 (#[.slice none 0 0]) ?_; intro a6 hg aR hbox hb; refine Ya15 (Kd.R_below (kr a5.out) hb) (bb a4 hb) (bb a3 hb) (IsS173.below (iq173 a2.out) hb) (KeepBut.trans (kb HK.out) (KeepBut.of_below hb g none) (.inl rfl)) (below_step (bq173 HB.out a2.out) hb) (hbox) ((by rw [hg]; exact (keep_size (w := w) (g := g) (row := none) (kb HK.out)) : w.heap.size ≤ a6)) ((Nat.le_trans HW0.out (by rw [hg]; exact (keep_size (w := w) (g := g) (row := none) (kb HK.out)) : w.heap.size ≤ a6) : w0.heap.size ≤ a6)) (bl hg a4) (br hg a4) (bl hg a3) (br hg a3) ((by rw [hg]; exact Nat.ne_of_lt (IsS173.lt (show IsS173 w0 _ g s0_0 aM from iq173 a2.out)) : g ≠ a6)) ((by rw [hg]; exact Nat.ne_of_gt (IsS173.lt (show IsS173 w0 _ g s0_0 aM from iq173 a2.out)) : a6 ≠ g)) ?_; clear a5 a4 a3 a2 HK HB; intro a5 a4 a3 a2 HK HB aa av aw an ao am ap ar al; clear hb hbox hg; refine hK.out _ _ (bc a3 0) (fun hHeld => ?_); clear hK K; refine nm 5 ?_; exact norm_ (by first | (simp only [putAll, Act.put, List.setIfInBounds_toArray, List.set_cons_zero, List.set_cons_succ]; done) | (simp only [putAll, Act.put, List.setIfInBounds_toArray, List.set_cons_zero, List.set_cons_succ]; rfl)) (hJ2_4_13 (a6) _ ⟨hHeld, (kr a5.out), (bk a4.out), (bk a3.out), (bk aa.out), av.out, aw.out, ar.out, al.out, an.out, ao.out, am.out, ap.out, (iq173 a2.out), (kb HK.out), (bq173 HB.out a2.out)⟩)
         ·skip
          rintro a6 aR ⟨hS_, h0_, h1_, h2_, h3_, h4_, h5_, h6_, h7_, h8_, h9_, h10_, h11_, h12_, h13_, h14_⟩
          have af : Aside0 (Kd.R k27 27 aR w.heap.size (fun _ => True) (.slice ad a7.length ae) a7) := ⟨h0_⟩
          have ag : Aside0 (aR.heap[a9]? = some (.cells #[.slice none 0 0] 25 (0, 0))) := ⟨h1_⟩
          have ah : Aside0 (aR.heap[a8]? = some (.cells #[.slice ad a7.length ae] 25 (0, 0))) := ⟨h2_⟩
          have ai : Aside0 (aR.heap[a6]? = some (.cells #[.slice none 0 0] 25 (0, 0))) := ⟨h3_⟩
          have aj : Aside0 (w.heap.size ≤ a6) := ⟨h4_⟩
          have ak : Aside0 (w0.heap.size ≤ a6) := ⟨h5_⟩
          have ax : Aside0 (g ≠ a6) := ⟨h6_⟩
          have aA : Aside0 (a6 ≠ g) := ⟨h7_⟩
          have aB : Aside0 (a9 ≠ a6) := ⟨h8_⟩
          have aC : Aside0 (a6 ≠ a9) := ⟨h9_⟩
          have aD : Aside0 (a8 ≠ a6) := ⟨h10_⟩
          have aE : Aside0 (a6 ≠ a8) := ⟨h11_⟩
          have aF : Aside0 (IsS173 w0 aR g s0_0 aM) := ⟨h12_⟩
          have aG : Aside0 (KeepBut w aR g none) := ⟨h13_⟩
          have aH : Aside0 (Below w0.heap.size w0 aR) := ⟨h14_⟩
          clear a5; clear a4; clear a3; clear a2; clear HK; clear HB; clear h0_ h1_ h2_ h3_ h4_ h5_ h6_ h7_ h8_ h9_ h10_ h11_ h12_ h13_ h14_; have a5 := af; have a4 := ag; have a3 := ah; have aa := ai; have av := aj; have aw := ak; have ar := ax; have al := aA; have an := aB; have ao := aC; have am := aD; have ap := aE; have a2 := aF; have HK := aG; have HB := aH; clear af ag ah ai aj ak ax aA aB aC aD aE aF aG aH; have hHeld : aR.cell? ⟨a8, 0, none⟩ = some (.slice ad a7.length ae) := hS_; refine norm_ (a' := ?_) ?_ ?_; rotate_left
          ·simp only [putAll, Act.put, List.setIfInBounds_toArray, List.set_cons_zero, List.set_cons_succ]; rfl
          refine o1 6 (some 23) (fb 16 8319) HT_ (fun K hK => ?_); refine gs _ (#[.pointer (some ⟨g, 0, none⟩), .int .i64 4]) Tryd.func66 ?_; (with_reducible refine (spec_l1Rd_pick.calls k1 g s0_0 aM 4 au az w0 _ ?side1 ?side2 bB.out).mono ?_); (case side1 => exact iq173 a2.out); (case side2 => exact bq173 HB.out a2.out); rintro e aO ⟨rfl, hi, hb, hk⟩; refine ⟨_, rfl, ?_⟩; refine Ya7 (ra173 (iq173 a2.out) (kr a5.out) hk) (kx hk a4 aU) (kx hk a3 aK) (kx hk aa al) (KeepBut.trans (kb HK.out) hk (.inl rfl)) (hb) (hi) ?_; clear a5 a4 a3 aa HK HB a2; intro a5 a4 a3 aa HK HB a2; (try clear hb); (try clear hb2); (try clear hk); (try clear hi); refine hK.out _ _ (bc a3 0) (fun hHeld => ?_); clear hK K; refine nm 23 ?_; refine pu 7 24 (fb 16 8447) HT_ ?_; refine pu 8 25 (fb 16 8703) HT_ ?_; exact norm_ (by first | (simp only [putAll, Act.put, List.setIfInBounds_toArray, List.set_cons_zero, List.set_cons_succ]; done) | (simp only [putAll, Act.put, List.setIfInBounds_toArray, List.set_cons_zero, List.set_cons_succ]; rfl)) (hJ2_4_6_13 (a6) _ ⟨hHeld, (kr a5.out), (bk a4.out), (bk a3.out), (bk aa.out), av.out, aw.out, ar.out, al.out, an.out, ao.out, am.out, ap.out, (iq173 a2.out), (kb HK.out), (bq173 HB.out a2.out)⟩)
        ·skip
         rintro _ aR ⟨hS_, h0_, h1_, h2_, h3_, h4_, h5_⟩
         have af : Aside0 (Kd.R k27 27 aR w.heap.size (fun _ => True) (.slice ad a7.length ae) a7) := ⟨h0_⟩
         have ag : Aside0 (aR.heap[a9]? = some (.cells #[.slice none 0 0] 25 (0, 0))) := ⟨h1_⟩
         have ah : Aside0 (aR.heap[a8]? = some (.cells #[.slice ad a7.length ae] 25 (0, 0))) := ⟨h2_⟩
         have ai : Aside0 (IsS173 w0 aR g s0_0 az) := ⟨h3_⟩
         have aj : Aside0 (KeepBut w aR g none) := ⟨h4_⟩
         have ak : Aside0 (Below w0.heap.size w0 aR) := ⟨h5_⟩
         clear a5; clear a4; clear a3; clear a2; clear HK; clear HB; clear h0_ h1_ h2_ h3_ h4_ h5_; have a5 := af; have a4 := ag; have a3 := ah; have a2 := ai; have HK := aj; have HB := ak; clear af ag ah ai aj ak; have hHeld : aR.cell? ⟨a8, 0, none⟩ = some (.slice ad a7.length ae) := hS_; refine norm_ (a' := ?_) ?_ ?_; rotate_left
         ·simp only [putAll, Act.put, List.setIfInBounds_toArray, List.set_cons_zero, List.set_cons_succ]; rfl
         refine two_ (i := 9) (j := 13) (Ni := some 26) (Nj := some 5) (fb 16 1023) (fb 16 8703) rfl rfl rfl rfl (two_of HT_.out (by kernel_rfl)) (by decide) (by decide) (fun K hK => ?_) (fun K hK => ?_)
         ·skip
          refine gs _ (#[.agg #[.slice ad a7.length ae], .agg #[.string aq, .string ay, .bool (au == 0)]]) Tryd.func15 ?_; (with_reducible refine (spec_Put.calls k1 _ _ a7 aq ay (au == 0) aV aI _ ?side1 ?side2 bC.out).mono ?_); (case side1 => repeat (first | exact (Kd.R_reads' a5.out).2.2 | (with_reducible refine Kd.C_alloc ?_ _) | (with_reducible refine Kd.C_drewN ?_ _) | (with_reducible refine Kd.C_drew ?_))); (case side2 => exact (Kd.R_reads' a5.out).2.1); rintro e aO ⟨aN, rfl, ho0, hb⟩; refine ⟨_, rfl, ?_⟩; refine Ya7 (Kd.R_elder' (kr a5.out) (Kd.R_base ho0) hb) (Kd.R_lower (Kd.R_new' ho0 (Kd.R_lt (kr a5.out))) (keep_size (w := w) (g := g) (row := none) (kb HK.out))) (bb a4 hb) (bb a3 hb) (IsS173.below (iq173 a2.out) hb) (KeepBut.trans (kb HK.out) (KeepBut.of_below hb g none) (.inl rfl)) (below_step (bq173 HB.out a2.out) hb) ?_; clear a5 a4 a3 a2 HK HB; intro a5 aJ a4 a3 a2 HK HB; (try clear hb); (try clear hb2); (try clear hk); (try clear hi); (try clear ho0); refine hK.out _ _ (bc a3 0) (fun hHeld => ?_); clear hK K; refine nm 26 ?_; refine pu 10 16 (fb 16 2047) HT_ ?_; refine pu 11 27 (fb 16 4095) HT_ ?_; refine pu 12 28 (fb 16 8191) HT_ ?_; exact norm_ (by first | (simp only [putAll, Act.put, List.setIfInBounds_toArray, List.set_cons_zero, List.set_cons_succ]; done) | (simp only [putAll, Act.put, List.setIfInBounds_toArray, List.set_cons_zero, List.set_cons_succ]; rfl)) (hJ2_4_6_9 (aN) _ ⟨hHeld, (by (with_reducible repeat (first | apply Kd.R_alloc | apply Kd.R_drewN | apply Kd.R_drew)); exact Kd.R_mono aJ.out (fun _ hk => hk.2)), (by (with_reducible repeat (first | apply Kd.R_alloc | apply Kd.R_drewN | apply Kd.R_drew)); exact Kd.R_mono a5.out (fun _ hk => hk.2)), (bk a4.out), (bk a3.out), (iq173 a2.out), (kb HK.out), (bq173 HB.out a2.out)⟩)
         ·skip
          refine bst 5 25 (#[.slice none 0 0]) ?_; intro a6 hg aO hbox hb; refine Ya15 (Kd.R_below (kr a5.out) hb) (bb a4 hb) (bb a3 hb) (IsS173.below (iq173 a2.out) hb) (KeepBut.trans (kb HK.out) (KeepBut.of_below hb g none) (.inl rfl)) (below_step (bq173 HB.out a2.out) hb) (hbox) ((by rw [hg]; exact (keep_size (w := w) (g := g) (row := none) (kb HK.out)) : w.heap.size ≤ a6)) ((Nat.le_trans HW0.out (by rw [hg]; exact (keep_size (w := w) (g := g) (row := none) (kb HK.out)) : w.heap.size ≤ a6) : w0.heap.size ≤ a6)) (bl hg a4) (br hg a4) (bl hg a3) (br hg a3) ((by rw [hg]; exact Nat.ne_of_lt (IsS173.lt (show IsS173 w0 _ g s0_0 az from iq173 a2.out)) : g ≠ a6)) ((by rw [hg]; exact Nat.ne_of_gt (IsS173.lt (show IsS173 w0 _ g s0_0 az from iq173 a2.out)) : a6 ≠ g)) ?_; clear a5 a4 a3 a2 HK HB; intro a5 a4 a3 a2 HK HB aa av aw an ao am ap ar al; clear hb hbox hg; refine hK.out _ _ (bc a3 0) (fun hHeld => ?_); clear hK K; refine nm 5 ?_; exact norm_ (by first | (simp only [putAll, Act.put, List.setIfInBounds_toArray, List.set_cons_zero, List.set_cons_succ]; done) | (simp only [putAll, Act.put, List.setIfInBounds_toArray, List.set_cons_zero, List.set_cons_succ]; rfl)) (hJ2_4_6_13 (a6) _ ⟨hHeld, (kr a5.out), (bk a4.out), (bk a3.out), (bk aa.out), av.out, aw.out, ar.out, al.out, an.out, ao.out, am.out, ap.out, (iq173 a2.out), (kb HK.out), (bq173 HB.out a2.out)⟩)
       ·skip
        rintro a6 aO ⟨hS_, h0_, h1_, h2_, h3_, h4_, h5_, h6_, h7_, h8_, h9_, h10_, h11_, h12_, h13_, h14_⟩
        have af : Aside0 (Kd.R k27 27 aO w.heap.size (fun _ => True) (.slice ad a7.length ae) a7) := ⟨h0_⟩
        have ag : Aside0 (aO.heap[a9]? = some (.cells #[.slice none 0 0] 25 (0, 0))) := ⟨h1_⟩
        have ah : Aside0 (aO.heap[a8]? = some (.cells #[.slice ad a7.length ae] 25 (0, 0))) := ⟨h2_⟩
        have ai : Aside0 (aO.heap[a6]? = some (.cells #[.slice none 0 0] 25 (0, 0))) := ⟨h3_⟩
        have aj : Aside0 (w.heap.size ≤ a6) := ⟨h4_⟩
        have ak : Aside0 (w0.heap.size ≤ a6) := ⟨h5_⟩
        have ax : Aside0 (g ≠ a6) := ⟨h6_⟩
        have aA : Aside0 (a6 ≠ g) := ⟨h7_⟩
        have aB : Aside0 (a9 ≠ a6) := ⟨h8_⟩
        have aC : Aside0 (a6 ≠ a9) := ⟨h9_⟩
        have aD : Aside0 (a8 ≠ a6) := ⟨h10_⟩
        have aE : Aside0 (a6 ≠ a8) := ⟨h11_⟩
        have aF : Aside0 (IsS173 w0 aO g s0_0 az) := ⟨h12_⟩
        have aG : Aside0 (KeepBut w aO g none) := ⟨h13_⟩
        have aH : Aside0 (Below w0.heap.size w0 aO) := ⟨h14_⟩
        clear a5; clear a4; clear a3; clear a2; clear HK; clear HB; clear h0_ h1_ h2_ h3_ h4_ h5_ h6_ h7_ h8_ h9_ h10_ h11_ h12_ h13_ h14_; have a5 := af; have a4 := ag; have a3 := ah; have aa := ai; have av := aj; have aw := ak; have ar := ax; have al := aA; have an := aB; have ao := aC; have am := aD; have ap := aE; have a2 := aF; have HK := aG; have HB := aH; clear af ag ah ai aj ak ax aA aB aC aD aE aF aG aH; have hHeld : aO.cell? ⟨a8, 0, none⟩ = some (.slice ad a7.length ae) := hS_; refine norm_ (a' := ?_) ?_ ?_; rotate_left
        ·simp only [putAll, Act.put, List.setIfInBounds_toArray, List.set_cons_zero, List.set_cons_succ]; rfl
        refine o1 9 (some 26) (fb 16 9215) HT_ (fun K hK => ?_); refine gs _ (#[.agg #[.slice ad a7.length ae], .agg #[.string aq, .string ay, .bool (au == 0)]]) Tryd.func15 ?_; (with_reducible refine (spec_Put.calls k1 _ _ a7 aq ay (au == 0) aV aI _ ?side1 ?side2 bC.out).mono ?_); (case side1 => repeat (first | exact (Kd.R_reads' a5.out).2.2 | (with_reducible refine Kd.C_alloc ?_ _) | (with_reducible refine Kd.C_drewN ?_ _) | (with_reducible refine Kd.C_drew ?_))); (case side2 => exact (Kd.R_reads' a5.out).2.1); rintro e b1 ⟨aN, rfl, ho0, hb⟩; refine ⟨_, rfl, ?_⟩; refine Ya8 (Kd.R_elder' (kr a5.out) (Kd.R_base ho0) hb) (Kd.R_lower (Kd.R_new' ho0 (Kd.R_lt (kr a5.out))) (keep_size (w := w) (g := g) (row := none) (kb HK.out))) (bb a4 hb) (bb a3 hb) (IsS173.below (iq173 a2.out) hb) (bb aa hb) (KeepBut.trans (kb HK.out) (KeepBut.of_below hb g none) (.inl rfl)) (below_step (bq173 HB.out a2.out) hb) ?_; clear a5 a4 a3 a2 aa HK HB; intro a5 aJ a4 a3 a2 aa HK HB; (try clear hb); (try clear hb2); (try clear hk); (try clear hi); (try clear ho0); refine hK.out _ _ (bc a3 0) (fun hHeld => ?_); clear hK K; refine nm 26 ?_; refine pu 10 16 (fb 16 10239) HT_ ?_; refine pu 11 27 (fb 16 12287) HT_ ?_; refine pu 12 28 (fb 16 16383) HT_ ?_; exact norm_ (by first | (simp only [putAll, Act.put, List.setIfInBounds_toArray, List.set_cons_zero, List.set_cons_succ]; done) | (simp only [putAll, Act.put, List.setIfInBounds_toArray, List.set_cons_zero, List.set_cons_succ]; rfl)) (hJ2_4_6_9_13 (aN, a6) _ ⟨hHeld, (by (with_reducible repeat (first | apply Kd.R_alloc | apply Kd.R_drewN | apply Kd.R_drew)); exact Kd.R_mono aJ.out (fun _ hk => hk.2)), (by (with_reducible repeat (first | apply Kd.R_alloc | apply Kd.R_drewN | apply Kd.R_drew)); exact Kd.R_mono a5.out (fun _ hk => hk.2)), (bk a4.out), (bk a3.out), (bk aa.out), av.out, aw.out, ar.out, al.out, an.out, ao.out, am.out, ap.out, (iq173 a2.out), (kb HK.out), (bq173 HB.out a2.out)⟩)
      ·skip
       rintro aN aO ⟨hS_, h0_, h1_, h2_, h3_, h4_, h5_, h6_⟩
       have af : Aside0 (Kd.R k27 27 aO w.heap.size (fun k_ => some k_ ≠ (.slice ad a7.length ae : Value).ownBlock) aN aV) := ⟨h0_⟩
       have ag : Aside0 (Kd.R k27 27 aO w.heap.size (fun k_ => some k_ ≠ (aN : Value).ownBlock) (.slice ad a7.length ae) a7) := ⟨h1_⟩
       have ah : Aside0 (aO.heap[a9]? = some (.cells #[.slice none 0 0] 25 (0, 0))) := ⟨h2_⟩
       have ai : Aside0 (aO.heap[a8]? = some (.cells #[.slice ad a7.length ae] 25 (0, 0))) := ⟨h3_⟩
       have aj : Aside0 (IsS173 w0 aO g s0_0 az) := ⟨h4_⟩
       have ak : Aside0 (KeepBut w aO g none) := ⟨h5_⟩
       have ax : Aside0 (Below w0.heap.size w0 aO) := ⟨h6_⟩
       clear a5; clear a4; clear a3; clear a2; clear HK; clear HB; clear h0_ h1_ h2_ h3_ h4_ h5_ h6_; have aJ := af; have a5 := ag; have a4 := ah; have a3 := ai; have a2 := aj; have HK := ak; have HB := ax; clear af ag ah ai aj ak ax; have hHeld : aO.cell? ⟨a8, 0, none⟩ = some (.slice ad a7.length ae) := hS_; refine norm_ (a' := ?_) ?_ ?_; rotate_left
       ·simp only [putAll, Act.put, List.setIfInBounds_toArray, List.set_cons_zero, List.set_cons_succ]; rfl
       refine o1 13 (some 5) (fb 16 16383) HT_ (fun K hK => ?_); refine bst 5 25 (#[.slice none 0 0]) ?_; intro a6 hg b1 hbox hb; refine Ya16 (Kd.R_below (kr a5.out) hb) (Kd.R_below (kr aJ.out) hb) (bb a4 hb) (bb a3 hb) (IsS173.below (iq173 a2.out) hb) (KeepBut.trans (kb HK.out) (KeepBut.of_below hb g none) (.inl rfl)) (below_step (bq173 HB.out a2.out) hb) (hbox) ((by rw [hg]; exact (keep_size (w := w) (g := g) (row := none) (kb HK.out)) : w.heap.size ≤ a6)) ((Nat.le_trans HW0.out (by rw [hg]; exact (keep_size (w := w) (g := g) (row := none) (kb HK.out)) : w.heap.size ≤ a6) : w0.heap.size ≤ a6)) (bl hg a4) (br hg a4) (bl hg a3) (br hg a3) ((by rw [hg]; exact Nat.ne_of_lt (IsS173.lt (show IsS173 w0 _ g s0_0 az from iq173 a2.out)) : g ≠ a6)) ((by rw [hg]; exact Nat.ne_of_gt (IsS173.lt (show IsS173 w0 _ g s0_0 az from iq173 a2.out)) : a6 ≠ g)) ?_; clear a5 aJ a4 a3 a2 HK HB; intro a5 aJ a4 a3 a2 HK HB aa av aw an ao am ap ar al; clear hb hbox hg; refine hK.out _ _ (bc a3 0) (fun hHeld => ?_); clear hK K; refine nm 5 ?_; exact norm_ (by first | (simp only [putAll, Act.put, List.setIfInBounds_toArray, List.set_cons_zero, List.set_cons_succ]; done) | (simp only [putAll, Act.put, List.setIfInBounds_toArray, List.set_cons_zero, List.set_cons_succ]; rfl)) (hJ2_4_6_9_13 (aN, a6) _ ⟨hHeld, (kr aJ.out), (kr a5.out), (bk a4.out), (bk a3.out), (bk aa.out), av.out, aw.out, ar.out, al.out, an.out, ao.out, am.out, ap.out, (iq173 a2.out), (kb HK.out), (bq173 HB.out a2.out)⟩)
     rintro ⟨aN, a6⟩ b1 ⟨hS_, h0_, h1_, h2_, h3_, h4_, h5_, h6_, h7_, h8_, h9_, h10_, h11_, h12_, h13_, h14_, h15_⟩
     have af : Aside0 (Kd.R k27 27 b1 w.heap.size (fun k_ => some k_ ≠ (.slice ad a7.length ae : Value).ownBlock) aN aV) := ⟨h0_⟩
     have ag : Aside0 (Kd.R k27 27 b1 w.heap.size (fun k_ => some k_ ≠ (aN : Value).ownBlock) (.slice ad a7.length ae) a7) := ⟨h1_⟩
     have ah : Aside0 (b1.heap[a9]? = some (.cells #[.slice none 0 0] 25 (0, 0))) := ⟨h2_⟩
     have ai : Aside0 (b1.heap[a8]? = some (.cells #[.slice ad a7.length ae] 25 (0, 0))) := ⟨h3_⟩
     have aj : Aside0 (b1.heap[a6]? = some (.cells #[.slice none 0 0] 25 (0, 0))) := ⟨h4_⟩
     have ak : Aside0 (w.heap.size ≤ a6) := ⟨h5_⟩
     have ax : Aside0 (w0.heap.size ≤ a6) := ⟨h6_⟩
     have aA : Aside0 (g ≠ a6) := ⟨h7_⟩
     have aB : Aside0 (a6 ≠ g) := ⟨h8_⟩
     have aC : Aside0 (a9 ≠ a6) := ⟨h9_⟩
     have aD : Aside0 (a6 ≠ a9) := ⟨h10_⟩
     have aE : Aside0 (a8 ≠ a6) := ⟨h11_⟩
     have aF : Aside0 (a6 ≠ a8) := ⟨h12_⟩
     have aG : Aside0 (IsS173 w0 b1 g s0_0 az) := ⟨h13_⟩
     have aH : Aside0 (KeepBut w b1 g none) := ⟨h14_⟩
     have bq : Aside0 (Below w0.heap.size w0 b1) := ⟨h15_⟩
     clear a5; clear a4; clear a3; clear a2; clear HK; clear HB; clear h0_ h1_ h2_ h3_ h4_ h5_ h6_ h7_ h8_ h9_ h10_ h11_ h12_ h13_ h14_ h15_; have aJ := af; have a5 := ag; have a4 := ah; have a3 := ai; have aa := aj; have av := ak; have aw := ax; have ar := aA; have al := aB; have an := aC; have ao := aD; have am := aE; have ap := aF; have a2 := aG; have HK := aH; have HB := bq; clear af ag ah ai aj ak ax aA aB aC aD aE aF aG aH bq; have hHeld : b1.cell? ⟨a8, 0, none⟩ = some (.slice ad a7.length ae) := hS_; obtain ⟨bG, bH, bO⟩ := Kd.R_slice aJ.out; (first | subst bO | (injection bO with f1_ f2_ f3_; have f4_ := f1_.symm; have f5_ := f3_.symm; clear f1_ f2_ f3_; subst f4_; subst f5_)); refine norm_ (a' := ?_) ?_ ?_; rotate_left
     ·simp only [putAll, Act.put, List.setIfInBounds_toArray, List.set_cons_zero, List.set_cons_succ]; rfl
     refine o1 14 none (fb 16 32767) HT_ (fun K hK => ?_); have ⟨hs24, hfs24⟩ := Yc1 aa.out; have cs := an.out; have ct := am.out; have cu := ao.out; have cv := ap.out; refine skip_ (w1 := ?_) (by rfl) rfl ?_ ?_; rotate_left
     ·go_simp; rfl
     refine hK.out _ _ (((cell_far (p := ⟨a6, _, none⟩) am.out _).trans (hHeld))) (fun hHeld => ?_); clear hK K; refine pu 15 6 (fb 16 65535) HT_ ?_; refine done_ (done_of HT_.out (by kernel_rfl)) ?_; have hnb25 := ao.out; have hnc25 := an.out; have hnb26 := ap.out; have hnc26 := am.out; have hnb27 := al.out; have hnc27 := ar.out; have ⟨cw, cx⟩ := Yc1 aa.out; have hnb29 := bn.out; have hnc29 := bg.out; have hnb30 := aK.out; have hnc30 := bo.out; have ⟨cy, cz⟩ := Yc1 a3.out
     try go_wp2
     go_roundg k1
     case measure => have := HK1.out; omega
     case rel => exact ⟨(wrap64 (aX - 1)), (az), (aV), (.slice bG aV.length bH), Ye1, H', ⟨by have := HK1.out; omega⟩, ⟨by (with_reducible repeat (first | apply Kd.R_alloc | apply Kd.R_drewN | apply Kd.R_drew)); exact Kd.R_mono (Kd.R_far (p := ⟨a8, 0, none⟩) (Kd.R_far (p := ⟨a6, 0, none⟩) (Kd.R_types (Kd.R_types aJ.out aa.out (by decide)) a3.out (by decide)) (fun _ hk => hk.1.2) (.slice bG aV.length bH)) (fun _ hk => hk.2) (.slice bG aV.length bH)) (fun _ hk => trivial)⟩, ⟨bp a4.out⟩, ⟨bp a3.out⟩, ⟨iq173 a2.out⟩, ⟨kb HK.out⟩, ⟨bq173 HB.out a2.out⟩⟩
    ·rw [if_neg bh] at H
     have cf : (aI == 0) = false := beq_eq_false_iff_ne.mpr bh; have cg : (aI != 0) = true := bne_iff_ne.mpr bh; have H' := Aside0.mk H; clear H; obtain ⟨ab, ac, ci⟩ := Kd.R_slice a5.out; subst ci
     try go_wp2
     refine Ya6 (Kd.R_drew a5.out) (blk_drew a4.out) (blk_drew a3.out) (IsS173.drew a2.out) (keep_drew HK.out) (below_drew1 HB.out) ?_; clear a5 a4 a3 a2 HK HB; intro a5 a4 a3 a2 HK HB; refine start_ (n := 16) (S := fun w' => w'.cell? ⟨a8, 0, none⟩ = some (.slice ab a7.length ac)) (ds := []) (fb 16 0) (by kernel_rfl) rfl rfl (bc a3 0) (fun hHeld => ?_); refine with_tabW spec_l5Draw.tab5 spec_l5Draw.bits5 (fun HT_ HW_ => ?_); generalize wr.drew = w33 at a5 a4 a3 a2 HK HB hHeld ⊢; refine pu 1 18 (fb 16 2) HT_ ?_; refine pu 3 20 (fb 16 10) HT_ ?_; refine pu 5 22 (fb 16 42) HT_ ?_; refine take_ (i := 0) (N := some 17) (v := ?_) (a' := ?_) (fb 16 43) rfl rfl (take_ofW HT_.out HW_.out (by kernel_rfl)) (fun _ _ _ h => h) (Or.inl ⟨by rfl, ?_⟩) hHeld ?_ ?_; rotate_left
     ·intro w' s0; go_simp; (with_reducible rfl)
     rotate_left
     ·simp only [Act.put, List.setIfInBounds_toArray, List.set_cons_zero, List.set_cons_succ, i64_w, i32_w]; rfl
     refine join_ (σ := Value × Nat) 2 (fb 16 16383) (fun s_ => [(19, .string aq), (21, .string ay), (23, .int .i64 au), (26, .tuple #[.agg #[s_.1], .int .i64 aI]), (5, .pointer (some ⟨s_.2, 0, none⟩)), (24, .bool (au == 0)), (25, .agg #[.string aq, .string ay, .bool (au == 0)]), (16, .tuple #[.agg #[s_.1], .int .i64 aI]), (27, .agg #[s_.1]), (28, .int .i64 aI)]) (fun s_ w' => (w'.cell? ⟨a8, 0, none⟩ = some (.slice ab a7.length ac)) ∧ (Kd.R k27 27 w' w.heap.size (fun k_ => some k_ ≠ (.slice ab a7.length ac : Value).ownBlock) s_.1 aV) ∧ (Kd.R k27 27 w' w.heap.size (fun k_ => some k_ ≠ (s_.1 : Value).ownBlock) (.slice ab a7.length ac) a7) ∧ (w'.heap[a9]? = some (.cells #[.slice none 0 0] 25 (0, 0))) ∧ (w'.heap[a8]? = some (.cells #[.slice ab a7.length ac] 25 (0, 0))) ∧ (w'.heap[s_.2]? = some (.cells #[.slice none 0 0] 25 (0, 0))) ∧ (w.heap.size ≤ s_.2) ∧ (w0.heap.size ≤ s_.2) ∧ (g ≠ s_.2) ∧ (s_.2 ≠ g) ∧ (a9 ≠ s_.2) ∧ (s_.2 ≠ a9) ∧ (a8 ≠ s_.2) ∧ (s_.2 ≠ a8) ∧ (IsS173 w0 w' g s0_0 az) ∧ (KeepBut w w' g none) ∧ (Below w0.heap.size w0 w')) ?_ ?_; rotate_left
     ·intro hJ2_4_6_9_13; refine join_ (σ := Value) 3 (fb 16 8191) (fun s_ => [(19, .string aq), (21, .string ay), (23, .int .i64 au), (26, .tuple #[.agg #[s_], .int .i64 aI]), (24, .bool (au == 0)), (25, .agg #[.string aq, .string ay, .bool (au == 0)]), (16, .tuple #[.agg #[s_], .int .i64 aI]), (27, .agg #[s_]), (28, .int .i64 aI)]) (fun s_ w' => (w'.cell? ⟨a8, 0, none⟩ = some (.slice ab a7.length ac)) ∧ (Kd.R k27 27 w' w.heap.size (fun k_ => some k_ ≠ (.slice ab a7.length ac : Value).ownBlock) s_ aV) ∧ (Kd.R k27 27 w' w.heap.size (fun k_ => some k_ ≠ (s_ : Value).ownBlock) (.slice ab a7.length ac) a7) ∧ (w'.heap[a9]? = some (.cells #[.slice none 0 0] 25 (0, 0))) ∧ (w'.heap[a8]? = some (.cells #[.slice ab a7.length ac] 25 (0, 0))) ∧ (IsS173 w0 w' g s0_0 az) ∧ (KeepBut w w' g none) ∧ (Below w0.heap.size w0 w')) ?_ ?_; rotate_left
      ·intro hJ2_4_6_9; refine join_ (σ := Nat) 6 (fb 16 8703) (fun s_ => [(19, .string aq), (21, .string ay), (23, .int .i64 au), (5, .pointer (some ⟨s_, 0, none⟩)), (24, .bool (au == 0)), (25, .agg #[.string aq, .string ay, .bool (au == 0)])]) (fun s_ w' => (w'.cell? ⟨a8, 0, none⟩ = some (.slice ab a7.length ac)) ∧ (Kd.R k27 27 w' w.heap.size (fun _ => True) (.slice ab a7.length ac) a7) ∧ (w'.heap[a9]? = some (.cells #[.slice none 0 0] 25 (0, 0))) ∧ (w'.heap[a8]? = some (.cells #[.slice ab a7.length ac] 25 (0, 0))) ∧ (w'.heap[s_]? = some (.cells #[.slice none 0 0] 25 (0, 0))) ∧ (w.heap.size ≤ s_) ∧ (w0.heap.size ≤ s_) ∧ (g ≠ s_) ∧ (s_ ≠ g) ∧ (a9 ≠ s_) ∧ (s_ ≠ a9) ∧ (a8 ≠ s_) ∧ (s_ ≠ a8) ∧ (IsS173 w0 w' g s0_0 az) ∧ (KeepBut w w' g none) ∧ (Below w0.heap.size w0 w')) ?_ ?_; rotate_left
       ·intro hJ2_4_6_13; refine join_ (σ := Unit) 7 (fb 16 511) (fun s_ => [(19, .string aq), (21, .string ay), (23, .int .i64 au), (24, .bool (au == 0)), (25, .agg #[.string aq, .string ay, .bool (au == 0)])]) (fun s_ w' => (w'.cell? ⟨a8, 0, none⟩ = some (.slice ab a7.length ac)) ∧ (Kd.R k27 27 w' w.heap.size (fun _ => True) (.slice ab a7.length ac) a7) ∧ (w'.heap[a9]? = some (.cells #[.slice none 0 0] 25 (0, 0))) ∧ (w'.heap[a8]? = some (.cells #[.slice ab a7.length ac] 25 (0, 0))) ∧ (IsS173 w0 w' g s0_0 az) ∧ (KeepBut w w' g none) ∧ (Below w0.heap.size w0 w')) ?_ ?_; rotate_left
        ·intro hJ2_4_6; refine join_ (σ := Nat) 9 (fb 16 8255) (fun s_ => [(19, .string aq), (21, .string ay), (5, .pointer (some ⟨s_, 0, none⟩))]) (fun s_ w' => (w'.cell? ⟨a8, 0, none⟩ = some (.slice ab a7.length ac)) ∧ (Kd.R k27 27 w' w.heap.size (fun _ => True) (.slice ab a7.length ac) a7) ∧ (w'.heap[a9]? = some (.cells #[.slice none 0 0] 25 (0, 0))) ∧ (w'.heap[a8]? = some (.cells #[.slice ab a7.length ac] 25 (0, 0))) ∧ (w'.heap[s_]? = some (.cells #[.slice none 0 0] 25 (0, 0))) ∧ (w.heap.size ≤ s_) ∧ (w0.heap.size ≤ s_) ∧ (g ≠ s_) ∧ (s_ ≠ g) ∧ (a9 ≠ s_) ∧ (s_ ≠ a9) ∧ (a8 ≠ s_) ∧ (s_ ≠ a8) ∧ (IsS173 w0 w' g s0_0 aM) ∧ (KeepBut w w' g none) ∧ (Below w0.heap.size w0 w')) ?_ ?_; rotate_left
         ·intro hJ2_4_13; refine join_ (σ := Unit) 10 (fb 16 63) (fun s_ => [(19, .string aq), (21, .string ay)]) (fun s_ w' => (w'.cell? ⟨a8, 0, none⟩ = some (.slice ab a7.length ac)) ∧ (Kd.R k27 27 w' w.heap.size (fun _ => True) (.slice ab a7.length ac) a7) ∧ (w'.heap[a9]? = some (.cells #[.slice none 0 0] 25 (0, 0))) ∧ (w'.heap[a8]? = some (.cells #[.slice ab a7.length ac] 25 (0, 0))) ∧ (IsS173 w0 w' g s0_0 aM) ∧ (KeepBut w w' g none) ∧ (Below w0.heap.size w0 w')) ?_ ?_; rotate_left
          ·intro hJ2_4; refine join_ (σ := Nat) 10 (fb 16 8239) (fun s_ => [(19, .string aq), (5, .pointer (some ⟨s_, 0, none⟩))]) (fun s_ w' => (w'.cell? ⟨a8, 0, none⟩ = some (.slice ab a7.length ac)) ∧ (Kd.R k27 27 w' w.heap.size (fun _ => True) (.slice ab a7.length ac) a7) ∧ (w'.heap[a9]? = some (.cells #[.slice none 0 0] 25 (0, 0))) ∧ (w'.heap[a8]? = some (.cells #[.slice ab a7.length ac] 25 (0, 0))) ∧ (w'.heap[s_]? = some (.cells #[.slice none 0 0] 25 (0, 0))) ∧ (w.heap.size ≤ s_) ∧ (w0.heap.size ≤ s_) ∧ (g ≠ s_) ∧ (s_ ≠ g) ∧ (a9 ≠ s_) ∧ (s_ ≠ a9) ∧ (a8 ≠ s_) ∧ (s_ ≠ a8) ∧ (IsS173 w0 w' g s0_0 aL) ∧ (KeepBut w w' g none) ∧ (Below w0.heap.size w0 w')) ?_ ?_; rotate_left
           ·intro hJ2_13; refine join_ (σ := Unit) 11 (fb 16 47) (fun s_ => [(19, .string aq)]) (fun s_ w' => (w'.cell? ⟨a8, 0, none⟩ = some (.slice ab a7.length ac)) ∧ (Kd.R k27 27 w' w.heap.size (fun _ => True) (.slice ab a7.length ac) a7) ∧ (w'.heap[a9]? = some (.cells #[.slice none 0 0] 25 (0, 0))) ∧ (w'.heap[a8]? = some (.cells #[.slice ab a7.length ac] 25 (0, 0))) ∧ (IsS173 w0 w' g s0_0 aL) ∧ (KeepBut w w' g none) ∧ (Below w0.heap.size w0 w')) ?_ ?_; rotate_left
            ·intro hJ2; refine join_ (σ := Nat) 11 (fb 16 8235) (fun s_ => [(5, .pointer (some ⟨s_, 0, none⟩))]) (fun s_ w' => (w'.cell? ⟨a8, 0, none⟩ = some (.slice ab a7.length ac)) ∧ (Kd.R k27 27 w' w.heap.size (fun _ => True) (.slice ab a7.length ac) a7) ∧ (w'.heap[a9]? = some (.cells #[.slice none 0 0] 25 (0, 0))) ∧ (w'.heap[a8]? = some (.cells #[.slice ab a7.length ac] 25 (0, 0))) ∧ (w'.heap[s_]? = some (.cells #[.slice none 0 0] 25 (0, 0))) ∧ (w.heap.size ≤ s_) ∧ (w0.heap.size ≤ s_) ∧ (g ≠ s_) ∧ (s_ ≠ g) ∧ (a9 ≠ s_) ∧ (s_ ≠ a9) ∧ (a8 ≠ s_) ∧ (s_ ≠ a8) ∧ (IsS173 w0 w' g s0_0 aW) ∧ (KeepBut w w' g none) ∧ (Below w0.heap.size w0 w')) ?_ ?_; rotate_left
             ·intro hJ13; refine two_ (i := 2) (j := 13) (Ni := some 19) (Nj := some 5) (fb 16 47) (fb 16 8235) rfl rfl rfl rfl (two_of HT_.out (by kernel_rfl)) (by decide) (by decide) (fun K hK => ?_) (fun K hK => ?_)
              ·skip
               refine gs _ (#[.pointer (some ⟨g, 0, none⟩)]) Tryd.func77 ?_; (with_reducible refine (spec_l4Path.calls k1 g s0_0 aW aq aL w0 _ ?side1 ?side2 bz.out).mono ?_); (case side1 => exact iq173 a2.out); (case side2 => exact bq173 HB.out a2.out); rintro e w34 ⟨rfl, hi, hb, hk⟩; refine ⟨_, rfl, ?_⟩; refine Ya6 (ra173 (iq173 a2.out) (kr a5.out) hk) (kx hk a4 aU) (kx hk a3 aK) (KeepBut.trans (kb HK.out) hk (.inl rfl)) (hb) (hi) ?_; clear a5 a4 a3 HK HB a2; intro a5 a4 a3 HK HB a2; (try clear hb); (try clear hb2); (try clear hk); (try clear hi); refine hK.out _ _ (bc a3 0) (fun hHeld => ?_); clear hK K; refine nm 19 ?_; exact norm_ (by first | (simp only [putAll, Act.put, List.setIfInBounds_toArray, List.set_cons_zero, List.set_cons_succ]; done) | (simp only [putAll, Act.put, List.setIfInBounds_toArray, List.set_cons_zero, List.set_cons_succ]; rfl)) (hJ2 () _ ⟨hHeld, (kr a5.out), (bk a4.out), (bk a3.out), (iq173 a2.out), (kb HK.out), (bq173 HB.out a2.out)⟩)
              ·skip
               refine bst 5 25 (#[.slice none 0 0]) ?_; intro a6 hg w34 hbox hb; refine Ya15 (Kd.R_below (kr a5.out) hb) (bb a4 hb) (bb a3 hb) (IsS173.below (iq173 a2.out) hb) (KeepBut.trans (kb HK.out) (KeepBut.of_below hb g none) (.inl rfl)) (below_step (bq173 HB.out a2.out) hb) (hbox) ((by rw [hg]; exact (keep_size (w := w) (g := g) (row := none) (kb HK.out)) : w.heap.size ≤ a6)) ((Nat.le_trans HW0.out (by rw [hg]; exact (keep_size (w := w) (g := g) (row := none) (kb HK.out)) : w.heap.size ≤ a6) : w0.heap.size ≤ a6)) (bl hg a4) (br hg a4) (bl hg a3) (br hg a3) ((by rw [hg]; exact Nat.ne_of_lt (IsS173.lt (show IsS173 w0 _ g s0_0 aW from iq173 a2.out)) : g ≠ a6)) ((by rw [hg]; exact Nat.ne_of_gt (IsS173.lt (show IsS173 w0 _ g s0_0 aW from iq173 a2.out)) : a6 ≠ g)) ?_; clear a5 a4 a3 a2 HK HB; intro a5 a4 a3 a2 HK HB aa av aw an ao am ap ar al; clear hb hbox hg; refine hK.out _ _ (bc a3 0) (fun hHeld => ?_); clear hK K; refine nm 5 ?_; exact norm_ (by first | (simp only [putAll, Act.put, List.setIfInBounds_toArray, List.set_cons_zero, List.set_cons_succ]; done) | (simp only [putAll, Act.put, List.setIfInBounds_toArray, List.set_cons_zero, List.set_cons_succ]; rfl)) (hJ13 (a6) _ ⟨hHeld, (kr a5.out), (bk a4.out), (bk a3.out), (bk aa.out), av.out, aw.out, ar.out, al.out, an.out, ao.out, am.out, ap.out, (iq173 a2.out), (kb HK.out), (bq173 HB.out a2.out)⟩)
             ·skip
              rintro a6 aZ ⟨hS_, h0_, h1_, h2_, h3_, h4_, h5_, h6_, h7_, h8_, h9_, h10_, h11_, h12_, h13_, h14_⟩
              have af : Aside0 (Kd.R k27 27 aZ w.heap.size (fun _ => True) (.slice ab a7.length ac) a7) := ⟨h0_⟩
              have ag : Aside0 (aZ.heap[a9]? = some (.cells #[.slice none 0 0] 25 (0, 0))) := ⟨h1_⟩
              have ah : Aside0 (aZ.heap[a8]? = some (.cells #[.slice ab a7.length ac] 25 (0, 0))) := ⟨h2_⟩
              have ai : Aside0 (aZ.heap[a6]? = some (.cells #[.slice none 0 0] 25 (0, 0))) := ⟨h3_⟩
              have aj : Aside0 (w.heap.size ≤ a6) := ⟨h4_⟩
              have ak : Aside0 (w0.heap.size ≤ a6) := ⟨h5_⟩
              have ax : Aside0 (g ≠ a6) := ⟨h6_⟩
              have aA : Aside0 (a6 ≠ g) := ⟨h7_⟩
              have aB : Aside0 (a9 ≠ a6) := ⟨h8_⟩
              have aC : Aside0 (a6 ≠ a9) := ⟨h9_⟩
              have aD : Aside0 (a8 ≠ a6) := ⟨h10_⟩
              have aE : Aside0 (a6 ≠ a8) := ⟨h11_⟩
              have aF : Aside0 (IsS173 w0 aZ g s0_0 aW) := ⟨h12_⟩
              have aG : Aside0 (KeepBut w aZ g none) := ⟨h13_⟩
              have aH : Aside0 (Below w0.heap.size w0 aZ) := ⟨h14_⟩
              clear a5; clear a4; clear a3; clear a2; clear HK; clear HB; clear h0_ h1_ h2_ h3_ h4_ h5_ h6_ h7_ h8_ h9_ h10_ h11_ h12_ h13_ h14_; have a5 := af; have a4 := ag; have a3 := ah; have aa := ai; have av := aj; have aw := ak; have ar := ax; have al := aA; have an := aB; have ao := aC; have am := aD; have ap := aE; have a2 := aF; have HK := aG; have HB := aH; clear af ag ah ai aj ak ax aA aB aC aD aE aF aG aH; have hHeld : aZ.cell? ⟨a8, 0, none⟩ = some (.slice ab a7.length ac) := hS_; refine norm_ (a' := ?_) ?_ ?_; rotate_left
              ·simp only [putAll, Act.put, List.setIfInBounds_toArray, List.set_cons_zero, List.set_cons_succ]; rfl
              refine o1 2 (some 19) (fb 16 8239) HT_ (fun K hK => ?_); refine gs _ (#[.pointer (some ⟨g, 0, none⟩)]) Tryd.func77 ?_; (with_reducible refine (spec_l4Path.calls k1 g s0_0 aW aq aL w0 _ ?side1 ?side2 bz.out).mono ?_); (case side1 => exact iq173 a2.out); (case side2 => exact bq173 HB.out a2.out); rintro e aS ⟨rfl, hi, hb, hk⟩; refine ⟨_, rfl, ?_⟩; refine Ya7 (ra173 (iq173 a2.out) (kr a5.out) hk) (kx hk a4 aU) (kx hk a3 aK) (kx hk aa al) (KeepBut.trans (kb HK.out) hk (.inl rfl)) (hb) (hi) ?_; clear a5 a4 a3 aa HK HB a2; intro a5 a4 a3 aa HK HB a2; (try clear hb); (try clear hb2); (try clear hk); (try clear hi); refine hK.out _ _ (bc a3 0) (fun hHeld => ?_); clear hK K; refine nm 19 ?_; exact norm_ (by first | (simp only [putAll, Act.put, List.setIfInBounds_toArray, List.set_cons_zero, List.set_cons_succ]; done) | (simp only [putAll, Act.put, List.setIfInBounds_toArray, List.set_cons_zero, List.set_cons_succ]; rfl)) (hJ2_13 (a6) _ ⟨hHeld, (kr a5.out), (bk a4.out), (bk a3.out), (bk aa.out), av.out, aw.out, ar.out, al.out, an.out, ao.out, am.out, ap.out, (iq173 a2.out), (kb HK.out), (bq173 HB.out a2.out)⟩)
            ·skip
             rintro _ aZ ⟨hS_, h0_, h1_, h2_, h3_, h4_, h5_⟩
             have af : Aside0 (Kd.R k27 27 aZ w.heap.size (fun _ => True) (.slice ab a7.length ac) a7) := ⟨h0_⟩
             have ag : Aside0 (aZ.heap[a9]? = some (.cells #[.slice none 0 0] 25 (0, 0))) := ⟨h1_⟩
             have ah : Aside0 (aZ.heap[a8]? = some (.cells #[.slice ab a7.length ac] 25 (0, 0))) := ⟨h2_⟩
             have ai : Aside0 (IsS173 w0 aZ g s0_0 aL) := ⟨h3_⟩
             have aj : Aside0 (KeepBut w aZ g none) := ⟨h4_⟩
             have ak : Aside0 (Below w0.heap.size w0 aZ) := ⟨h5_⟩
             clear a5; clear a4; clear a3; clear a2; clear HK; clear HB; clear h0_ h1_ h2_ h3_ h4_ h5_; have a5 := af; have a4 := ag; have a3 := ah; have a2 := ai; have HK := aj; have HB := ak; clear af ag ah ai aj ak; have hHeld : aZ.cell? ⟨a8, 0, none⟩ = some (.slice ab a7.length ac) := hS_; refine norm_ (a' := ?_) ?_ ?_; rotate_left
             ·simp only [putAll, Act.put, List.setIfInBounds_toArray, List.set_cons_zero, List.set_cons_succ]; rfl
             refine two_ (i := 4) (j := 13) (Ni := some 21) (Nj := some 5) (fb 16 63) (fb 16 8239) rfl rfl rfl rfl (two_of HT_.out (by kernel_rfl)) (by decide) (by decide) (fun K hK => ?_) (fun K hK => ?_)
             ·skip
              refine gs _ (#[.pointer (some ⟨g, 0, none⟩)]) Tryd.func65 ?_; (with_reducible refine (spec_l1Text.calls k1 g s0_0 aL ay aM w0 _ ?side1 ?side2 bA.out).mono ?_); (case side1 => exact iq173 a2.out); (case side2 => exact bq173 HB.out a2.out); rintro e aS ⟨rfl, hi, hb, hk⟩; refine ⟨_, rfl, ?_⟩; refine Ya6 (ra173 (iq173 a2.out) (kr a5.out) hk) (kx hk a4 aU) (kx hk a3 aK) (KeepBut.trans (kb HK.out) hk (.inl rfl)) (hb) (hi) ?_; clear a5 a4 a3 HK HB a2; intro a5 a4 a3 HK HB a2; (try clear hb); (try clear hb2); (try clear hk); (try clear hi); refine hK.out _ _ (bc a3 0) (fun hHeld => ?_); clear hK K; refine nm 21 ?_; exact norm_ (by first | (simp only [putAll, Act.put, List.setIfInBounds_toArray, List.set_cons_zero, List.set_cons_succ]; done) | (simp only [putAll, Act.put, List.setIfInBounds_toArray, List.set_cons_zero, List.set_cons_succ]; rfl)) (hJ2_4 () _ ⟨hHeld, (kr a5.out), (bk a4.out), (bk a3.out), (iq173 a2.out), (kb HK.out), (bq173 HB.out a2.out)⟩)
             ·skip
              refine bst 5 25 (#[.slice none 0 0]) ?_; intro a6 hg aS hbox hb; refine Ya15 (Kd.R_below (kr a5.out) hb) (bb a4 hb) (bb a3 hb) (IsS173.below (iq173 a2.out) hb) (KeepBut.trans (kb HK.out) (KeepBut.of_below hb g none) (.inl rfl)) (below_step (bq173 HB.out a2.out) hb) (hbox) ((by rw [hg]; exact (keep_size (w := w) (g := g) (row := none) (kb HK.out)) : w.heap.size ≤ a6)) ((Nat.le_trans HW0.out (by rw [hg]; exact (keep_size (w := w) (g := g) (row := none) (kb HK.out)) : w.heap.size ≤ a6) : w0.heap.size ≤ a6)) (bl hg a4) (br hg a4) (bl hg a3) (br hg a3) ((by rw [hg]; exact Nat.ne_of_lt (IsS173.lt (show IsS173 w0 _ g s0_0 aL from iq173 a2.out)) : g ≠ a6)) ((by rw [hg]; exact Nat.ne_of_gt (IsS173.lt (show IsS173 w0 _ g s0_0 aL from iq173 a2.out)) : a6 ≠ g)) ?_; clear a5 a4 a3 a2 HK HB; intro a5 a4 a3 a2 HK HB aa av aw an ao am ap ar al; clear hb hbox hg; refine hK.out _ _ (bc a3 0) (fun hHeld => ?_); clear hK K; refine nm 5 ?_; exact norm_ (by first | (simp only [putAll, Act.put, List.setIfInBounds_toArray, List.set_cons_zero, List.set_cons_succ]; done) | (simp only [putAll, Act.put, List.setIfInBounds_toArray, List.set_cons_zero, List.set_cons_succ]; rfl)) (hJ2_13 (a6) _ ⟨hHeld, (kr a5.out), (bk a4.out), (bk a3.out), (bk aa.out), av.out, aw.out, ar.out, al.out, an.out, ao.out, am.out, ap.out, (iq173 a2.out), (kb HK.out), (bq173 HB.out a2.out)⟩)
           ·skip
            rintro a6 aS ⟨hS_, h0_, h1_, h2_, h3_, h4_, h5_, h6_, h7_, h8_, h9_, h10_, h11_, h12_, h13_, h14_⟩
            have af : Aside0 (Kd.R k27 27 aS w.heap.size (fun _ => True) (.slice ab a7.length ac) a7) := ⟨h0_⟩
            have ag : Aside0 (aS.heap[a9]? = some (.cells #[.slice none 0 0] 25 (0, 0))) := ⟨h1_⟩
            have ah : Aside0 (aS.heap[a8]? = some (.cells #[.slice ab a7.length ac] 25 (0, 0))) := ⟨h2_⟩
            have ai : Aside0 (aS.heap[a6]? = some (.cells #[.slice none 0 0] 25 (0, 0))) := ⟨h3_⟩
            have aj : Aside0 (w.heap.size ≤ a6) := ⟨h4_⟩
            have ak : Aside0 (w0.heap.size ≤ a6) := ⟨h5_⟩
            have ax : Aside0 (g ≠ a6) := ⟨h6_⟩
            have aA : Aside0 (a6 ≠ g) := ⟨h7_⟩
            have aB : Aside0 (a9 ≠ a6) := ⟨h8_⟩
            have aC : Aside0 (a6 ≠ a9) := ⟨h9_⟩
            have aD : Aside0 (a8 ≠ a6) := ⟨h10_⟩
            have aE : Aside0 (a6 ≠ a8) := ⟨h11_⟩
            have aF : Aside0 (IsS173 w0 aS g s0_0 aL) := ⟨h12_⟩
            have aG : Aside0 (KeepBut w aS g none) := ⟨h13_⟩
            have aH : Aside0 (Below w0.heap.size w0 aS) := ⟨h14_⟩
            clear a5; clear a4; clear a3; clear a2; clear HK; clear HB; clear h0_ h1_ h2_ h3_ h4_ h5_ h6_ h7_ h8_ h9_ h10_ h11_ h12_ h13_ h14_; have a5 := af; have a4 := ag; have a3 := ah; have aa := ai; have av := aj; have aw := ak; have ar := ax; have al := aA; have an := aB; have ao := aC; have am := aD; have ap := aE; have a2 := aF; have HK := aG; have HB := aH; clear af ag ah ai aj ak ax aA aB aC aD aE aF aG aH; have hHeld : aS.cell? ⟨a8, 0, none⟩ = some (.slice ab a7.length ac) := hS_; refine norm_ (a' := ?_) ?_ ?_; rotate_left
            ·simp only [putAll, Act.put, List.setIfInBounds_toArray, List.set_cons_zero, List.set_cons_succ]; rfl
            refine o1 4 (some 21) (fb 16 8255) HT_ (fun K hK => ?_); refine gs _ (#[.pointer (some ⟨g, 0, none⟩)]) Tryd.func65 ?_; (with_reducible refine (spec_l1Text.calls k1 g s0_0 aL ay aM w0 _ ?side1 ?side2 bA.out).mono ?_); (case side1 => exact iq173 a2.out); (case side2 => exact bq173 HB.out a2.out); rintro e aT ⟨rfl, hi, hb, hk⟩; refine ⟨_, rfl, ?_⟩; refine Ya7 (ra173 (iq173 a2.out) (kr a5.out) hk) (kx hk a4 aU) (kx hk a3 aK) (kx hk aa al) (KeepBut.trans (kb HK.out) hk (.inl rfl)) (hb) (hi) ?_; clear a5 a4 a3 aa HK HB a2; intro a5 a4 a3 aa HK HB a2; (try clear hb); (try clear hb2); (try clear hk); (try clear hi); refine hK.out _ _ (bc a3 0) (fun hHeld => ?_); clear hK K; refine nm 21 ?_; exact norm_ (by first | (simp only [putAll, Act.put, List.setIfInBounds_toArray, List.set_cons_zero, List.set_cons_succ]; done) | (simp only [putAll, Act.put, List.setIfInBounds_toArray, List.set_cons_zero, List.set_cons_succ]; rfl)) (hJ2_4_13 (a6) _ ⟨hHeld, (kr a5.out), (bk a4.out), (bk a3.out), (bk aa.out), av.out, aw.out, ar.out, al.out, an.out, ao.out, am.out, ap.out, (iq173 a2.out), (kb HK.out), (bq173 HB.out a2.out)⟩)
          ·skip
           rintro _ aS ⟨hS_, h0_, h1_, h2_, h3_, h4_, h5_⟩
           have af : Aside0 (Kd.R k27 27 aS w.heap.size (fun _ => True) (.slice ab a7.length ac) a7) := ⟨h0_⟩
           have ag : Aside0 (aS.heap[a9]? = some (.cells #[.slice none 0 0] 25 (0, 0))) := ⟨h1_⟩
           have ah : Aside0 (aS.heap[a8]? = some (.cells #[.slice ab a7.length ac] 25 (0, 0))) := ⟨h2_⟩
           have ai : Aside0 (IsS173 w0 aS g s0_0 aM) := ⟨h3_⟩
           have aj : Aside0 (KeepBut w aS g none) := ⟨h4_⟩
           have ak : Aside0 (Below w0.heap.size w0 aS) := ⟨h5_⟩
           clear a5; clear a4; clear a3; clear a2; clear HK; clear HB; clear h0_ h1_ h2_ h3_ h4_ h5_; have a5 := af; have a4 := ag; have a3 := ah; have a2 := ai; have HK := aj; have HB := ak; clear af ag ah ai aj ak; have hHeld : aS.cell? ⟨a8, 0, none⟩ = some (.slice ab a7.length ac) := hS_; refine norm_ (a' := ?_) ?_ ?_; rotate_left
           ·simp only [putAll, Act.put, List.setIfInBounds_toArray, List.set_cons_zero, List.set_cons_succ]; rfl
           refine two_ (i := 6) (j := 13) (Ni := some 23) (Nj := some 5) (fb 16 127) (fb 16 8255) rfl rfl rfl rfl (two_of HT_.out (by kernel_rfl)) (by decide) (by decide) (fun K hK => ?_) (fun K hK => ?_)
           ·skip
            refine gs _ (#[.pointer (some ⟨g, 0, none⟩), .int .i64 4]) Tryd.func66 ?_; (with_reducible refine (spec_l1Rd_pick.calls k1 g s0_0 aM 4 au az w0 _ ?side1 ?side2 bB.out).mono ?_); (case side1 => exact iq173 a2.out); (case side2 => exact bq173 HB.out a2.out); rintro e aT ⟨rfl, hi, hb, hk⟩; refine ⟨_, rfl, ?_⟩; refine Ya6 (ra173 (iq173 a2.out) (kr a5.out) hk) (kx hk a4 aU) (kx hk a3 aK) (KeepBut.trans (kb HK.out) hk (.inl rfl)) (hb) (hi) ?_; clear a5 a4 a3 HK HB a2; intro a5 a4 a3 HK HB a2; (try clear hb); (try clear hb2); (try clear hk); (try clear hi); refine hK.out _ _ (bc a3 0) (fun hHeld => ?_); clear hK K; refine nm 23 ?_; refine pu 7 24 (fb 16 255) HT_ ?_; refine pu 8 25 (fb 16 511) HT_ ?_; exact norm_ (by first | (simp only [putAll, Act.put, List.setIfInBounds_toArray, List.set_cons_zero, List.set_cons_succ]; done) | (simp only [putAll, Act.put, List.setIfInBounds_toArray, List.set_cons_zero, List.set_cons_succ]; rfl)) (hJ2_4_6 () _ ⟨hHeld, (kr a5.out), (bk a4.out), (bk a3.out), (iq173 a2.out), (kb HK.out), (bq173 HB.out a2.out)⟩)
           ·skip
            refine bst 5 25 (#[.slice none 0 0]) ?_; intro a6 hg aT hbox hb; refine Ya15 (Kd.R_below (kr a5.out) hb) (bb a4 hb) (bb a3 hb) (IsS173.below (iq173 a2.out) hb) (KeepBut.trans (kb HK.out) (KeepBut.of_below hb g none) (.inl rfl)) (below_step (bq173 HB.out a2.out) hb) (hbox) ((by rw [hg]; exact (keep_size (w := w) (g := g) (row := none) (kb HK.out)) : w.heap.size ≤ a6)) ((Nat.le_trans HW0.out (by rw [hg]; exact (keep_size (w := w) (g := g) (row := none) (kb HK.out)) : w.heap.size ≤ a6) : w0.heap.size ≤ a6)) (bl hg a4) (br hg a4) (bl hg a3) (br hg a3) ((by rw [hg]; exact Nat.ne_of_lt (IsS173.lt (show IsS173 w0 _ g s0_0 aM from iq173 a2.out)) : g ≠ a6)) ((by rw [hg]; exact Nat.ne_of_gt (IsS173.lt (show IsS173 w0 _ g s0_0 aM from iq173 a2.out)) : a6 ≠ g)) ?_; clear a5 a4 a3 a2 HK HB; intro a5 a4 a3 a2 HK HB aa av aw an ao am ap ar al; clear hb hbox hg; refine hK.out _ _ (bc a3 0) (fun hHeld => ?_); clear hK K; refine nm 5 ?_; exact norm_ (by first | (simp only [putAll, Act.put, List.setIfInBounds_toArray, List.set_cons_zero, List.set_cons_succ]; done) | (simp only [putAll, Act.put, List.setIfInBounds_toArray, List.set_cons_zero, List.set_cons_succ]; rfl)) (hJ2_4_13 (a6) _ ⟨hHeld, (kr a5.out), (bk a4.out), (bk a3.out), (bk aa.out), av.out, aw.out, ar.out, al.out, an.out, ao.out, am.out, ap.out, (iq173 a2.out), (kb HK.out), (bq173 HB.out a2.out)⟩)
         ·skip
          rintro a6 aT ⟨hS_, h0_, h1_, h2_, h3_, h4_, h5_, h6_, h7_, h8_, h9_, h10_, h11_, h12_, h13_, h14_⟩
          have af : Aside0 (Kd.R k27 27 aT w.heap.size (fun _ => True) (.slice ab a7.length ac) a7) := ⟨h0_⟩
          have ag : Aside0 (aT.heap[a9]? = some (.cells #[.slice none 0 0] 25 (0, 0))) := ⟨h1_⟩
          have ah : Aside0 (aT.heap[a8]? = some (.cells #[.slice ab a7.length ac] 25 (0, 0))) := ⟨h2_⟩
          have ai : Aside0 (aT.heap[a6]? = some (.cells #[.slice none 0 0] 25 (0, 0))) := ⟨h3_⟩
          have aj : Aside0 (w.heap.size ≤ a6) := ⟨h4_⟩
          have ak : Aside0 (w0.heap.size ≤ a6) := ⟨h5_⟩
          have ax : Aside0 (g ≠ a6) := ⟨h6_⟩
          have aA : Aside0 (a6 ≠ g) := ⟨h7_⟩
          have aB : Aside0 (a9 ≠ a6) := ⟨h8_⟩
          have aC : Aside0 (a6 ≠ a9) := ⟨h9_⟩
          have aD : Aside0 (a8 ≠ a6) := ⟨h10_⟩
          have aE : Aside0 (a6 ≠ a8) := ⟨h11_⟩
          have aF : Aside0 (IsS173 w0 aT g s0_0 aM) := ⟨h12_⟩
          have aG : Aside0 (KeepBut w aT g none) := ⟨h13_⟩
          have aH : Aside0 (Below w0.heap.size w0 aT) := ⟨h14_⟩
          clear a5; clear a4; clear a3; clear a2; clear HK; clear HB; clear h0_ h1_ h2_ h3_ h4_ h5_ h6_ h7_ h8_ h9_ h10_ h11_ h12_ h13_ h14_; have a5 := af; have a4 := ag; have a3 := ah; have aa := ai; have av := aj; have aw := ak; have ar := ax; have al := aA; have an := aB; have ao := aC; have am := aD; have ap := aE; have a2 := aF; have HK := aG; have HB := aH; clear af ag ah ai aj ak ax aA aB aC aD aE aF aG aH; have hHeld : aT.cell? ⟨a8, 0, none⟩ = some (.slice ab a7.length ac) := hS_; refine norm_ (a' := ?_) ?_ ?_; rotate_left
          ·simp only [putAll, Act.put, List.setIfInBounds_toArray, List.set_cons_zero, List.set_cons_succ]; rfl
          refine o1 6 (some 23) (fb 16 8319) HT_ (fun K hK => ?_); refine gs _ (#[.pointer (some ⟨g, 0, none⟩), .int .i64 4]) Tryd.func66 ?_; (with_reducible refine (spec_l1Rd_pick.calls k1 g s0_0 aM 4 au az w0 _ ?side1 ?side2 bB.out).mono ?_); (case side1 => exact iq173 a2.out); (case side2 => exact bq173 HB.out a2.out); rintro e aP ⟨rfl, hi, hb, hk⟩; refine ⟨_, rfl, ?_⟩; refine Ya7 (ra173 (iq173 a2.out) (kr a5.out) hk) (kx hk a4 aU) (kx hk a3 aK) (kx hk aa al) (KeepBut.trans (kb HK.out) hk (.inl rfl)) (hb) (hi) ?_; clear a5 a4 a3 aa HK HB a2; intro a5 a4 a3 aa HK HB a2; (try clear hb); (try clear hb2); (try clear hk); (try clear hi); refine hK.out _ _ (bc a3 0) (fun hHeld => ?_); clear hK K; refine nm 23 ?_; refine pu 7 24 (fb 16 8447) HT_ ?_; refine pu 8 25 (fb 16 8703) HT_ ?_; exact norm_ (by first | (simp only [putAll, Act.put, List.setIfInBounds_toArray, List.set_cons_zero, List.set_cons_succ]; done) | (simp only [putAll, Act.put, List.setIfInBounds_toArray, List.set_cons_zero, List.set_cons_succ]; rfl)) (hJ2_4_6_13 (a6) _ ⟨hHeld, (kr a5.out), (bk a4.out), (bk a3.out), (bk aa.out), av.out, aw.out, ar.out, al.out, an.out, ao.out, am.out, ap.out, (iq173 a2.out), (kb HK.out), (bq173 HB.out a2.out)⟩)
        ·skip
         rintro _ aT ⟨hS_, h0_, h1_, h2_, h3_, h4_, h5_⟩
         have af : Aside0 (Kd.R k27 27 aT w.heap.size (fun _ => True) (.slice ab a7.length ac) a7) := ⟨h0_⟩
         have ag : Aside0 (aT.heap[a9]? = some (.cells #[.slice none 0 0] 25 (0, 0))) := ⟨h1_⟩
         have ah : Aside0 (aT.heap[a8]? = some (.cells #[.slice ab a7.length ac] 25 (0, 0))) := ⟨h2_⟩
         have ai : Aside0 (IsS173 w0 aT g s0_0 az) := ⟨h3_⟩
         have aj : Aside0 (KeepBut w aT g none) := ⟨h4_⟩
         have ak : Aside0 (Below w0.heap.size w0 aT) := ⟨h5_⟩
         clear a5; clear a4; clear a3; clear a2; clear HK; clear HB; clear h0_ h1_ h2_ h3_ h4_ h5_; have a5 := af; have a4 := ag; have a3 := ah; have a2 := ai; have HK := aj; have HB := ak; clear af ag ah ai aj ak; have hHeld : aT.cell? ⟨a8, 0, none⟩ = some (.slice ab a7.length ac) := hS_; refine norm_ (a' := ?_) ?_ ?_; rotate_left
         ·simp only [putAll, Act.put, List.setIfInBounds_toArray, List.set_cons_zero, List.set_cons_succ]; rfl
         refine two_ (i := 9) (j := 13) (Ni := some 26) (Nj := some 5) (fb 16 1023) (fb 16 8703) rfl rfl rfl rfl (two_of HT_.out (by kernel_rfl)) (by decide) (by decide) (fun K hK => ?_) (fun K hK => ?_)
         ·skip
          refine gs _ (#[.agg #[.slice ab a7.length ac], .agg #[.string aq, .string ay, .bool (au == 0)]]) Tryd.func15 ?_; (with_reducible refine (spec_Put.calls k1 _ _ a7 aq ay (au == 0) aV aI _ ?side1 ?side2 bC.out).mono ?_); (case side1 => repeat (first | exact (Kd.R_reads' a5.out).2.2 | (with_reducible refine Kd.C_alloc ?_ _) | (with_reducible refine Kd.C_drewN ?_ _) | (with_reducible refine Kd.C_drew ?_))); (case side2 => exact (Kd.R_reads' a5.out).2.1); rintro e aP ⟨aN, rfl, ho0, hb⟩; refine ⟨_, rfl, ?_⟩; refine Ya7 (Kd.R_elder' (kr a5.out) (Kd.R_base ho0) hb) (Kd.R_lower (Kd.R_new' ho0 (Kd.R_lt (kr a5.out))) (keep_size (w := w) (g := g) (row := none) (kb HK.out))) (bb a4 hb) (bb a3 hb) (IsS173.below (iq173 a2.out) hb) (KeepBut.trans (kb HK.out) (KeepBut.of_below hb g none) (.inl rfl)) (below_step (bq173 HB.out a2.out) hb) ?_; clear a5 a4 a3 a2 HK HB; intro a5 aJ a4 a3 a2 HK HB; (try clear hb); (try clear hb2); (try clear hk); (try clear hi); (try clear ho0); refine hK.out _ _ (bc a3 0) (fun hHeld => ?_); clear hK K; refine nm 26 ?_; refine pu 10 16 (fb 16 2047) HT_ ?_; refine pu 11 27 (fb 16 4095) HT_ ?_; refine pu 12 28 (fb 16 8191) HT_ ?_; exact norm_ (by first | (simp only [putAll, Act.put, List.setIfInBounds_toArray, List.set_cons_zero, List.set_cons_succ]; done) | (simp only [putAll, Act.put, List.setIfInBounds_toArray, List.set_cons_zero, List.set_cons_succ]; rfl)) (hJ2_4_6_9 (aN) _ ⟨hHeld, (by (with_reducible repeat (first | apply Kd.R_alloc | apply Kd.R_drewN | apply Kd.R_drew)); exact Kd.R_mono aJ.out (fun _ hk => hk.2)), (by (with_reducible repeat (first | apply Kd.R_alloc | apply Kd.R_drewN | apply Kd.R_drew)); exact Kd.R_mono a5.out (fun _ hk => hk.2)), (bk a4.out), (bk a3.out), (iq173 a2.out), (kb HK.out), (bq173 HB.out a2.out)⟩)
         ·skip
          refine bst 5 25 (#[.slice none 0 0]) ?_; intro a6 hg aP hbox hb; refine Ya15 (Kd.R_below (kr a5.out) hb) (bb a4 hb) (bb a3 hb) (IsS173.below (iq173 a2.out) hb) (KeepBut.trans (kb HK.out) (KeepBut.of_below hb g none) (.inl rfl)) (below_step (bq173 HB.out a2.out) hb) (hbox) ((by rw [hg]; exact (keep_size (w := w) (g := g) (row := none) (kb HK.out)) : w.heap.size ≤ a6)) ((Nat.le_trans HW0.out (by rw [hg]; exact (keep_size (w := w) (g := g) (row := none) (kb HK.out)) : w.heap.size ≤ a6) : w0.heap.size ≤ a6)) (bl hg a4) (br hg a4) (bl hg a3) (br hg a3) ((by rw [hg]; exact Nat.ne_of_lt (IsS173.lt (show IsS173 w0 _ g s0_0 az from iq173 a2.out)) : g ≠ a6)) ((by rw [hg]; exact Nat.ne_of_gt (IsS173.lt (show IsS173 w0 _ g s0_0 az from iq173 a2.out)) : a6 ≠ g)) ?_; clear a5 a4 a3 a2 HK HB; intro a5 a4 a3 a2 HK HB aa av aw an ao am ap ar al; clear hb hbox hg; refine hK.out _ _ (bc a3 0) (fun hHeld => ?_); clear hK K; refine nm 5 ?_; exact norm_ (by first | (simp only [putAll, Act.put, List.setIfInBounds_toArray, List.set_cons_zero, List.set_cons_succ]; done) | (simp only [putAll, Act.put, List.setIfInBounds_toArray, List.set_cons_zero, List.set_cons_succ]; rfl)) (hJ2_4_6_13 (a6) _ ⟨hHeld, (kr a5.out), (bk a4.out), (bk a3.out), (bk aa.out), av.out, aw.out, ar.out, al.out, an.out, ao.out, am.out, ap.out, (iq173 a2.out), (kb HK.out), (bq173 HB.out a2.out)⟩)
       ·skip
        rintro a6 aP ⟨hS_, h0_, h1_, h2_, h3_, h4_, h5_, h6_, h7_, h8_, h9_, h10_, h11_, h12_, h13_, h14_⟩
        have af : Aside0 (Kd.R k27 27 aP w.heap.size (fun _ => True) (.slice ab a7.length ac) a7) := ⟨h0_⟩
        have ag : Aside0 (aP.heap[a9]? = some (.cells #[.slice none 0 0] 25 (0, 0))) := ⟨h1_⟩
        have ah : Aside0 (aP.heap[a8]? = some (.cells #[.slice ab a7.length ac] 25 (0, 0))) := ⟨h2_⟩
        have ai : Aside0 (aP.heap[a6]? = some (.cells #[.slice none 0 0] 25 (0, 0))) := ⟨h3_⟩
        have aj : Aside0 (w.heap.size ≤ a6) := ⟨h4_⟩
        have ak : Aside0 (w0.heap.size ≤ a6) := ⟨h5_⟩
        have ax : Aside0 (g ≠ a6) := ⟨h6_⟩
        have aA : Aside0 (a6 ≠ g) := ⟨h7_⟩
        have aB : Aside0 (a9 ≠ a6) := ⟨h8_⟩
        have aC : Aside0 (a6 ≠ a9) := ⟨h9_⟩
        have aD : Aside0 (a8 ≠ a6) := ⟨h10_⟩
        have aE : Aside0 (a6 ≠ a8) := ⟨h11_⟩
        have aF : Aside0 (IsS173 w0 aP g s0_0 az) := ⟨h12_⟩
        have aG : Aside0 (KeepBut w aP g none) := ⟨h13_⟩
        have aH : Aside0 (Below w0.heap.size w0 aP) := ⟨h14_⟩
        clear a5; clear a4; clear a3; clear a2; clear HK; clear HB; clear h0_ h1_ h2_ h3_ h4_ h5_ h6_ h7_ h8_ h9_ h10_ h11_ h12_ h13_ h14_; have a5 := af; have a4 := ag; have a3 := ah; have aa := ai; have av := aj; have aw := ak; have ar := ax; have al := aA; have an := aB; have ao := aC; have am := aD; have ap := aE; have a2 := aF; have HK := aG; have HB := aH; clear af ag ah ai aj ak ax aA aB aC aD aE aF aG aH; have hHeld : aP.cell? ⟨a8, 0, none⟩ = some (.slice ab a7.length ac) := hS_; refine norm_ (a' := ?_) ?_ ?_; rotate_left
        ·simp only [putAll, Act.put, List.setIfInBounds_toArray, List.set_cons_zero, List.set_cons_succ]; rfl
        refine o1 9 (some 26) (fb 16 9215) HT_ (fun K hK => ?_); refine gs _ (#[.agg #[.slice ab a7.length ac], .agg #[.string aq, .string ay, .bool (au == 0)]]) Tryd.func15 ?_; (with_reducible refine (spec_Put.calls k1 _ _ a7 aq ay (au == 0) aV aI _ ?side1 ?side2 bC.out).mono ?_); (case side1 => repeat (first | exact (Kd.R_reads' a5.out).2.2 | (with_reducible refine Kd.C_alloc ?_ _) | (with_reducible refine Kd.C_drewN ?_ _) | (with_reducible refine Kd.C_drew ?_))); (case side2 => exact (Kd.R_reads' a5.out).2.1); rintro e b2 ⟨aN, rfl, ho0, hb⟩; refine ⟨_, rfl, ?_⟩; refine Ya8 (Kd.R_elder' (kr a5.out) (Kd.R_base ho0) hb) (Kd.R_lower (Kd.R_new' ho0 (Kd.R_lt (kr a5.out))) (keep_size (w := w) (g := g) (row := none) (kb HK.out))) (bb a4 hb) (bb a3 hb) (IsS173.below (iq173 a2.out) hb) (bb aa hb) (KeepBut.trans (kb HK.out) (KeepBut.of_below hb g none) (.inl rfl)) (below_step (bq173 HB.out a2.out) hb) ?_; clear a5 a4 a3 a2 aa HK HB; intro a5 aJ a4 a3 a2 aa HK HB; (try clear hb); (try clear hb2); (try clear hk); (try clear hi); (try clear ho0); refine hK.out _ _ (bc a3 0) (fun hHeld => ?_); clear hK K; refine nm 26 ?_; refine pu 10 16 (fb 16 10239) HT_ ?_; refine pu 11 27 (fb 16 12287) HT_ ?_; refine pu 12 28 (fb 16 16383) HT_ ?_; exact norm_ (by first | (simp only [putAll, Act.put, List.setIfInBounds_toArray, List.set_cons_zero, List.set_cons_succ]; done) | (simp only [putAll, Act.put, List.setIfInBounds_toArray, List.set_cons_zero, List.set_cons_succ]; rfl)) (hJ2_4_6_9_13 (aN, a6) _ ⟨hHeld, (by (with_reducible repeat (first | apply Kd.R_alloc | apply Kd.R_drewN | apply Kd.R_drew)); exact Kd.R_mono aJ.out (fun _ hk => hk.2)), (by (with_reducible repeat (first | apply Kd.R_alloc | apply Kd.R_drewN | apply Kd.R_drew)); exact Kd.R_mono a5.out (fun _ hk => hk.2)), (bk a4.out), (bk a3.out), (bk aa.out), av.out, aw.out, ar.out, al.out, an.out, ao.out, am.out, ap.out, (iq173 a2.out), (kb HK.out), (bq173 HB.out a2.out)⟩)
      ·skip
       rintro aN aP ⟨hS_, h0_, h1_, h2_, h3_, h4_, h5_, h6_⟩
       have af : Aside0 (Kd.R k27 27 aP w.heap.size (fun k_ => some k_ ≠ (.slice ab a7.length ac : Value).ownBlock) aN aV) := ⟨h0_⟩
       have ag : Aside0 (Kd.R k27 27 aP w.heap.size (fun k_ => some k_ ≠ (aN : Value).ownBlock) (.slice ab a7.length ac) a7) := ⟨h1_⟩
       have ah : Aside0 (aP.heap[a9]? = some (.cells #[.slice none 0 0] 25 (0, 0))) := ⟨h2_⟩
       have ai : Aside0 (aP.heap[a8]? = some (.cells #[.slice ab a7.length ac] 25 (0, 0))) := ⟨h3_⟩
       have aj : Aside0 (IsS173 w0 aP g s0_0 az) := ⟨h4_⟩
       have ak : Aside0 (KeepBut w aP g none) := ⟨h5_⟩
       have ax : Aside0 (Below w0.heap.size w0 aP) := ⟨h6_⟩
       clear a5; clear a4; clear a3; clear a2; clear HK; clear HB; clear h0_ h1_ h2_ h3_ h4_ h5_ h6_; have aJ := af; have a5 := ag; have a4 := ah; have a3 := ai; have a2 := aj; have HK := ak; have HB := ax; clear af ag ah ai aj ak ax; have hHeld : aP.cell? ⟨a8, 0, none⟩ = some (.slice ab a7.length ac) := hS_; refine norm_ (a' := ?_) ?_ ?_; rotate_left
       ·simp only [putAll, Act.put, List.setIfInBounds_toArray, List.set_cons_zero, List.set_cons_succ]; rfl
       refine o1 13 (some 5) (fb 16 16383) HT_ (fun K hK => ?_); refine bst 5 25 (#[.slice none 0 0]) ?_; intro a6 hg b2 hbox hb; refine Ya16 (Kd.R_below (kr a5.out) hb) (Kd.R_below (kr aJ.out) hb) (bb a4 hb) (bb a3 hb) (IsS173.below (iq173 a2.out) hb) (KeepBut.trans (kb HK.out) (KeepBut.of_below hb g none) (.inl rfl)) (below_step (bq173 HB.out a2.out) hb) (hbox) ((by rw [hg]; exact (keep_size (w := w) (g := g) (row := none) (kb HK.out)) : w.heap.size ≤ a6)) ((Nat.le_trans HW0.out (by rw [hg]; exact (keep_size (w := w) (g := g) (row := none) (kb HK.out)) : w.heap.size ≤ a6) : w0.heap.size ≤ a6)) (bl hg a4) (br hg a4) (bl hg a3) (br hg a3) ((by rw [hg]; exact Nat.ne_of_lt (IsS173.lt (show IsS173 w0 _ g s0_0 az from iq173 a2.out)) : g ≠ a6)) ((by rw [hg]; exact Nat.ne_of_gt (IsS173.lt (show IsS173 w0 _ g s0_0 az from iq173 a2.out)) : a6 ≠ g)) ?_; clear a5 aJ a4 a3 a2 HK HB; intro a5 aJ a4 a3 a2 HK HB aa av aw an ao am ap ar al; clear hb hbox hg; refine hK.out _ _ (bc a3 0) (fun hHeld => ?_); clear hK K; refine nm 5 ?_; exact norm_ (by first | (simp only [putAll, Act.put, List.setIfInBounds_toArray, List.set_cons_zero, List.set_cons_succ]; done) | (simp only [putAll, Act.put, List.setIfInBounds_toArray, List.set_cons_zero, List.set_cons_succ]; rfl)) (hJ2_4_6_9_13 (aN, a6) _ ⟨hHeld, (kr aJ.out), (kr a5.out), (bk a4.out), (bk a3.out), (bk aa.out), av.out, aw.out, ar.out, al.out, an.out, ao.out, am.out, ap.out, (iq173 a2.out), (kb HK.out), (bq173 HB.out a2.out)⟩)
     rintro ⟨aN, a6⟩ b2 ⟨hS_, h0_, h1_, h2_, h3_, h4_, h5_, h6_, h7_, h8_, h9_, h10_, h11_, h12_, h13_, h14_, h15_⟩
     have af : Aside0 (Kd.R k27 27 b2 w.heap.size (fun k_ => some k_ ≠ (.slice ab a7.length ac : Value).ownBlock) aN aV) := ⟨h0_⟩
     have ag : Aside0 (Kd.R k27 27 b2 w.heap.size (fun k_ => some k_ ≠ (aN : Value).ownBlock) (.slice ab a7.length ac) a7) := ⟨h1_⟩
     have ah : Aside0 (b2.heap[a9]? = some (.cells #[.slice none 0 0] 25 (0, 0))) := ⟨h2_⟩
     have ai : Aside0 (b2.heap[a8]? = some (.cells #[.slice ab a7.length ac] 25 (0, 0))) := ⟨h3_⟩
     have aj : Aside0 (b2.heap[a6]? = some (.cells #[.slice none 0 0] 25 (0, 0))) := ⟨h4_⟩
     have ak : Aside0 (w.heap.size ≤ a6) := ⟨h5_⟩
     have ax : Aside0 (w0.heap.size ≤ a6) := ⟨h6_⟩
     have aA : Aside0 (g ≠ a6) := ⟨h7_⟩
     have aB : Aside0 (a6 ≠ g) := ⟨h8_⟩
     have aC : Aside0 (a9 ≠ a6) := ⟨h9_⟩
     have aD : Aside0 (a6 ≠ a9) := ⟨h10_⟩
     have aE : Aside0 (a8 ≠ a6) := ⟨h11_⟩
     have aF : Aside0 (a6 ≠ a8) := ⟨h12_⟩
     have aG : Aside0 (IsS173 w0 b2 g s0_0 az) := ⟨h13_⟩
     have aH : Aside0 (KeepBut w b2 g none) := ⟨h14_⟩
     have bq : Aside0 (Below w0.heap.size w0 b2) := ⟨h15_⟩
     clear a5; clear a4; clear a3; clear a2; clear HK; clear HB; clear h0_ h1_ h2_ h3_ h4_ h5_ h6_ h7_ h8_ h9_ h10_ h11_ h12_ h13_ h14_ h15_; have aJ := af; have a5 := ag; have a4 := ah; have a3 := ai; have aa := aj; have av := ak; have aw := ax; have ar := aA; have al := aB; have an := aC; have ao := aD; have am := aE; have ap := aF; have a2 := aG; have HK := aH; have HB := bq; clear af ag ah ai aj ak ax aA aB aC aD aE aF aG aH bq; have hHeld : b2.cell? ⟨a8, 0, none⟩ = some (.slice ab a7.length ac) := hS_; obtain ⟨cj, ck, bP⟩ := Kd.R_slice aJ.out; (first | subst bP | (injection bP with f1_ f2_ f3_; have f4_ := f1_.symm; have f5_ := f3_.symm; clear f1_ f2_ f3_; subst f4_; subst f5_)); refine norm_ (a' := ?_) ?_ ?_; rotate_left
     ·simp only [putAll, Act.put, List.setIfInBounds_toArray, List.set_cons_zero, List.set_cons_succ]; rfl
     refine o1 14 none (fb 16 32767) HT_ (fun K hK => ?_); have ⟨hs41, hfs41⟩ := Yc1 aa.out; have cA := an.out; have cB := am.out; have cC := ao.out; have cD := ap.out; refine skip_ (w1 := ?_) (by rfl) rfl ?_ ?_; rotate_left
     ·go_simp; rfl
     refine hK.out _ _ (((cell_far (p := ⟨a6, _, none⟩) am.out _).trans (hHeld))) (fun hHeld => ?_); clear hK K; refine pu 15 6 (fb 16 65535) HT_ ?_; refine done_ (done_of HT_.out (by kernel_rfl)) ?_
     try go_wp2
     go_roundg k1
     case measure => have := HK1.out; omega
     case rel => exact ⟨(wrap64 (aX - 1)), (az), (a7), (.slice ab a7.length ac), Ye1, H', ⟨by have := HK1.out; omega⟩, ⟨by (with_reducible repeat (first | apply Kd.R_alloc | apply Kd.R_drewN | apply Kd.R_drew)); exact Kd.R_mono (Kd.R_far (p := ⟨a6, 0, none⟩) (Kd.R_types a5.out aa.out (by decide)) (fun _ hk => hk.2) (.slice cj aV.length ck)) (fun _ hk => trivial)⟩, ⟨bkf a4.out an.out⟩, ⟨bkf a3.out am.out⟩, ⟨iq173 a2.out⟩, ⟨kb HK.out⟩, ⟨bq173 HB.out a2.out⟩⟩
   ·rw [if_neg c9] at H
    have bJ : decide (0 < aX) = false := decide_eq_false c9; clear c9; replace H := Option.bind_eq_some_iff.mp H; obtain ⟨⟨b9, bu⟩, bQ, H⟩ := H; replace H : (if b9 = 0 then ((spec_l1Rd_pick.f k1 s0_0 bu 3).bind fun bt203 => (spec_l5Draw.l1 k1 (wrap64 (100 - bt203.1)) 0 s0_0 bt203.2 a7)) else (some (a7, bu))) = some (r1, r2) := H; have A42 := Aside0.mk bQ; clear bQ
    by_cases ba : b9 = 0
    ·rw [if_pos ba] at H
     have bR : (b9 == 0) = true := beq_iff_eq.mpr ba; have bS : (b9 != 0) = false := bne_eq_false_iff_eq.mpr ba; clear ba; replace H := Option.bind_eq_some_iff.mp H; obtain ⟨⟨bd, bi⟩, bT, H⟩ := H; replace H : (spec_l5Draw.l1 k1 (wrap64 (100 - bd)) 0 s0_0 bi a7) = some (r1, r2) := H; have A44 := Aside0.mk bT; clear bT; have H' := Aside0.mk H; clear H
     go_wp2_with (first | ((with_reducible refine gc 66 rfl ?_); refine gl (some 33) _ (#[.pointer (some ⟨g, 0, none⟩), .int .i64 16]) Tryd.func66 ?_; (with_reducible refine (spec_l1Rd_pick.calls k1 g s0_0 aW 16 b9 bu w0 _ ?side1 ?side2 A42.out).mono ?_); (case side1 => exact iq173 a2.out); (case side2 => exact bq173 HB.out a2.out); rintro e w45 ⟨rfl, hi, hb, hk⟩; refine ⟨_, rfl, ?_⟩; refine Ya6 (ra173 (iq173 a2.out) (kr a5.out) hk) (kx hk a4 aU) (kx hk a3 aK) (KeepBut.trans (kb HK.out) hk (.inl rfl)) (hb) (hi) ?_; clear a5 a4 a3 HK HB a2; intro a5 a4 a3 HK HB a2; (try clear hb); (try clear hb2); (try clear hk); (try clear hi)) | ((with_reducible refine gc 66 rfl ?_); refine gl (some 36) _ (#[.pointer (some ⟨g, 0, none⟩), .int .i64 3]) Tryd.func66 ?_; (with_reducible refine (spec_l1Rd_pick.calls k1 g s0_0 bu 3 bd bi w0 _ ?side1 ?side2 A44.out).mono ?_); (case side1 => exact iq173 a2.out); (case side2 => exact bq173 HB.out a2.out); rintro e w46 ⟨rfl, hi, hb, hk⟩; refine ⟨_, rfl, ?_⟩; refine Ya6 (ra173 (iq173 a2.out) (kr a5.out) hk) (kx hk a4 aU) (kx hk a3 aK) (KeepBut.trans (kb HK.out) hk (.inl rfl)) (hb) (hi) ?_; clear a5 a4 a3 HK HB a2; intro a5 a4 a3 HK HB a2; (try clear hb); (try clear hb2); (try clear hk); (try clear hi)))
     go_loopg [8] k1 (fun kq v8 w' => ∃ (b0 : Int) (b3 : List (S27)) (b8 : Value), v8 = .int .i64 b0 ∧ Aside0 (spec_l5Draw.l1 kq (wrap64 (100 - bd)) b0 s0_0 bi b3 = some (r1, r2)) ∧ Aside0 (kq ≤ k1) ∧ Aside0 (Kd.R k27 27 w' w.heap.size (fun _ => True) b8 b3) ∧ Aside0 (w'.heap[a9]? = some (.cells #[(.slice none 0 0)] 25 (0, 0))) ∧ Aside0 (w'.heap[a8]? = some (.cells #[b8] 25 (0, 0))) ∧ Aside0 (IsS173 w0 w' g s0_0 bi) ∧ Aside0 (KeepBut w w' g none) ∧ Aside0 (Below w0.heap.size w0 w'))
     case atStart => exact ⟨(0), (a7), (b8), Ye1, H', ⟨Nat.le_refl _⟩, ⟨kr a5.out⟩, ⟨bk a4.out⟩, ⟨bk a3.out⟩, ⟨iq173 a2.out⟩, ⟨kb HK.out⟩, ⟨bq173 HB.out a2.out⟩⟩
     case round =>
      clear H'; (try clear c1); (try clear p2); (try clear c4); (try clear c6); (try clear p6); (try clear c9); (try clear bJ); (try clear c15); (try clear ba); (try clear bR); (try clear bS); obtain ⟨b0, b3, b8, rfl, HA, HK2, a5, a4, a3, a2, HK, HB⟩ := hrel
      cases gk with
      | zero => exact absurd HA.out (by simp [spec_l5Draw.l1])
      | succ k2 =>
       have H := HA.out; clear HA; simp only [spec_l5Draw.l1] at H
       by_cases bj : (b3.length : Int) < (wrap64 (100 - bd))
       ·rw [if_pos bj] at H
        have cl : decide ((b3.length : Int) < (wrap64 (100 - bd))) = true := decide_eq_true bj; clear bj
        obtain ⟨b5, bv⟩ : ∃ y_ : List Int, y_ = (([(wrap64 (97 + (wrap64 (Int.tdiv b0 26)))) % 256, (wrap64 (97 + (Int.tmod b0 26))) % 256] : List Int)) := ⟨_, rfl⟩
        replace H : (if 1 + (strOfNums b5).size ≤ 9223372036854775807 then ((spec_l5Set.f k2 b3 ((⟨#[122]⟩ : ByteArray) ++ (strOfNums b5)) (⟨#[]⟩ : ByteArray) false).bind fun b6 => (spec_l5Draw.l1 k2 (wrap64 (100 - bd)) (wrap64 (b0 + 1)) s0_0 bi b6)) else (none)) = some (r1, r2) := by first | (rw [bv]; with_reducible exact H) | (have H2_ := (Option.bind_some _ _).symm.trans H; rw [bv]; with_reducible exact H2_) | (have H2_ := (Option.bind_some _ _).symm.trans H; with_reducible exact H2_) | with_reducible exact H | (rw [bv]; exact H) | exact H
        have bU := Aside0.mk bv; clear bv
        by_cases bw : 1 + (strOfNums b5).size ≤ 9223372036854775807
        ·rw [if_pos bw] at H
         have c48b0 := eq_true bw; have c48b1 : decide (1 + (strOfNums b5).size ≤ 9223372036854775807) = true := decide_eq_true bw
         try have c48b2 : (9223372036854775807 < 1 + (strOfNums b5).size) = False := eq_false (Nat.not_lt.2 bw)
         replace H := Option.bind_eq_some_iff.mp H; obtain ⟨b6, bV, H⟩ := H; replace H : (spec_l5Draw.l1 k2 (wrap64 (100 - bd)) (wrap64 (b0 + 1)) s0_0 bi b6) = some (r1, r2) := H; have A49 := Aside0.mk bV; clear bV; have H' := Aside0.mk H; clear H; have hnb50 := bn.out; have hnc50 := bg.out; have hnb51 := aK.out; have hnc51 := bo.out; have ⟨cE, cF⟩ := Yc1 a3.out; obtain ⟨cm, cn, co⟩ := Kd.R_slice a5.out; subst co
         go_wp2_with (first | ((with_reducible refine gd 54 rfl ?_); refine Kd.R_lit (Kd.int .u8) _ 5 ?hg (N := 54) ?hd (xs := ([(wrap64 (97 + (wrap64 (Int.tdiv b0 26)))) % 256, (wrap64 (97 + (Int.tmod b0 26))) % 256] : List Int)) (inner := [.int .u8 ((wrap64 (97 + (wrap64 (Int.tdiv b0 26)))) % 256), .int .u8 ((wrap64 (97 + (Int.tmod b0 26))) % 256)]) (ok := fun _ => True) (okp := fun _ => True) ?hr ?hp (fun _ hk => hk) trivial (Below.refl _ _) (Nat.le_refl _) (by simp) ?_; (case hd => rfl); (case hg => rfl); (case hr => first | (go_simp; done) | (go_simp; rfl)); (case hp => exact (Reps.one (show Kd.M (Kd.int .u8) _ _ _ ((wrap64 (97 + (wrap64 (Int.tdiv b0 26)))) % 256) [.int .u8 ((wrap64 (97 + (wrap64 (Int.tdiv b0 26)))) % 256)] from rfl) (Reps.one (show Kd.M (Kd.int .u8) _ _ _ ((wrap64 (97 + (Int.tmod b0 26))) % 256) [.int .u8 ((wrap64 (97 + (Int.tmod b0 26))) % 256)] from rfl) (Reps.none _ _)))); intro v206 w54 ho55 hb hg_ hnew_; clear hg_ hnew_; (first | rw [← bU.out] at ho55 | (simp only [Int.reduceToNat] at ho55; rw [← bU.out] at ho55)); refine Ya7 (Kd.R_below (kr a5.out) hb) (Kd.R_lower ho55 (keep_size (w := w) (g := g) (row := none) (kb HK.out))) (bb a4 hb) (bb a3 hb) (IsS173.below (iq173 a2.out) hb) (KeepBut.trans (kb HK.out) (KeepBut.of_below hb g none) (.inl rfl)) (below_step (bq173 HB.out a2.out) hb) ?_; clear a5 a4 a3 a2 HK HB; intro a5 bD a4 a3 a2 HK HB; clear hb ho55; have hcv56 := own_string (P := Tryd.prog) Tryd.underlying22 Tryd.underlying5 Tryd.underlying9 (Kd.own_of_R bD.out)) | ((with_reducible refine gc 73 rfl ?_); refine gl (some 58) _ (#[.agg #[.slice cm b3.length cn], .agg #[.string ((⟨#[122]⟩ : ByteArray) ++ (strOfNums b5)), .string (⟨#[]⟩ : ByteArray), .bool false]]) Tryd.func73 ?_; (with_reducible refine (spec_l5Set.calls k2 _ _ b3 ((⟨#[122]⟩ : ByteArray) ++ (strOfNums b5)) (⟨#[]⟩ : ByteArray) false b6 _ ?side1 ?side2 A49.out).mono ?_); (case side1 => repeat (first | exact (Kd.R_reads' a5.out).2.2 | (with_reducible refine Kd.C_alloc ?_ _) | (with_reducible refine Kd.C_drewN ?_ _) | (with_reducible refine Kd.C_drew ?_))); (case side2 => exact (Kd.R_reads' a5.out).2.1); rintro e w57 ⟨v209, rfl, ho0, hb⟩; refine ⟨_, rfl, ?_⟩; refine Ya8 (Kd.R_elder' (kr a5.out) (Kd.R_base ho0) hb) (Kd.R_below (kr bD.out) hb) (Kd.R_lower (Kd.R_new' ho0 (Kd.R_lt (kr a5.out))) (keep_size (w := w) (g := g) (row := none) (kb HK.out))) (bb a4 hb) (bb a3 hb) (IsS173.below (iq173 a2.out) hb) (KeepBut.trans (kb HK.out) (KeepBut.of_below hb g none) (.inl rfl)) (below_step (bq173 HB.out a2.out) hb) ?_; clear a5 bD a4 a3 a2 HK HB; intro a5 bD bW a4 a3 a2 HK HB; (try clear hb); (try clear hb2); (try clear hk); (try clear hi); (try clear ho0); obtain ⟨bX, bY, cp⟩ := Kd.R_slice bW.out; subst cp; have ⟨cG, cH⟩ := Yc1 a3.out))
         go_roundg k2
         case measure => have := HK1.out; have := HK2.out; omega
         case rel => exact ⟨(wrap64 (b0 + 1)), (b6), (.slice bX b6.length bY), Ye1, H', ⟨by have := HK1.out; have := HK2.out; omega⟩, ⟨by (with_reducible repeat (first | apply Kd.R_alloc | apply Kd.R_drewN | apply Kd.R_drew)); exact Kd.R_mono (Kd.R_far (p := ⟨a8, 0, none⟩) (Kd.R_types bW.out a3.out (by decide)) (fun _ hk => hk.2) (.slice bX b6.length bY)) (fun _ hk => trivial)⟩, ⟨bkf a4.out bg.out⟩, ⟨bp a3.out⟩, ⟨iq173 a2.out⟩, ⟨kb HK.out⟩, ⟨bq173 HB.out a2.out⟩⟩
        ·rw [if_neg bw] at H
         exact absurd H (by simp)
       ·rw [if_neg bj] at H
        have cl : decide ((b3.length : Int) < (wrap64 (100 - bd))) = false := decide_eq_false bj; clear bj; simp only [Option.some.injEq, Prod.mk.injEq] at H; obtain ⟨rfl, rfl⟩ := H; have hnb60 := bn.out; have hnc60 := bg.out; have hnb61 := aK.out; have hnc61 := bo.out; have ⟨cI, cJ⟩ := Yc1 a3.out; obtain ⟨bZ, c0, cq⟩ := Kd.R_slice a5.out; subst cq; have hnb64 := aU.out; have hnc64 := bI.out; have ⟨cK, cL⟩ := Yc1 a4.out
        go_wp2
        refine bodyPost_ret (results_cell_row rfl _ _ a9 25 #[.slice bZ b3.length c0] (0, 0) _ rfl (bp a4.out) Tryd.underlying25 rfl (by kernel_rfl)) rfl ?_; exact ⟨_, Ye2, by (with_reducible repeat (first | apply Kd.R_alloc | apply Kd.R_drewN | apply Kd.R_drew)); exact Kd.R_mono (Kd.R_far (p := ⟨a9, 0, none⟩) (Kd.R_types a5.out a4.out (by decide)) (fun _ hk => hk.2) (.slice bZ b3.length c0)) (fun _ hk => trivial), iq173 a2.out, bq173 HB.out a2.out, kb HK.out⟩
    ·rw [if_neg ba] at H
     have bR : (b9 == 0) = false := beq_eq_false_iff_ne.mpr ba; have bS : (b9 != 0) = true := bne_iff_ne.mpr ba; simp only [Option.some.injEq, Prod.mk.injEq] at H; obtain ⟨rfl, rfl⟩ := H
     go_wp2_with (first | ((with_reducible refine gc 66 rfl ?_); refine gl (some 33) _ (#[.pointer (some ⟨g, 0, none⟩), .int .i64 16]) Tryd.func66 ?_; (with_reducible refine (spec_l1Rd_pick.calls k1 g s0_0 aW 16 b9 bu w0 _ ?side1 ?side2 A42.out).mono ?_); (case side1 => exact iq173 a2.out); (case side2 => exact bq173 HB.out a2.out); rintro e w66 ⟨rfl, hi, hb, hk⟩; refine ⟨_, rfl, ?_⟩; refine Ya6 (ra173 (iq173 a2.out) (kr a5.out) hk) (kx hk a4 aU) (kx hk a3 aK) (KeepBut.trans (kb HK.out) hk (.inl rfl)) (hb) (hi) ?_; clear a5 a4 a3 HK HB a2; intro a5 a4 a3 HK HB a2; (try clear hb); (try clear hb2); (try clear hk); (try clear hi); have hnb67 := bn.out; have hnc67 := bg.out; have hnb68 := aK.out; have hnc68 := bo.out; have ⟨cM, cN⟩ := Yc1 a3.out; obtain ⟨ca, cc, cr⟩ := Kd.R_slice a5.out; subst cr; have hnb71 := aU.out; have hnc71 := bI.out; have ⟨cO, cP⟩ := Yc1 a4.out))
     refine bodyPost_ret (results_cell_row rfl _ _ a9 25 #[.slice ca a7.length cc] (0, 0) _ rfl (bp a4.out) Tryd.underlying25 rfl (by kernel_rfl)) rfl ?_; exact ⟨_, Ye2, by (with_reducible repeat (first | apply Kd.R_alloc | apply Kd.R_drewN | apply Kd.R_drew)); exact Kd.R_mono (Kd.R_far (p := ⟨a9, 0, none⟩) (Kd.R_types a5.out a4.out (by decide)) (fun _ hk => hk.2) (.slice ca a7.length cc)) (fun _ hk => trivial), iq173 a2.out, bq173 HB.out a2.out, kb HK.out⟩

end Go.Proofs.YtknagppkeodggaaDoor.P

