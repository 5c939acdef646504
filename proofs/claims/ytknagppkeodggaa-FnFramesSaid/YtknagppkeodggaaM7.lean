/- Several texts of this claim in one file: YtknagppkeodggaaPSpecL1RdPick, YtknagppkeodggaaPSpecL1Width, YtknagppkeodggaaPSpecL1Text, YtknagppkeodggaaPSpecL3Payloads, YtknagppkeodggaaPSpecDrawEncode, YtknagppkeodggaaPSpecL1Bend, YtknagppkeodggaaPSpecL3Draw. -/
import Derived.Test.YtknagppkeodggaaM2
import Derived.Test.YtknagppkeodggaaM3
import Derived.Test.YtknagppkeodggaaM4
import Derived.Test.YtknagppkeodggaaM6
import Derived.Test.YtknagppkeodggaaM5
namespace Go.Proofs.Ytknagppkeodggaa.P
open Go.RowKit Go.Proofs.YtknagppkeodggaaW.PrintWords Go.Proofs.YtknagppkeodggaaW.PrintLast Go.Proofs.YtknagppkeodggaaW.PrintMore
attribute [local go_sem] max2_int min2_int max_two min_two max_three min_three max_four min_four
set_option linter.unusedVariables false
set_option linter.unusedSimpArgs false

/-! ### spec_l1Rd_pick: function 17 -/
def spec_l1Rd_pick.j0 : Nat → Int → Bool → List Int → Int → Option (Int × Int)
 | 0, _, _, _, _ => none
 | k + 1, x1, x24, a3, a4 => if x24 = true then (some (0, a4)) else (if (wrap64 (a4 - 1)) < (a3.length : Int) then (if 0 ≤ (wrap64 (a4 - 1)) then (if x1 = 0 then (none) else (some (Int.tmod (wrap64 (rd a3 (wrap64 (a4 - 1)))) x1, a4))) else (none)) else (if (a3.length : Int) = 0 then (none) else (if 0 ≤ (Int.tmod (wrap64 (a4 - 1)) (a3.length : Int)) then (if (Int.tmod (wrap64 (a4 - 1)) (a3.length : Int)) < (a3.length : Int) then (if 0 ≤ (Int.tmod (wrap64 ((wrap64 ((wrap64 (a4 - 1)) * 7)) + 3)) (a3.length : Int)) then (if (Int.tmod (wrap64 ((wrap64 ((wrap64 (a4 - 1)) * 7)) + 3)) (a3.length : Int)) < (a3.length : Int) then (if x1 = 0 then (none) else (some (Int.tmod (Go.bits .xor .i64 (wrap64 ((wrap64 ((wrap64 ((wrap64 ((wrap64 (rd a3 (Int.tmod (wrap64 (a4 - 1)) (a3.length : Int)))) * 131)) + (wrap64 ((wrap64 (rd a3 (Int.tmod (wrap64 ((wrap64 ((wrap64 (a4 - 1)) * 7)) + 3)) (a3.length : Int)))) * 1117)))) + (wrap64 ((wrap64 (a4 - 1)) * 29)))) + (wrap64 ((wrap64 (Int.tdiv (wrap64 (a4 - 1)) (a3.length : Int))) * 53)))) (wrap64 (Int.tdiv (wrap64 ((wrap64 ((wrap64 ((wrap64 ((wrap64 (rd a3 (Int.tmod (wrap64 (a4 - 1)) (a3.length : Int)))) * 131)) + (wrap64 ((wrap64 (rd a3 (Int.tmod (wrap64 ((wrap64 ((wrap64 (a4 - 1)) * 7)) + 3)) (a3.length : Int)))) * 1117)))) + (wrap64 ((wrap64 (a4 - 1)) * 29)))) + (wrap64 ((wrap64 (Int.tdiv (wrap64 (a4 - 1)) (a3.length : Int))) * 53)))) 64))) x1, a4))) else (none)) else (none)) else (none)) else (none))))
def spec_l1Rd_pick.f (k : Nat) (s0_0 : List Int) (s0_1 : Int) (a1 : Int) : Option (Int × Int) := if a1 < 1 then (spec_l1Rd_pick.j0 k a1 true s0_0 (wrap64 (s0_1 + 1))) else (spec_l1Rd_pick.j0 k a1 ((s0_0.length : Int) == 0) s0_0 (wrap64 (s0_1 + 1)))
theorem spec_l1Rd_pick.mono_l : ∀ k, (∀ y0 y1 y2 y3, LeO (spec_l1Rd_pick.j0 k y0 y1 y2 y3) (spec_l1Rd_pick.j0 (k + 1) y0 y1 y2 y3))
 | 0 => fun _ _ _ _ r h => by simp [spec_l1Rd_pick.j0] at h
 | k + 1 => by
  have ih0 := spec_l1Rd_pick.mono_l k
  ·intro y0 y1 y2 y3
   unfold spec_l1Rd_pick.j0
   repeat' first
   | (with_reducible exact ih0 _ _ _ _)
   | (with_reducible exact LeO.refl _)
   | (with_reducible exact LeO.none _)
   | (with_reducible refine LeO.ite ?_ ?_)
   | (with_reducible refine LeO.bind ?_ (fun _ => ?_))
   | exact ih0 _ _ _ _
   | exact LeO.none _
   | refine LeO.ite ?_ ?_
   | refine LeO.bind ?_ (fun _ => ?_)
theorem spec_l1Rd_pick.mono : ∀ a0 a1 a2 k, LeO (spec_l1Rd_pick.f k a0 a1 a2) (spec_l1Rd_pick.f (k + 1) a0 a1 a2) := by
 intro a0 a1 a2 k; have ih0 := spec_l1Rd_pick.mono_l k
 unfold spec_l1Rd_pick.f
 repeat' first
   | (with_reducible exact ih0 _ _ _ _)
   | (with_reducible exact LeO.refl _)
   | (with_reducible exact LeO.none _)
   | (with_reducible refine LeO.ite ?_ ?_)
   | (with_reducible refine LeO.bind ?_ (fun _ => ?_))
   | exact ih0 _ _ _ _
   | exact LeO.none _
   | refine LeO.ite ?_ ?_
   | refine LeO.bind ?_ (fun _ => ?_)
set_option maxHeartbeats 8000000 in
set_option maxRecDepth 100000 in
theorem spec_l1Rd_pick.calls (k : Nat) (g : Nat) (s0_0 : List Int) (s0_1 : Int) (a1 : Int) (r1 : Int) (r2 : Int) (w0 w : World) (hI : IsS62 w0 w g s0_0 s0_1) (hB : Below w0.heap.size w0 w) (h : spec_l1Rd_pick.f k s0_0 s0_1 a1 = some (r1, r2)) :
  Calls Try.prog 17 #[.pointer (some ⟨g, 0, none⟩), .int .i64 a1] w fun e w' => e = .returned (.int .i64 r1) ∧ IsS62 w0 w' g s0_0 r2 ∧ Below w0.heap.size w0 w' ∧ KeepBut w w' g none := by
 have a5 := Aside0.mk hI; have HK := Aside0.mk (KeepBut.refl w g none); have HL := Aside0.mk hB.size; clear hI; have HW0 := Aside0.mk hB.size; have HB := Aside0.mk hB; clear hB; have H : (if a1 < 1 then (spec_l1Rd_pick.j0 k a1 true s0_0 (wrap64 (s0_1 + 1))) else (spec_l1Rd_pick.j0 k a1 ((s0_0.length : Int) == 0) s0_0 (wrap64 (s0_1 + 1)))) = some (r1, r2) := h; clear h; have aj := Aside0.mk H; clear H; obtain ⟨ASz4_0, cSz4_0, HGz4, hgz4, HSz4_0⟩ := a5.out; have ay := cellS62_0 HGz4; have az := cellS62_1 HGz4; have aA := blk_frozen HGz4 1; clear HGz4 hgz4
 go_enter Try.func17, Try.ntmps17
 go_upto_region 2 with (fail)
 repeat (go_quiet (fail); go_upto_region 2 with (fail))
 go_cut [24] (fun v24 wc => ∃ (kq : Nat) (ac : Bool), v24 = .bool ac ∧ Aside0 (spec_l1Rd_pick.j0 kq a1 ac s0_0 (wrap64 (s0_1 + 1)) = some (r1, r2)) ∧ Aside0 (kq ≤ k) ∧ Aside0 (IsS62 w0 wc g s0_0 (wrap64 (s0_1 + 1))) ∧ Aside0 (KeepBut w wc g none) ∧ Aside0 (Below w0.heap.size w0 wc))
 case first =>
  have H := aj.out; clear aj
  by_cases c5 : a1 < 1
  ·rw [if_pos c5] at H
   have a9 : decide (a1 < 1) = true := decide_eq_true c5; clear c5; (first | rw [a9] | (simp only [i64_w, i32_w]; rw [a9]) | skip); have H' := Aside0.mk H; clear H
   go_wp2
   repeat (go_quiet (fail); try go_wp2)
   go_meet
   case rel => exact ⟨_, (true), Ye1, H', ⟨by first | omega | exact Nat.le_refl _⟩, ⟨iq62 a5.out⟩, ⟨kb HK.out⟩, ⟨bq62 HB.out a5.out⟩⟩
  ·rw [if_neg c5] at H
   have a9 : decide (a1 < 1) = false := decide_eq_false c5; clear c5; (first | rw [a9] | (simp only [i64_w, i32_w]; rw [a9]) | skip); have H' := Aside0.mk H; clear H; obtain ⟨ASz6_0, cSz6_0, HGz6, hgz6, HSz6_0⟩ := a5.out; have aB := cellS62_0 HGz6; have aC := cellS62_1 HGz6; have aD := blk_frozen HGz6 1; clear HGz6 hgz6
   go_wp2
   repeat (go_quiet (fail); try go_wp2)
   go_meet
   case rel => exact ⟨_, (((s0_0.length : Int) == 0)), Ye1, H', ⟨by first | omega | exact Nat.le_refl _⟩, ⟨iq62 a5.out⟩, ⟨kb HK.out⟩, ⟨bq62 HB.out a5.out⟩⟩
 case rest =>
  clear aj; (try clear c1); (try clear p2); (try clear c5); (try clear a9); (try clear p6); (try clear ay); (try clear az); (try clear aB); (try clear aC); (try clear aA); (try clear aD); obtain ⟨kq, ac, rfl, HA, HJ2, a5, HK, HB⟩ := hcut
  cases kq with
  | zero => exact absurd HA.out (by simp [spec_l1Rd_pick.j0])
  | succ kj2 =>
   have H := HA.out; clear HA; simp only [spec_l1Rd_pick.j0] at H
   by_cases c7 : ac = true
   ·subst c7
    have H1 : (some (0, (wrap64 (s0_1 + 1)))) = some (r1, r2) := by rw [if_pos rfl] at H; exact H
    clear H; have H := H1; clear H1; simp only [Option.some.injEq, Prod.mk.injEq] at H; obtain ⟨rfl, rfl⟩ := H
    go_wp2
    repeat (go_quiet (fail); try go_wp2)
    go_ret
    exact ⟨Ye2, iq62 a5.out, bq62 HB.out a5.out, kb HK.out⟩
   ·replace c7 := Bool.eq_false_iff.mpr c7; subst c7
    have H1 : (if (wrap64 ((wrap64 (s0_1 + 1)) - 1)) < (s0_0.length : Int) then (if 0 ≤ (wrap64 ((wrap64 (s0_1 + 1)) - 1)) then (if a1 = 0 then (none) else (some (Int.tmod (wrap64 (rd s0_0 (wrap64 ((wrap64 (s0_1 + 1)) - 1)))) a1, (wrap64 (s0_1 + 1))))) else (none)) else (if (s0_0.length : Int) = 0 then (none) else (if 0 ≤ (Int.tmod (wrap64 ((wrap64 (s0_1 + 1)) - 1)) (s0_0.length : Int)) then (if (Int.tmod (wrap64 ((wrap64 (s0_1 + 1)) - 1)) (s0_0.length : Int)) < (s0_0.length : Int) then (if 0 ≤ (Int.tmod (wrap64 ((wrap64 ((wrap64 ((wrap64 (s0_1 + 1)) - 1)) * 7)) + 3)) (s0_0.length : Int)) then (if (Int.tmod (wrap64 ((wrap64 ((wrap64 ((wrap64 (s0_1 + 1)) - 1)) * 7)) + 3)) (s0_0.length : Int)) < (s0_0.length : Int) then (if a1 = 0 then (none) else (some (Int.tmod (Go.bits .xor .i64 (wrap64 ((wrap64 ((wrap64 ((wrap64 ((wrap64 (rd s0_0 (Int.tmod (wrap64 ((wrap64 (s0_1 + 1)) - 1)) (s0_0.length : Int)))) * 131)) + (wrap64 ((wrap64 (rd s0_0 (Int.tmod (wrap64 ((wrap64 ((wrap64 ((wrap64 (s0_1 + 1)) - 1)) * 7)) + 3)) (s0_0.length : Int)))) * 1117)))) + (wrap64 ((wrap64 ((wrap64 (s0_1 + 1)) - 1)) * 29)))) + (wrap64 ((wrap64 (Int.tdiv (wrap64 ((wrap64 (s0_1 + 1)) - 1)) (s0_0.length : Int))) * 53)))) (wrap64 (Int.tdiv (wrap64 ((wrap64 ((wrap64 ((wrap64 ((wrap64 (rd s0_0 (Int.tmod (wrap64 ((wrap64 (s0_1 + 1)) - 1)) (s0_0.length : Int)))) * 131)) + (wrap64 ((wrap64 (rd s0_0 (Int.tmod (wrap64 ((wrap64 ((wrap64 ((wrap64 (s0_1 + 1)) - 1)) * 7)) + 3)) (s0_0.length : Int)))) * 1117)))) + (wrap64 ((wrap64 ((wrap64 (s0_1 + 1)) - 1)) * 29)))) + (wrap64 ((wrap64 (Int.tdiv (wrap64 ((wrap64 (s0_1 + 1)) - 1)) (s0_0.length : Int))) * 53)))) 64))) a1, (wrap64 (s0_1 + 1))))) else (none)) else (none)) else (none)) else (none)))) = some (r1, r2) := by rw [if_neg (show ¬ (false = true) by decide)] at H; exact H
    clear H; have H := H1; clear H1
    by_cases c8 : (wrap64 ((wrap64 (s0_1 + 1)) - 1)) < (s0_0.length : Int)
    ·rw [if_pos c8] at H
     have au : decide ((wrap64 ((wrap64 (s0_1 + 1)) - 1)) < (s0_0.length : Int)) = true := decide_eq_true c8; clear c8
     obtain ⟨a8, aa⟩ : ∃ j_ : Int, (wrap64 ((wrap64 (s0_1 + 1)) - 1)) = j_ := ⟨_, rfl⟩
     replace H : (if 0 ≤ (a8) then (if a1 = 0 then (none) else (some (Int.tmod (wrap64 (rd s0_0 (a8))) a1, (wrap64 (s0_1 + 1))))) else (none)) = some (r1, r2) := by first | (rw [aa] at H; exact H) | (simp only [aa] at H ⊢; exact H)
     (try rw [aa] at au); have hji9w : (IntKind.i64.wrap ((wrap64 (s0_1 + 1)) - 1)) = a8 := (i64_w _).trans aa
     by_cases c10 : 0 ≤ (a8)
     ·rw [if_pos c10] at H
      have c10b0 : decide (0 ≤ (a8)) = true := decide_eq_true c10; clear c10
      by_cases ad : a1 = 0
      ·rw [if_pos ad] at H
       exact absurd H (by simp)
      ·rw [if_neg ad] at H
       have c11b0 : (a1 == 0) = false := beq_eq_false_iff_ne.mpr ad; have c11b1 : (a1 != 0) = true := bne_iff_ne.mpr ad; simp only [Option.some.injEq, Prod.mk.injEq] at H; obtain ⟨rfl, rfl⟩ := H; obtain ⟨ASz12_0, cSz12_0, HGz12, hgz12, HSz12_0⟩ := a5.out; have aJ := cellS62_0 HGz12; have aK := cellS62_1 HGz12; have aL := blk_frozen HGz12 1; clear HGz12 hgz12; have ak : 0 ≤ ((a8) : Int) := oda; have al : (a8) < (s0_0.length : Int) := oda; obtain ⟨ad160, aE, av⟩ := Kd.at_int HSz12_0 (a8) ak al
       cases aE
       replace av := pw_cell_below HB.out av; replace ak := eq_true ak; replace al := eq_true al
       go_wp2
       repeat (go_quiet (fail); try go_wp2)
       go_ret
       exact ⟨by first | rfl | (simp [errW_none, errW_some] <;> rfl) | (simp only [← aa]; first | rfl | (simp [errW_none, errW_some] <;> rfl)) | (simp [*, errW_none, errW_some] <;> rfl), iq62 a5.out, bq62 HB.out a5.out, kb HK.out⟩
     ·rw [if_neg c10] at H
      exact absurd H (by simp)
    ·rw [if_neg c8] at H
     have au : decide ((wrap64 ((wrap64 (s0_1 + 1)) - 1)) < (s0_0.length : Int)) = false := decide_eq_false c8; clear c8
     by_cases ab : (s0_0.length : Int) = 0
     ·rw [if_pos ab] at H
      exact absurd H (by simp)
     ·rw [if_neg ab] at H
      have c13b0 : ((s0_0.length : Int) == 0) = false := beq_eq_false_iff_ne.mpr ab; have c13b1 : ((s0_0.length : Int) != 0) = true := bne_iff_ne.mpr ab
      have c13b2 : ¬ (s0_0 = []) := fun h_ => ab (by rw [h_]; rfl)
      obtain ⟨a6, am⟩ : ∃ j_ : Int, (Int.tmod (wrap64 ((wrap64 (s0_1 + 1)) - 1)) (s0_0.length : Int)) = j_ := ⟨_, rfl⟩
      replace H : (if 0 ≤ (a6) then (if (a6) < (s0_0.length : Int) then (if 0 ≤ (Int.tmod (wrap64 ((wrap64 ((wrap64 ((wrap64 (s0_1 + 1)) - 1)) * 7)) + 3)) (s0_0.length : Int)) then (if (Int.tmod (wrap64 ((wrap64 ((wrap64 ((wrap64 (s0_1 + 1)) - 1)) * 7)) + 3)) (s0_0.length : Int)) < (s0_0.length : Int) then (if a1 = 0 then (none) else (some (Int.tmod (Go.bits .xor .i64 (wrap64 ((wrap64 ((wrap64 ((wrap64 ((wrap64 (rd s0_0 (a6))) * 131)) + (wrap64 ((wrap64 (rd s0_0 (Int.tmod (wrap64 ((wrap64 ((wrap64 ((wrap64 (s0_1 + 1)) - 1)) * 7)) + 3)) (s0_0.length : Int)))) * 1117)))) + (wrap64 ((wrap64 ((wrap64 (s0_1 + 1)) - 1)) * 29)))) + (wrap64 ((wrap64 (Int.tdiv (wrap64 ((wrap64 (s0_1 + 1)) - 1)) (s0_0.length : Int))) * 53)))) (wrap64 (Int.tdiv (wrap64 ((wrap64 ((wrap64 ((wrap64 ((wrap64 (rd s0_0 (a6))) * 131)) + (wrap64 ((wrap64 (rd s0_0 (Int.tmod (wrap64 ((wrap64 ((wrap64 ((wrap64 (s0_1 + 1)) - 1)) * 7)) + 3)) (s0_0.length : Int)))) * 1117)))) + (wrap64 ((wrap64 ((wrap64 (s0_1 + 1)) - 1)) * 29)))) + (wrap64 ((wrap64 (Int.tdiv (wrap64 ((wrap64 (s0_1 + 1)) - 1)) (s0_0.length : Int))) * 53)))) 64))) a1, (wrap64 (s0_1 + 1))))) else (none)) else (none)) else (none)) else (none)) = some (r1, r2) := by first | (rw [am] at H; exact H) | (simp only [am] at H ⊢; exact H)
      by_cases ae : 0 ≤ (a6)
      ·rw [if_pos ae] at H
       have c15b0 : decide (0 ≤ (a6)) = true := decide_eq_true ae; clear ae
       by_cases af : (a6) < (s0_0.length : Int)
       ·rw [if_pos af] at H
        have c16b0 : decide ((a6) < (s0_0.length : Int)) = true := decide_eq_true af; clear af
        obtain ⟨a7, an⟩ : ∃ j_ : Int, (Int.tmod (wrap64 ((wrap64 ((wrap64 ((wrap64 (s0_1 + 1)) - 1)) * 7)) + 3)) (s0_0.length : Int)) = j_ := ⟨_, rfl⟩
        replace H : (if 0 ≤ (a7) then (if (a7) < (s0_0.length : Int) then (if a1 = 0 then (none) else (some (Int.tmod (Go.bits .xor .i64 (wrap64 ((wrap64 ((wrap64 ((wrap64 ((wrap64 (rd s0_0 (a6))) * 131)) + (wrap64 ((wrap64 (rd s0_0 (a7))) * 1117)))) + (wrap64 ((wrap64 ((wrap64 (s0_1 + 1)) - 1)) * 29)))) + (wrap64 ((wrap64 (Int.tdiv (wrap64 ((wrap64 (s0_1 + 1)) - 1)) (s0_0.length : Int))) * 53)))) (wrap64 (Int.tdiv (wrap64 ((wrap64 ((wrap64 ((wrap64 ((wrap64 (rd s0_0 (a6))) * 131)) + (wrap64 ((wrap64 (rd s0_0 (a7))) * 1117)))) + (wrap64 ((wrap64 ((wrap64 (s0_1 + 1)) - 1)) * 29)))) + (wrap64 ((wrap64 (Int.tdiv (wrap64 ((wrap64 (s0_1 + 1)) - 1)) (s0_0.length : Int))) * 53)))) 64))) a1, (wrap64 (s0_1 + 1))))) else (none)) else (none)) = some (r1, r2) := by first | (rw [an] at H; exact H) | (simp only [an] at H ⊢; exact H)
        by_cases ag : 0 ≤ (a7)
        ·rw [if_pos ag] at H
         have c18b0 : decide (0 ≤ (a7)) = true := decide_eq_true ag; clear ag
         by_cases ah : (a7) < (s0_0.length : Int)
         ·rw [if_pos ah] at H
          have c19b0 : decide ((a7) < (s0_0.length : Int)) = true := decide_eq_true ah; clear ah
          by_cases ai : a1 = 0
          ·rw [if_pos ai] at H
           exact absurd H (by simp)
          ·rw [if_neg ai] at H
           have c20b0 : (a1 == 0) = false := beq_eq_false_iff_ne.mpr ai; have c20b1 : (a1 != 0) = true := bne_iff_ne.mpr ai; simp only [Option.some.injEq, Prod.mk.injEq] at H; obtain ⟨rfl, rfl⟩ := H; obtain ⟨ASz21_0, cSz21_0, HGz21, hgz21, HSz21_0⟩ := a5.out; have aM := cellS62_0 HGz21; have aN := cellS62_1 HGz21; have aO := blk_frozen HGz21 1; clear HGz21 hgz21; have ao : 0 ≤ ((a6) : Int) := oda; have ap : (a6) < (s0_0.length : Int) := oda; obtain ⟨aF, aG, aw⟩ := Kd.at_int HSz21_0 (a6) ao ap
           cases aG
           replace aw := pw_cell_below HB.out aw; replace ao := eq_true ao; replace ap := eq_true ap; have aq : 0 ≤ ((a7) : Int) := oda; have ar : (a7) < (s0_0.length : Int) := oda; obtain ⟨aH, aI, ax⟩ := Kd.at_int HSz21_0 (a7) aq ar
           obtain rfl : aF = aH := (by injection aI)
           replace ax := pw_cell_below HB.out ax; replace aq := eq_true aq; replace ar := eq_true ar
           go_wp2
           repeat (go_quiet (fail); try go_wp2)
           go_ret
           exact ⟨by first | rfl | (simp [errW_none, errW_some] <;> rfl) | (simp only [← am, ← an]; first | rfl | (simp [errW_none, errW_some] <;> rfl)) | (simp [*, errW_none, errW_some] <;> rfl), iq62 a5.out, bq62 HB.out a5.out, kb HK.out⟩
         ·rw [if_neg ah] at H
          exact absurd H (by simp)
        ·rw [if_neg ag] at H
         exact absurd H (by simp)
       ·rw [if_neg af] at H
        exact absurd H (by simp)
      ·rw [if_neg ae] at H
       exact absurd H (by simp)

end Go.Proofs.Ytknagppkeodggaa.P


namespace Go.Proofs.Ytknagppkeodggaa.P
open Go.RowKit Go.Proofs.YtknagppkeodggaaW.PrintWords Go.Proofs.YtknagppkeodggaaW.PrintLast Go.Proofs.YtknagppkeodggaaW.PrintMore
attribute [local go_sem] max2_int min2_int max_two min_two max_three min_three max_four min_four
set_option linter.unusedVariables false
set_option linter.unusedSimpArgs false

/-! ### spec_l1Width: function 27 -/
def spec_l1Width.f (k : Nat) (s0_0 : List Int) (s0_1 : Int) : Option (Int × Int) := (some (([8, 8, 4, 2, 1, 1] : List Int) : List Int)).bind fun a2 => ((spec_l1Rd_pick.f k s0_0 s0_1 6).bind fun bt209 => (if 0 ≤ bt209.1 then (if bt209.1 < (a2.length : Int) then (some (rd a2 bt209.1, bt209.2)) else (none)) else (none)))
theorem spec_l1Width.mono : ∀ a0 a1 k, LeO (spec_l1Width.f k a0 a1) (spec_l1Width.f (k + 1) a0 a1) := by
 intro a0 a1 k
 unfold spec_l1Width.f
 repeat' first
   | (with_reducible exact spec_l1Rd_pick.mono _ _ _ _)
   | (with_reducible exact LeO.refl _)
   | (with_reducible exact LeO.none _)
   | (with_reducible refine LeO.ite ?_ ?_)
   | (with_reducible refine LeO.bind ?_ (fun _ => ?_))
   | exact spec_l1Rd_pick.mono _ _ _ _
   | exact LeO.none _
   | refine LeO.ite ?_ ?_
   | refine LeO.bind ?_ (fun _ => ?_)
set_option maxHeartbeats 8000000 in
set_option maxRecDepth 100000 in
theorem spec_l1Width.calls (k : Nat) (g : Nat) (s0_0 : List Int) (s0_1 : Int) (r1 : Int) (r2 : Int) (w0 w : World) (hI : IsS62 w0 w g s0_0 s0_1) (hB : Below w0.heap.size w0 w) (h : spec_l1Width.f k s0_0 s0_1 = some (r1, r2)) :
  Calls Try.prog 27 #[.pointer (some ⟨g, 0, none⟩)] w fun e w' => e = .returned (.int .i64 r1) ∧ IsS62 w0 w' g s0_0 r2 ∧ Below w0.heap.size w0 w' ∧ KeepBut w w' g none := by
 have a3 := Aside0.mk hI; have HK := Aside0.mk (KeepBut.refl w g none); have HL := Aside0.mk hB.size; clear hI; have HW0 := Aside0.mk hB.size; have HB := Aside0.mk hB; clear hB; have H : ((some (([8, 8, 4, 2, 1, 1] : List Int) : List Int)).bind fun a2 => ((spec_l1Rd_pick.f k s0_0 s0_1 6).bind fun bt209 => (if 0 ≤ bt209.1 then (if bt209.1 < (a2.length : Int) then (some (rd a2 bt209.1, bt209.2)) else (none)) else (none)))) = some (r1, r2) := h; clear h
 obtain ⟨a2, a5⟩ : ∃ y_ : List Int, y_ = (([8, 8, 4, 2, 1, 1] : List Int)) := ⟨_, rfl⟩
 replace H : ((spec_l1Rd_pick.f k s0_0 s0_1 6).bind fun bt209 => (if 0 ≤ bt209.1 then (if bt209.1 < (a2.length : Int) then (some (rd a2 bt209.1, bt209.2)) else (none)) else (none))) = some (r1, r2) := by first | (rw [a5]; with_reducible exact H) | (have H2_ := (Option.bind_some _ _).symm.trans H; rw [a5]; with_reducible exact H2_) | (have H2_ := (Option.bind_some _ _).symm.trans H; with_reducible exact H2_) | with_reducible exact H | (rw [a5]; exact H) | exact H
 have a9 := Aside0.mk a5; clear a5; replace H := Option.bind_eq_some_iff.mp H; obtain ⟨⟨a4, aa⟩, A20, H⟩ := H; replace H : (if 0 ≤ a4 then (if a4 < (a2.length : Int) then (some (rd a2 a4, aa)) else (none)) else (none)) = some (r1, r2) := H; have A2 := Aside0.mk A20; clear A20
 by_cases c3 : 0 ≤ a4
 ·rw [if_pos c3] at H
  have c3b0 : decide (0 ≤ a4) = true := decide_eq_true c3; clear c3
  by_cases c4 : a4 < (a2.length : Int)
  ·rw [if_pos c4] at H
   have c4b0 : decide (a4 < (a2.length : Int)) = true := decide_eq_true c4; clear c4; simp only [Option.some.injEq, Prod.mk.injEq] at H; obtain ⟨rfl, rfl⟩ := H
   go_enter Try.func27, Try.ntmps27
   go_wp2_with (first | ((with_reducible refine gd 3 rfl ?_); refine Kd.R_lit (Kd.int .i64) _ 3 ?hg (N := 3) ?hd (xs := ([8, 8, 4, 2, 1, 1] : List Int)) (inner := [.int .i64 8, .int .i64 8, .int .i64 4, .int .i64 2, .int .i64 1, .int .i64 1]) (ok := fun _ => True) (okp := fun _ => True) ?hr ?hp (fun _ hk => hk) trivial (Below.refl _ _) (Nat.le_refl _) (by simp) ?_; (case hd => rfl); (case hg => rfl); (case hr => first | (go_simp; done) | (go_simp; rfl)); (case hp => exact (Reps.one (show Kd.M (Kd.int .i64) _ _ _ 8 [.int .i64 8] from rfl) (Reps.one (show Kd.M (Kd.int .i64) _ _ _ 8 [.int .i64 8] from rfl) (Reps.one (show Kd.M (Kd.int .i64) _ _ _ 4 [.int .i64 4] from rfl) (Reps.one (show Kd.M (Kd.int .i64) _ _ _ 2 [.int .i64 2] from rfl) (Reps.one (show Kd.M (Kd.int .i64) _ _ _ 1 [.int .i64 1] from rfl) (Reps.one (show Kd.M (Kd.int .i64) _ _ _ 1 [.int .i64 1] from rfl) (Reps.none _ _)))))))); intro v207 w5 ho6 hb hg_ hnew_; clear hg_ hnew_; (first | rw [← a9.out] at ho6 | (simp only [Int.reduceToNat] at ho6; rw [← a9.out] at ho6)); refine Ya4 (Kd.R_lower ho6 (keep_size (w := w) (g := g) (row := none) (kb HK.out))) (IsS62.below (iq62 a3.out) hb) (KeepBut.trans (kb HK.out) (KeepBut.of_below hb g none) (.inl rfl)) (below_step (bq62 HB.out a3.out) hb) ?_; clear a3 HK HB; intro a6 a3 HK HB; clear hb ho6) | ((with_reducible refine gc 17 rfl ?_); refine gl (some 5) _ (#[.pointer (some ⟨g, 0, none⟩), .int .i64 6]) Try.func17 ?_; (with_reducible refine (spec_l1Rd_pick.calls k g s0_0 s0_1 6 a4 aa w0 _ ?side1 ?side2 A2.out).mono ?_); (case side1 => exact iq62 a3.out); (case side2 => exact bq62 HB.out a3.out); rintro e w7 ⟨rfl, hi, hb, hk⟩; refine ⟨_, rfl, ?_⟩; refine Ya4 (ra62 (iq62 a3.out) (kr a6.out) hk) (KeepBut.trans (kb HK.out) hk (.inl rfl)) (hb) (hi) ?_; clear a6 HK HB a3; intro a6 HK HB a3; (try clear hb); (try clear hb2); (try clear hk); (try clear hi); obtain ⟨Ao8, co8, eo8⟩ := Kd.R_slice a6.out; subst eo8; have a7 : 0 ≤ (a4 : Int) := oda; have a8 : a4 < (a2.length : Int) := oda; obtain ⟨ad211, ab, ac⟩ := Kd.at_int (Kd.R_reads' a6.out).2.2 a4 a7 a8; cases ab; replace a7 := eq_true a7; replace a8 := eq_true a8))
   go_ret
   exact ⟨Ye2, iq62 a3.out, bq62 HB.out a3.out, kb HK.out⟩
  ·rw [if_neg c4] at H
   exact absurd H (by simp)
 ·rw [if_neg c3] at H
  exact absurd H (by simp)

end Go.Proofs.Ytknagppkeodggaa.P


namespace Go.Proofs.Ytknagppkeodggaa.P
open Go.RowKit Go.Proofs.YtknagppkeodggaaW.PrintWords Go.Proofs.YtknagppkeodggaaW.PrintLast Go.Proofs.YtknagppkeodggaaW.PrintMore
attribute [local go_sem] max2_int min2_int max_two min_two max_three min_three max_four min_four
set_option linter.unusedVariables false
set_option linter.unusedSimpArgs false

/-! ### spec_l1Text: function 33 -/
def spec_l1Text.l0 : Nat → ByteArray → Int → List Int → Int → Option (ByteArray × Int)
 | 0, _, _, _, _ => none
 | k + 1, x3, x4, aj, ak => if x4 > 0 then ((spec_l1Rd_pick.f k aj ak 4).bind fun bt167 => (if 0 ≤ bt167.1 then (if bt167.1 ≤ 4 then (if 0 ≤ 1 then (if 1 ≤ (((⟨#[97, 98, 99, 100]⟩ : ByteArray).extract (bt167.1 : Int).toNat (⟨#[97, 98, 99, 100]⟩ : ByteArray).size).size : Int) then (if x3.size + (((⟨#[97, 98, 99, 100]⟩ : ByteArray).extract (bt167.1 : Int).toNat (⟨#[97, 98, 99, 100]⟩ : ByteArray).size).extract 0 1).size ≤ 9223372036854775807 then (if (x3 ++ (((⟨#[97, 98, 99, 100]⟩ : ByteArray).extract (bt167.1 : Int).toNat (⟨#[97, 98, 99, 100]⟩ : ByteArray).size).extract 0 1)).size + 1 ≤ 9223372036854775807 then (spec_l1Text.l0 k ((x3 ++ (((⟨#[97, 98, 99, 100]⟩ : ByteArray).extract (bt167.1 : Int).toNat (⟨#[97, 98, 99, 100]⟩ : ByteArray).size).extract 0 1)) ++ (⟨#[10]⟩ : ByteArray)) (wrap64 (x4 - 1)) aj bt167.2) else (none)) else (none)) else (none)) else (none)) else (none)) else (none))) else (some (x3, ak))
def spec_l1Text.f (k : Nat) (s0_0 : List Int) (s0_1 : Int) : Option (ByteArray × Int) := (spec_l1Rd_pick.f k s0_0 s0_1 9).bind fun bt163 => (if bt163.1 = 0 then (some ((⟨#[]⟩ : ByteArray), bt163.2)) else (if bt163.1 = 1 then (some ((⟨#[255, 0]⟩ : ByteArray), bt163.2)) else (if bt163.1 = 2 then (some ((⟨#[110, 111, 32, 110, 101, 119, 108, 105, 110, 101]⟩ : ByteArray), bt163.2)) else ((spec_l1Rd_pick.f k s0_0 bt163.2 7).bind fun bt165 => (spec_l1Text.l0 k (⟨#[]⟩ : ByteArray) bt165.1 s0_0 bt165.2)))))
theorem spec_l1Text.mono_l : ∀ k, (∀ y0 y1 y2 y3, LeO (spec_l1Text.l0 k y0 y1 y2 y3) (spec_l1Text.l0 (k + 1) y0 y1 y2 y3))
 | 0 => fun _ _ _ _ r h => by simp [spec_l1Text.l0] at h
 | k + 1 => by
  have ih0 := spec_l1Text.mono_l k
  ·intro y0 y1 y2 y3
   unfold spec_l1Text.l0
   repeat' first
   | (with_reducible exact ih0 _ _ _ _)
   | (with_reducible exact spec_l1Rd_pick.mono _ _ _ _)
   | (with_reducible exact LeO.refl _)
   | (with_reducible exact LeO.none _)
   | (with_reducible refine LeO.ite ?_ ?_)
   | (with_reducible refine LeO.bind ?_ (fun _ => ?_))
   | exact ih0 _ _ _ _
   | exact spec_l1Rd_pick.mono _ _ _ _
   | exact LeO.none _
   | refine LeO.ite ?_ ?_
   | refine LeO.bind ?_ (fun _ => ?_)
theorem spec_l1Text.mono : ∀ a0 a1 k, LeO (spec_l1Text.f k a0 a1) (spec_l1Text.f (k + 1) a0 a1) := by
 intro a0 a1 k; have ih0 := spec_l1Text.mono_l k
 unfold spec_l1Text.f
 repeat' first
   | (with_reducible exact ih0 _ _ _ _)
   | (with_reducible exact spec_l1Rd_pick.mono _ _ _ _)
   | (with_reducible exact LeO.refl _)
   | (with_reducible exact LeO.none _)
   | (with_reducible refine LeO.ite ?_ ?_)
   | (with_reducible refine LeO.bind ?_ (fun _ => ?_))
   | exact ih0 _ _ _ _
   | exact spec_l1Rd_pick.mono _ _ _ _
   | exact LeO.none _
   | refine LeO.ite ?_ ?_
   | refine LeO.bind ?_ (fun _ => ?_)
set_option maxHeartbeats 8000000 in
set_option maxRecDepth 100000 in
theorem spec_l1Text.calls (k : Nat) (g : Nat) (s0_0 : List Int) (s0_1 : Int) (r1 : ByteArray) (r2 : Int) (w0 w : World) (hI : IsS62 w0 w g s0_0 s0_1) (hB : Below w0.heap.size w0 w) (h : spec_l1Text.f k s0_0 s0_1 = some (r1, r2)) :
  Calls Try.prog 33 #[.pointer (some ⟨g, 0, none⟩)] w fun e w' => e = .returned (.string r1) ∧ IsS62 w0 w' g s0_0 r2 ∧ Below w0.heap.size w0 w' ∧ KeepBut w w' g none := by
 have a2 := Aside0.mk hI; have HK := Aside0.mk (KeepBut.refl w g none); have HL := Aside0.mk hB.size; clear hI; have HW0 := Aside0.mk hB.size; have HB := Aside0.mk hB; clear hB; have H : ((spec_l1Rd_pick.f k s0_0 s0_1 9).bind fun bt163 => (if bt163.1 = 0 then (some ((⟨#[]⟩ : ByteArray), bt163.2)) else (if bt163.1 = 1 then (some ((⟨#[255, 0]⟩ : ByteArray), bt163.2)) else (if bt163.1 = 2 then (some ((⟨#[110, 111, 32, 110, 101, 119, 108, 105, 110, 101]⟩ : ByteArray), bt163.2)) else ((spec_l1Rd_pick.f k s0_0 bt163.2 7).bind fun bt165 => (spec_l1Text.l0 k (⟨#[]⟩ : ByteArray) bt165.1 s0_0 bt165.2)))))) = some (r1, r2) := h; clear h; replace H := Option.bind_eq_some_iff.mp H; obtain ⟨⟨a4, a6⟩, A20, H⟩ := H; replace H : (if a4 = 0 then (some ((⟨#[]⟩ : ByteArray), a6)) else (if a4 = 1 then (some ((⟨#[255, 0]⟩ : ByteArray), a6)) else (if a4 = 2 then (some ((⟨#[110, 111, 32, 110, 101, 119, 108, 105, 110, 101]⟩ : ByteArray), a6)) else ((spec_l1Rd_pick.f k s0_0 a6 7).bind fun bt165 => (spec_l1Text.l0 k (⟨#[]⟩ : ByteArray) bt165.1 s0_0 bt165.2))))) = some (r1, r2) := H; have A2 := Aside0.mk A20; clear A20
 by_cases c3 : a4 = 0
 ·rw [if_pos c3] at H
  have al : (a4 == 0) = true := beq_iff_eq.mpr c3; have am : (a4 != 0) = false := bne_eq_false_iff_eq.mpr c3; clear c3; simp only [Option.some.injEq, Prod.mk.injEq] at H; obtain ⟨rfl, rfl⟩ := H
  go_enter Try.func33, Try.ntmps33
  go_wp2_with (first | ((with_reducible refine gc 17 rfl ?_); refine gl (some 6) _ (#[.pointer (some ⟨g, 0, none⟩), .int .i64 9]) Try.func17 ?_; (with_reducible refine (spec_l1Rd_pick.calls k g s0_0 s0_1 9 a4 a6 w0 _ ?side1 ?side2 A2.out).mono ?_); (case side1 => exact iq62 a2.out); (case side2 => exact bq62 HB.out a2.out); rintro e w4 ⟨rfl, hi, hb, hk⟩; refine ⟨_, rfl, ?_⟩; refine Ya3 (KeepBut.trans (kb HK.out) hk (.inl rfl)) (hb) (hi) ?_; clear HK HB a2; intro HK HB a2; (try clear hb); (try clear hb2); (try clear hk); (try clear hi)))
  go_ret
  exact ⟨Ye2, iq62 a2.out, bq62 HB.out a2.out, kb HK.out⟩
 ·rw [if_neg c3] at H
  have al : (a4 == 0) = false := beq_eq_false_iff_ne.mpr c3; have am : (a4 != 0) = true := bne_iff_ne.mpr c3
  by_cases c5 : a4 = 1
  ·rw [if_pos c5] at H
   have an : (a4 == 1) = true := beq_iff_eq.mpr c5; have ao : (a4 != 1) = false := bne_eq_false_iff_eq.mpr c5; clear c5; simp only [Option.some.injEq, Prod.mk.injEq] at H; obtain ⟨rfl, rfl⟩ := H
   go_enter Try.func33, Try.ntmps33
   go_wp2_with (first | ((with_reducible refine gc 17 rfl ?_); refine gl (some 6) _ (#[.pointer (some ⟨g, 0, none⟩), .int .i64 9]) Try.func17 ?_; (with_reducible refine (spec_l1Rd_pick.calls k g s0_0 s0_1 9 a4 a6 w0 _ ?side1 ?side2 A2.out).mono ?_); (case side1 => exact iq62 a2.out); (case side2 => exact bq62 HB.out a2.out); rintro e w6 ⟨rfl, hi, hb, hk⟩; refine ⟨_, rfl, ?_⟩; refine Ya3 (KeepBut.trans (kb HK.out) hk (.inl rfl)) (hb) (hi) ?_; clear HK HB a2; intro HK HB a2; (try clear hb); (try clear hb2); (try clear hk); (try clear hi)))
   go_ret
   exact ⟨Ye2, iq62 a2.out, bq62 HB.out a2.out, kb HK.out⟩
  ·rw [if_neg c5] at H
   have an : (a4 == 1) = false := beq_eq_false_iff_ne.mpr c5; have ao : (a4 != 1) = true := bne_iff_ne.mpr c5
   by_cases c7 : a4 = 2
   ·rw [if_pos c7] at H
    have ap : (a4 == 2) = true := beq_iff_eq.mpr c7; have aq : (a4 != 2) = false := bne_eq_false_iff_eq.mpr c7; clear c7; simp only [Option.some.injEq, Prod.mk.injEq] at H; obtain ⟨rfl, rfl⟩ := H
    go_enter Try.func33, Try.ntmps33
    go_wp2_with (first | ((with_reducible refine gc 17 rfl ?_); refine gl (some 6) _ (#[.pointer (some ⟨g, 0, none⟩), .int .i64 9]) Try.func17 ?_; (with_reducible refine (spec_l1Rd_pick.calls k g s0_0 s0_1 9 a4 a6 w0 _ ?side1 ?side2 A2.out).mono ?_); (case side1 => exact iq62 a2.out); (case side2 => exact bq62 HB.out a2.out); rintro e w8 ⟨rfl, hi, hb, hk⟩; refine ⟨_, rfl, ?_⟩; refine Ya3 (KeepBut.trans (kb HK.out) hk (.inl rfl)) (hb) (hi) ?_; clear HK HB a2; intro HK HB a2; (try clear hb); (try clear hb2); (try clear hk); (try clear hi)))
    go_ret
    exact ⟨Ye2, iq62 a2.out, bq62 HB.out a2.out, kb HK.out⟩
   ·rw [if_neg c7] at H
    have ap : (a4 == 2) = false := beq_eq_false_iff_ne.mpr c7; have aq : (a4 != 2) = true := bne_iff_ne.mpr c7; replace H := Option.bind_eq_some_iff.mp H; obtain ⟨⟨ag, ah⟩, A90, H⟩ := H; replace H : (spec_l1Text.l0 k (⟨#[]⟩ : ByteArray) ag s0_0 ah) = some (r1, r2) := H; have A9 := Aside0.mk A90; clear A90; have H' := Aside0.mk H; clear H
    go_enter Try.func33, Try.ntmps33
    go_wp2_with (first | ((with_reducible refine gc 17 rfl ?_); refine gl (some 6) _ (#[.pointer (some ⟨g, 0, none⟩), .int .i64 9]) Try.func17 ?_; (with_reducible refine (spec_l1Rd_pick.calls k g s0_0 s0_1 9 a4 a6 w0 _ ?side1 ?side2 A2.out).mono ?_); (case side1 => exact iq62 a2.out); (case side2 => exact bq62 HB.out a2.out); rintro e w10 ⟨rfl, hi, hb, hk⟩; refine ⟨_, rfl, ?_⟩; refine Ya3 (KeepBut.trans (kb HK.out) hk (.inl rfl)) (hb) (hi) ?_; clear HK HB a2; intro HK HB a2; (try clear hb); (try clear hb2); (try clear hk); (try clear hi)) | ((with_reducible refine gc 17 rfl ?_); refine gl (some 14) _ (#[.pointer (some ⟨g, 0, none⟩), .int .i64 7]) Try.func17 ?_; (with_reducible refine (spec_l1Rd_pick.calls k g s0_0 a6 7 ag ah w0 _ ?side1 ?side2 A9.out).mono ?_); (case side1 => exact iq62 a2.out); (case side2 => exact bq62 HB.out a2.out); rintro e w11 ⟨rfl, hi, hb, hk⟩; refine ⟨_, rfl, ?_⟩; refine Ya3 (KeepBut.trans (kb HK.out) hk (.inl rfl)) (hb) (hi) ?_; clear HK HB a2; intro HK HB a2; (try clear hb); (try clear hb2); (try clear hk); (try clear hi)))
    go_loopg [3, 4] k (fun kq v3 v4 w' => ∃ (a5 : ByteArray) (a7 : Int) (af : Int), v3 = .string a5 ∧ v4 = .int .i64 a7 ∧ Aside0 (spec_l1Text.l0 kq a5 a7 s0_0 af = some (r1, r2)) ∧ Aside0 (kq ≤ k) ∧ Aside0 (IsS62 w0 w' g s0_0 af) ∧ Aside0 (KeepBut w w' g none) ∧ Aside0 (Below w0.heap.size w0 w'))
    case atStart => exact ⟨((⟨#[]⟩ : ByteArray)), (ag), (ah), Ye1, Ye1, H', ⟨Nat.le_refl _⟩, ⟨iq62 a2.out⟩, ⟨kb HK.out⟩, ⟨bq62 HB.out a2.out⟩⟩
    case round =>
     clear H'; (try clear c1); (try clear p2); (try clear c3); (try clear al); (try clear am); (try clear c5); (try clear an); (try clear ao); (try clear c7); (try clear ap); (try clear aq); obtain ⟨a5, a7, af, rfl, rfl, HA, HK1, a2, HK, HB⟩ := hrel
     cases gk with
     | zero => exact absurd HA.out (by simp [spec_l1Text.l0])
     | succ k1 =>
      have H := HA.out; clear HA; simp only [spec_l1Text.l0] at H
      by_cases a9 : a7 > 0
      ·rw [if_pos a9] at H
       have au : decide (0 < a7) = true := decide_eq_true a9; clear a9; replace H := Option.bind_eq_some_iff.mp H; obtain ⟨⟨a3, ai⟩, ar, H⟩ := H; replace H : (if 0 ≤ a3 then (if a3 ≤ 4 then (if 0 ≤ 1 then (if 1 ≤ (((⟨#[97, 98, 99, 100]⟩ : ByteArray).extract (a3 : Int).toNat (⟨#[97, 98, 99, 100]⟩ : ByteArray).size).size : Int) then (if a5.size + (((⟨#[97, 98, 99, 100]⟩ : ByteArray).extract (a3 : Int).toNat (⟨#[97, 98, 99, 100]⟩ : ByteArray).size).extract 0 1).size ≤ 9223372036854775807 then (if (a5 ++ (((⟨#[97, 98, 99, 100]⟩ : ByteArray).extract (a3 : Int).toNat (⟨#[97, 98, 99, 100]⟩ : ByteArray).size).extract 0 1)).size + 1 ≤ 9223372036854775807 then (spec_l1Text.l0 k1 ((a5 ++ (((⟨#[97, 98, 99, 100]⟩ : ByteArray).extract (a3 : Int).toNat (⟨#[97, 98, 99, 100]⟩ : ByteArray).size).extract 0 1)) ++ (⟨#[10]⟩ : ByteArray)) (wrap64 (a7 - 1)) s0_0 ai) else (none)) else (none)) else (none)) else (none)) else (none)) else (none)) = some (r1, r2) := H; have A13 := Aside0.mk ar; clear ar
       by_cases ac : 0 ≤ a3
       ·rw [if_pos ac] at H
        have c14b0 := eq_true ac; have c14b1 : decide (0 ≤ a3) = true := decide_eq_true ac; clear ac
        by_cases ad : a3 ≤ 4
        ·rw [if_pos ad] at H
         have c15b0 := eq_true ad; have c15b1 : decide (a3 ≤ 4) = true := decide_eq_true ad; clear ad
         by_cases ae : 0 ≤ 1
         ·rw [if_pos ae] at H
          have c16b0 := eq_true ae; have c16b1 : decide (0 ≤ 1) = true := decide_eq_true ae; clear ae
          by_cases a8 : 1 ≤ (((⟨#[97, 98, 99, 100]⟩ : ByteArray).extract (a3 : Int).toNat (⟨#[97, 98, 99, 100]⟩ : ByteArray).size).size : Int)
          ·rw [if_pos a8] at H
           have c17q : 1 ≤ 4 - a3.toNat := (by have h_ := a8; rw [ByteArray.size_extract] at h_; have e_ : (⟨#[97, 98, 99, 100]⟩ : ByteArray).size = 4 := rfl; omega)
           have c17r : (((4 - a3.toNat : Nat) : Int) < 1) = False := eq_false (by omega); have c17b0 := eq_true a8; have c17b1 : decide (1 ≤ (((⟨#[97, 98, 99, 100]⟩ : ByteArray).extract (a3 : Int).toNat (⟨#[97, 98, 99, 100]⟩ : ByteArray).size).size : Int)) = true := decide_eq_true a8
           have c17o : 1 ≤ 4 - a3.toNat := (by have h_ := a8; rw [ByteArray.size_extract] at h_; have e_ : (⟨#[97, 98, 99, 100]⟩ : ByteArray).size = 4 := rfl; omega)
           clear a8
           by_cases aa : a5.size + (((⟨#[97, 98, 99, 100]⟩ : ByteArray).extract (a3 : Int).toNat (⟨#[97, 98, 99, 100]⟩ : ByteArray).size).extract 0 1).size ≤ 9223372036854775807
           ·rw [if_pos aa] at H
            try have c18n : a5.size + 1 ≤ 9223372036854775807 := (by have h_ := aa; (try simp only [ByteArray.size_append] at h_); (try simp only [ByteArray.size_extract] at h_); (try simp only [show (⟨#[97, 98, 99, 100]⟩ : ByteArray).size = 4 from rfl] at h_); (try omega); (try simpa using h_))
            try have c18m := eq_true c18n
            try have c18d := decide_eq_true c18n
            try have c18l := eq_false (Nat.not_lt.2 c18n)
            (try clear c18n); have c18b0 := eq_true aa; have c18b1 : decide (a5.size + (((⟨#[97, 98, 99, 100]⟩ : ByteArray).extract (a3 : Int).toNat (⟨#[97, 98, 99, 100]⟩ : ByteArray).size).extract 0 1).size ≤ 9223372036854775807) = true := decide_eq_true aa
            try have c18b2 : (9223372036854775807 < a5.size + (((⟨#[97, 98, 99, 100]⟩ : ByteArray).extract (a3 : Int).toNat (⟨#[97, 98, 99, 100]⟩ : ByteArray).size).extract 0 1).size) = False := eq_false (Nat.not_lt.2 aa)
            by_cases ab : (a5 ++ (((⟨#[97, 98, 99, 100]⟩ : ByteArray).extract (a3 : Int).toNat (⟨#[97, 98, 99, 100]⟩ : ByteArray).size).extract 0 1)).size + 1 ≤ 9223372036854775807
            ·rw [if_pos ab] at H
             try have c19n : a5.size + 1 + 1 ≤ 9223372036854775807 := (by have h_ := ab; (try simp only [ByteArray.size_append] at h_); (try simp only [ByteArray.size_extract] at h_); (try simp only [show (⟨#[97, 98, 99, 100]⟩ : ByteArray).size = 4 from rfl] at h_); (try omega); (try simpa using h_))
             try have c19m := eq_true c19n
             try have c19d := decide_eq_true c19n
             try have c19l := eq_false (Nat.not_lt.2 c19n)
             (try clear c19n); have c19b0 := eq_true ab; have c19b1 : decide ((a5 ++ (((⟨#[97, 98, 99, 100]⟩ : ByteArray).extract (a3 : Int).toNat (⟨#[97, 98, 99, 100]⟩ : ByteArray).size).extract 0 1)).size + 1 ≤ 9223372036854775807) = true := decide_eq_true ab
             try have c19b2 : (9223372036854775807 < (a5 ++ (((⟨#[97, 98, 99, 100]⟩ : ByteArray).extract (a3 : Int).toNat (⟨#[97, 98, 99, 100]⟩ : ByteArray).size).extract 0 1)).size + 1) = False := eq_false (Nat.not_lt.2 ab)
             have H' := Aside0.mk H; clear H
             go_wp2_with (first | ((with_reducible refine gc 17 rfl ?_); refine gl (some 21) _ (#[.pointer (some ⟨g, 0, none⟩), .int .i64 4]) Try.func17 ?_; (with_reducible refine (spec_l1Rd_pick.calls k1 g s0_0 af 4 a3 ai w0 _ ?side1 ?side2 A13.out).mono ?_); (case side1 => exact iq62 a2.out); (case side2 => exact bq62 HB.out a2.out); rintro e w20 ⟨rfl, hi, hb, hk⟩; refine ⟨_, rfl, ?_⟩; refine Ya3 (KeepBut.trans (kb HK.out) hk (.inl rfl)) (hb) (hi) ?_; clear HK HB a2; intro HK HB a2; (try clear hb); (try clear hb2); (try clear hk); (try clear hi)))
             go_roundg k1
             case measure => have := HK1.out; omega
             case rel => exact ⟨((a5 ++ (((⟨#[97, 98, 99, 100]⟩ : ByteArray).extract (a3 : Int).toNat (⟨#[97, 98, 99, 100]⟩ : ByteArray).size).extract 0 1)) ++ (⟨#[10]⟩ : ByteArray)), (wrap64 (a7 - 1)), (ai), Ye1, Ye1, H', ⟨by have := HK1.out; omega⟩, ⟨iq62 a2.out⟩, ⟨kb HK.out⟩, ⟨bq62 HB.out a2.out⟩⟩
            ·rw [if_neg ab] at H
             exact absurd H (by simp)
           ·rw [if_neg aa] at H
            exact absurd H (by simp)
          ·rw [if_neg a8] at H
           exact absurd H (by simp)
         ·rw [if_neg ae] at H
          exact absurd H (by simp)
        ·rw [if_neg ad] at H
         exact absurd H (by simp)
       ·rw [if_neg ac] at H
        exact absurd H (by simp)
      ·rw [if_neg a9] at H
       have au : decide (0 < a7) = false := decide_eq_false a9; clear a9; simp only [Option.some.injEq, Prod.mk.injEq] at H; obtain ⟨rfl, rfl⟩ := H
       go_wp2
       go_ret
       exact ⟨Ye2, iq62 a2.out, bq62 HB.out a2.out, kb HK.out⟩

end Go.Proofs.Ytknagppkeodggaa.P


namespace Go.Proofs.Ytknagppkeodggaa.P
open Go.RowKit Go.Proofs.YtknagppkeodggaaW.PrintWords Go.Proofs.YtknagppkeodggaaW.PrintLast Go.Proofs.YtknagppkeodggaaW.PrintMore
attribute [local go_sem] max2_int min2_int max_two min_two max_three min_three max_four min_four
set_option linter.unusedVariables false
set_option linter.unusedSimpArgs false

/-! ### spec_l3Payloads: function 16 -/
def spec_l3Payloads.l0 : Nat → List ByteArray → Int → List Int → Int → Option (List ByteArray × Int)
 | 0, _, _, _, _ => none
 | k + 1, x3, x4, ad, ay => if x4 > 0 then ((spec_l1Rd_pick.f k ad ay 8).bind fun bt174 => (if bt174.1 = 0 then ((some (([127, 128, 1000] : List Int) : List Int)).bind fun a6 => ((spec_l1Rd_pick.f k ad bt174.2 3).bind fun bt179 => (if 0 ≤ bt179.1 then (if bt179.1 < (a6.length : Int) then ((spec_l1Many.f k (⟨#[112]⟩ : ByteArray) (rd a6 bt179.1)).bind fun a7 => (if x3.length < 8796093022208 then (spec_l3Payloads.l0 k (x3 ++ [a7]) (wrap64 (x4 - 1)) ad bt179.2) else (none))) else (none)) else (none)))) else ((spec_l1Text.f k ad bt174.2).bind fun bt186 => (if 1 + bt186.1.size ≤ 9223372036854775807 then (if x3.length < 8796093022208 then (spec_l3Payloads.l0 k (x3 ++ [(⟨#[112]⟩ : ByteArray) ++ bt186.1]) (wrap64 (x4 - 1)) ad bt186.2) else (none)) else (none))))) else (some (x3, ay))
def spec_l3Payloads.f (k : Nat) (s0_0 : List Int) (s0_1 : Int) : Option (List ByteArray × Int) := (spec_l1Rd_pick.f k s0_0 s0_1 6).bind fun bt172 => (spec_l3Payloads.l0 k (([] : List ByteArray)) bt172.1 s0_0 bt172.2)
theorem spec_l3Payloads.mono_l : ∀ k, (∀ y0 y1 y2 y3, LeO (spec_l3Payloads.l0 k y0 y1 y2 y3) (spec_l3Payloads.l0 (k + 1) y0 y1 y2 y3))
 | 0 => fun _ _ _ _ r h => by simp [spec_l3Payloads.l0] at h
 | k + 1 => by
  have ih0 := spec_l3Payloads.mono_l k
  ·intro y0 y1 y2 y3
   unfold spec_l3Payloads.l0
   repeat' first
   | (with_reducible exact ih0 _ _ _ _)
   | (with_reducible exact spec_l1Many.mono _ _ _)
   | (with_reducible exact spec_l1Rd_pick.mono _ _ _ _)
   | (with_reducible exact spec_l1Text.mono _ _ _)
   | (with_reducible exact LeO.refl _)
   | (with_reducible exact LeO.none _)
   | (with_reducible refine LeO.ite ?_ ?_)
   | (with_reducible refine LeO.bind ?_ (fun _ => ?_))
   | exact ih0 _ _ _ _
   | exact spec_l1Many.mono _ _ _
   | exact spec_l1Rd_pick.mono _ _ _ _
   | exact spec_l1Text.mono _ _ _
   | exact LeO.none _
   | refine LeO.ite ?_ ?_
   | refine LeO.bind ?_ (fun _ => ?_)
theorem spec_l3Payloads.mono : ∀ a0 a1 k, LeO (spec_l3Payloads.f k a0 a1) (spec_l3Payloads.f (k + 1) a0 a1) := by
 intro a0 a1 k; have ih0 := spec_l3Payloads.mono_l k
 unfold spec_l3Payloads.f
 repeat' first
   | (with_reducible exact ih0 _ _ _ _)
   | (with_reducible exact spec_l1Many.mono _ _ _)
   | (with_reducible exact spec_l1Rd_pick.mono _ _ _ _)
   | (with_reducible exact spec_l1Text.mono _ _ _)
   | (with_reducible exact LeO.refl _)
   | (with_reducible exact LeO.none _)
   | (with_reducible refine LeO.ite ?_ ?_)
   | (with_reducible refine LeO.bind ?_ (fun _ => ?_))
   | exact ih0 _ _ _ _
   | exact spec_l1Many.mono _ _ _
   | exact spec_l1Rd_pick.mono _ _ _ _
   | exact spec_l1Text.mono _ _ _
   | exact LeO.none _
   | refine LeO.ite ?_ ?_
   | refine LeO.bind ?_ (fun _ => ?_)
set_option maxHeartbeats 8000000 in
set_option maxRecDepth 100000 in
theorem spec_l3Payloads.calls (k : Nat) (g : Nat) (s0_0 : List Int) (s0_1 : Int) (r1 : List ByteArray) (r2 : Int) (w0 w : World) (hI : IsS62 w0 w g s0_0 s0_1) (hB : Below w0.heap.size w0 w) (h : spec_l3Payloads.f k s0_0 s0_1 = some (r1, r2)) :
  Calls Try.prog 16 #[.pointer (some ⟨g, 0, none⟩)] w fun e w' => ∃ v0_ : Value, e = .returned (v0_) ∧ Kd.R Kd.string 9 w' w.heap.size (fun _ => True) v0_ r1 ∧ IsS62 w0 w' g s0_0 r2 ∧ Below w0.heap.size w0 w' ∧ KeepBut w w' g none := by
 have a2 := Aside0.mk hI; have HK := Aside0.mk (KeepBut.refl w g none); have HL := Aside0.mk hB.size; clear hI; have HW0 := Aside0.mk hB.size; have HB := Aside0.mk hB; clear hB; have H : ((spec_l1Rd_pick.f k s0_0 s0_1 6).bind fun bt172 => (spec_l3Payloads.l0 k (([] : List ByteArray)) bt172.1 s0_0 bt172.2)) = some (r1, r2) := h; clear h
 obtain ⟨ar, ae⟩ : ∃ y_ : List ByteArray, y_ = (([] : List ByteArray)) := ⟨_, rfl⟩
 replace H : ((spec_l1Rd_pick.f k s0_0 s0_1 6).bind fun bt172 => (spec_l3Payloads.l0 k ar bt172.1 s0_0 bt172.2)) = some (r1, r2) := by first | (rw [ae]; with_reducible exact H) | (have H2_ := (Option.bind_some _ _).symm.trans H; rw [ae]; with_reducible exact H2_) | (have H2_ := (Option.bind_some _ _).symm.trans H; with_reducible exact H2_) | with_reducible exact H | (rw [ae]; exact H) | exact H
 have az := Aside0.mk ae; clear ae; replace H := Option.bind_eq_some_iff.mp H; obtain ⟨⟨au, av⟩, al, H⟩ := H; replace H : (spec_l3Payloads.l0 k ar au s0_0 av) = some (r1, r2) := H; have A2 := Aside0.mk al; clear al; have H' := Aside0.mk H; clear H
 go_enter Try.func16, Try.ntmps16
 go_wp2_with (first | ((with_reducible refine gd 5 rfl ?_); refine Kd.R_lit Kd.string _ 9 ?hg (N := 5) ?hd (xs := ([] : List ByteArray)) (inner := []) (ok := fun _ => True) (okp := fun _ => True) ?hr ?hp (fun _ hk => hk) trivial (Below.refl _ _) (Nat.le_refl _) (by simp) ?_; (case hd => rfl); (case hg => rfl); (case hr => first | (go_simp; done) | (go_simp; rfl)); (case hp => exact (Reps.none _ _)); intro v170 w3 ho4 hb hg_ hnew_; clear hg_ hnew_; (first | rw [← az.out] at ho4 | (simp only [Int.reduceToNat] at ho4; rw [← az.out] at ho4)); refine Ya4 (Kd.R_lower ho4 (keep_size (w := w) (g := g) (row := none) (kb HK.out))) (IsS62.below (iq62 a2.out) hb) (KeepBut.trans (kb HK.out) (KeepBut.of_below hb g none) (.inl rfl)) (below_step (bq62 HB.out a2.out) hb) ?_; clear a2 HK HB; intro am a2 HK HB; clear hb ho4) | ((with_reducible refine gc 17 rfl ?_); refine gl (some 7) _ (#[.pointer (some ⟨g, 0, none⟩), .int .i64 6]) Try.func17 ?_; (with_reducible refine (spec_l1Rd_pick.calls k g s0_0 s0_1 6 au av w0 _ ?side1 ?side2 A2.out).mono ?_); (case side1 => exact iq62 a2.out); (case side2 => exact bq62 HB.out a2.out); rintro e w5 ⟨rfl, hi, hb, hk⟩; refine ⟨_, rfl, ?_⟩; refine Ya4 (ra62 (iq62 a2.out) (kr am.out) hk) (KeepBut.trans (kb HK.out) hk (.inl rfl)) (hb) (hi) ?_; clear am HK HB a2; intro am HK HB a2; (try clear hb); (try clear hb2); (try clear hk); (try clear hi)))
 go_loopg [3, 4] k (fun kq v3 v4 w' => ∃ (a4 : List ByteArray) (a5 : Int) (af : Int), v4 = .int .i64 a5 ∧ Aside0 (spec_l3Payloads.l0 kq a4 a5 s0_0 af = some (r1, r2)) ∧ Aside0 (kq ≤ k) ∧ Aside0 (Kd.R Kd.string 9 w' w.heap.size (fun _ => True) v3 a4) ∧ Aside0 (IsS62 w0 w' g s0_0 af) ∧ Aside0 (KeepBut w w' g none) ∧ Aside0 (Below w0.heap.size w0 w'))
 case atStart => exact ⟨(ar), (au), (av), Ye1, H', ⟨Nat.le_refl _⟩, ⟨kr am.out⟩, ⟨iq62 a2.out⟩, ⟨kb HK.out⟩, ⟨bq62 HB.out a2.out⟩⟩
 case round =>
  clear H'; (try clear c1); (try clear p2); obtain ⟨a4, a5, af, rfl, HA, HK1, a3, a2, HK, HB⟩ := hrel
  cases gk with
  | zero => exact absurd HA.out (by simp [spec_l3Payloads.l0])
  | succ k1 =>
   have H := HA.out; clear HA; simp only [spec_l3Payloads.l0] at H
   by_cases c6 : a5 > 0
   ·rw [if_pos c6] at H
    have aG : decide (0 < a5) = true := decide_eq_true c6; clear c6; replace H := Option.bind_eq_some_iff.mp H; obtain ⟨⟨aa, ac⟩, A70, H⟩ := H; replace H : (if aa = 0 then ((some (([127, 128, 1000] : List Int) : List Int)).bind fun a6 => ((spec_l1Rd_pick.f k1 s0_0 ac 3).bind fun bt179 => (if 0 ≤ bt179.1 then (if bt179.1 < (a6.length : Int) then ((spec_l1Many.f k1 (⟨#[112]⟩ : ByteArray) (rd a6 bt179.1)).bind fun a7 => (if a4.length < 8796093022208 then (spec_l3Payloads.l0 k1 (a4 ++ [a7]) (wrap64 (a5 - 1)) s0_0 bt179.2) else (none))) else (none)) else (none)))) else ((spec_l1Text.f k1 s0_0 ac).bind fun bt186 => (if 1 + bt186.1.size ≤ 9223372036854775807 then (if a4.length < 8796093022208 then (spec_l3Payloads.l0 k1 (a4 ++ [(⟨#[112]⟩ : ByteArray) ++ bt186.1]) (wrap64 (a5 - 1)) s0_0 bt186.2) else (none)) else (none)))) = some (r1, r2) := H; have A7 := Aside0.mk A70; clear A70
    by_cases c8 : aa = 0
    ·rw [if_pos c8] at H
     have aH : (aa == 0) = true := beq_iff_eq.mpr c8; have aI : (aa != 0) = false := bne_eq_false_iff_eq.mpr c8; clear c8
     obtain ⟨a6, ag⟩ : ∃ y_ : List Int, y_ = (([127, 128, 1000] : List Int)) := ⟨_, rfl⟩
     replace H : ((spec_l1Rd_pick.f k1 s0_0 ac 3).bind fun bt179 => (if 0 ≤ bt179.1 then (if bt179.1 < (a6.length : Int) then ((spec_l1Many.f k1 (⟨#[112]⟩ : ByteArray) (rd a6 bt179.1)).bind fun a7 => (if a4.length < 8796093022208 then (spec_l3Payloads.l0 k1 (a4 ++ [a7]) (wrap64 (a5 - 1)) s0_0 bt179.2) else (none))) else (none)) else (none))) = some (r1, r2) := by first | (rw [ag]; with_reducible exact H) | (have H2_ := (Option.bind_some _ _).symm.trans H; rw [ag]; with_reducible exact H2_) | (have H2_ := (Option.bind_some _ _).symm.trans H; with_reducible exact H2_) | with_reducible exact H | (rw [ag]; exact H) | exact H
     have aA := Aside0.mk ag; clear ag; replace H := Option.bind_eq_some_iff.mp H; obtain ⟨⟨a8, ah⟩, A90, H⟩ := H; replace H : (if 0 ≤ a8 then (if a8 < (a6.length : Int) then ((spec_l1Many.f k1 (⟨#[112]⟩ : ByteArray) (rd a6 a8)).bind fun a7 => (if a4.length < 8796093022208 then (spec_l3Payloads.l0 k1 (a4 ++ [a7]) (wrap64 (a5 - 1)) s0_0 ah) else (none))) else (none)) else (none)) = some (r1, r2) := H; have A9 := Aside0.mk A90; clear A90
     by_cases c10 : 0 ≤ a8
     ·rw [if_pos c10] at H
      have c10b0 : decide (0 ≤ a8) = true := decide_eq_true c10; clear c10
      by_cases an : a8 < (a6.length : Int)
      ·rw [if_pos an] at H
       have c11b0 : decide (a8 < (a6.length : Int)) = true := decide_eq_true an; clear an; replace H := Option.bind_eq_some_iff.mp H; obtain ⟨a7, aB, H⟩ := H; replace H : (if a4.length < 8796093022208 then (spec_l3Payloads.l0 k1 (a4 ++ [a7]) (wrap64 (a5 - 1)) s0_0 ah) else (none)) = some (r1, r2) := H; have A12 := Aside0.mk aB; clear aB
       by_cases ao : a4.length < 8796093022208
       ·rw [if_pos ao] at H
        have aJ := Aside0.mk ao; clear ao
        obtain ⟨aC, ai⟩ : ∃ y_ : List ByteArray, y_ = (a4 ++ [a7]) := ⟨_, rfl⟩
        replace H : (spec_l3Payloads.l0 k1 aC (wrap64 (a5 - 1)) s0_0 ah) = some (r1, r2) := by first | (rw [ai]; with_reducible exact H) | (have H2_ := (Option.bind_some _ _).symm.trans H; rw [ai]; with_reducible exact H2_) | (have H2_ := (Option.bind_some _ _).symm.trans H; with_reducible exact H2_) | with_reducible exact H | (rw [ai]; exact H) | exact H
        have aK := Aside0.mk ai; clear ai; have H' := Aside0.mk H; clear H
        go_wp2_with (first | ((with_reducible refine gc 17 rfl ?_); refine gl (some 13) _ (#[.pointer (some ⟨g, 0, none⟩), .int .i64 8]) Try.func17 ?_; (with_reducible refine (spec_l1Rd_pick.calls k1 g s0_0 af 8 aa ac w0 _ ?side1 ?side2 A7.out).mono ?_); (case side1 => exact iq62 a2.out); (case side2 => exact bq62 HB.out a2.out); rintro e w14 ⟨rfl, hi, hb, hk⟩; refine ⟨_, rfl, ?_⟩; refine Ya4 (ra62 (iq62 a2.out) (kr a3.out) hk) (KeepBut.trans (kb HK.out) hk (.inl rfl)) (hb) (hi) ?_; clear a3 HK HB a2; intro a3 HK HB a2; (try clear hb); (try clear hb2); (try clear hk); (try clear hi)) | ((with_reducible refine gd 23 rfl ?_); refine Kd.R_lit (Kd.int .i64) _ 3 ?hg (N := 23) ?hd (xs := ([127, 128, 1000] : List Int)) (inner := [.int .i64 127, .int .i64 128, .int .i64 1000]) (ok := fun _ => True) (okp := fun _ => True) ?hr ?hp (fun _ hk => hk) trivial (Below.refl _ _) (Nat.le_refl _) (by simp) ?_; (case hd => rfl); (case hg => rfl); (case hr => first | (go_simp; done) | (go_simp; rfl)); (case hp => exact (Reps.one (show Kd.M (Kd.int .i64) _ _ _ 127 [.int .i64 127] from rfl) (Reps.one (show Kd.M (Kd.int .i64) _ _ _ 128 [.int .i64 128] from rfl) (Reps.one (show Kd.M (Kd.int .i64) _ _ _ 1000 [.int .i64 1000] from rfl) (Reps.none _ _))))); intro v177 w15 ho16 hb hg_ hnew_; clear hg_ hnew_; (first | rw [← aA.out] at ho16 | (simp only [Int.reduceToNat] at ho16; rw [← aA.out] at ho16)); refine Ya5 (Kd.R_below (kr a3.out) hb) (Kd.R_lower ho16 (keep_size (w := w) (g := g) (row := none) (kb HK.out))) (IsS62.below (iq62 a2.out) hb) (KeepBut.trans (kb HK.out) (KeepBut.of_below hb g none) (.inl rfl)) (below_step (bq62 HB.out a2.out) hb) ?_; clear a3 a2 HK HB; intro a3 ab a2 HK HB; clear hb ho16) | ((with_reducible refine gc 17 rfl ?_); refine gl (some 25) _ (#[.pointer (some ⟨g, 0, none⟩), .int .i64 3]) Try.func17 ?_; (with_reducible refine (spec_l1Rd_pick.calls k1 g s0_0 ac 3 a8 ah w0 _ ?side1 ?side2 A9.out).mono ?_); (case side1 => exact iq62 a2.out); (case side2 => exact bq62 HB.out a2.out); rintro e w17 ⟨rfl, hi, hb, hk⟩; refine ⟨_, rfl, ?_⟩; refine Ya5 (ra62 (iq62 a2.out) (kr a3.out) hk) (ra62 (iq62 a2.out) (kr ab.out) hk) (KeepBut.trans (kb HK.out) hk (.inl rfl)) (hb) (hi) ?_; clear a3 ab HK HB a2; intro a3 ab HK HB a2; (try clear hb); (try clear hb2); (try clear hk); (try clear hi); obtain ⟨Ao18, co18, aM⟩ := Kd.R_slice ab.out; subst aM; have aw : 0 ≤ (a8 : Int) := oda; have ax : a8 < (a6.length : Int) := oda; obtain ⟨ad181, aN, aV⟩ := Kd.at_int (Kd.R_reads' ab.out).2.2 a8 aw ax; cases aN; replace aw := eq_true aw; replace ax := eq_true ax) | ((with_reducible refine gc 26 rfl ?_); refine gl (some 28) _ (#[.string (⟨#[112]⟩ : ByteArray), .int .i64 (rd a6 a8)]) Try.func26 ?_; (with_reducible refine (spec_l1Many.calls k1 (⟨#[112]⟩ : ByteArray) (rd a6 a8) a7 _ A12.out).mono ?_); rintro e w' ⟨rfl, ⟨nd, rfl⟩⟩; refine ⟨_, rfl, ?_⟩) | ((with_reducible refine gate_builtin (b := .append) (xs := #[.tmp 22, .tmp 29]) rfl ?_); at_builtin; refine Kd.R_append Kd.string w.heap.size rfl (.tmp 22) (.tmp 29) 23 9 (.string ⟨#[]⟩) 16 rfl Try.underlying23 info9 rfl (by decide) (by omega) u3 a4 a7 [.string a7] (fun _ => True) (fun _ => False) rfl rfl ?aP (fun _ hk => hk.elim) ?aF ?aO (Below.refl _ _) ?aS ?aL ?_; (case aP => exact rfl); (case aF => exact (fun _ _ => trivial)); (case aO => exact (kr a3.out)); (case aS => exact (keep_size (w := w) (g := g) (row := none) (kb HK.out))); (case aL => have := aJ.out; omega); intro v184 w19 ho hb hg hat; rw [← aK.out] at ho; refine Ya5 (IsS62.grown (iq62 a2.out) hg (IsS62.own_ne a2.out a3.out (by decide))) (Kd.R_over' (kr ab.out) (Kd.R_typed (kr a3.out)) (by decide) hg) (below_weaken (bq62 HB.out a2.out) HL.out hb) (KeepBut.trans (kb HK.out) (KeepBut.of_grown hg g) (Kd.R_base2 a3.out)) (ho) ?_; clear a2 ab HB HK a3; intro a2 ab HB HK aQ; clear ho hb hg hat))
        go_roundg k1
        case measure => have := HK1.out; omega
        case rel => exact ⟨(aC), (wrap64 (a5 - 1)), (ah), Ye1, H', ⟨by have := HK1.out; omega⟩, ⟨kr aQ.out⟩, ⟨iq62 a2.out⟩, ⟨kb HK.out⟩, ⟨bq62 HB.out a2.out⟩⟩
       ·rw [if_neg ao] at H
        exact absurd H (by simp)
      ·rw [if_neg an] at H
       exact absurd H (by simp)
     ·rw [if_neg c10] at H
      exact absurd H (by simp)
    ·rw [if_neg c8] at H
     have aH : (aa == 0) = false := beq_eq_false_iff_ne.mpr c8; have aI : (aa != 0) = true := bne_iff_ne.mpr c8; replace H := Option.bind_eq_some_iff.mp H; obtain ⟨⟨a9, ap⟩, aD, H⟩ := H; replace H : (if 1 + a9.size ≤ 9223372036854775807 then (if a4.length < 8796093022208 then (spec_l3Payloads.l0 k1 (a4 ++ [(⟨#[112]⟩ : ByteArray) ++ a9]) (wrap64 (a5 - 1)) s0_0 ap) else (none)) else (none)) = some (r1, r2) := H; have al := Aside0.mk aD; clear aD
     by_cases aj : 1 + a9.size ≤ 9223372036854775807
     ·rw [if_pos aj] at H
      have c21b0 := eq_true aj; have c21b1 : decide (1 + a9.size ≤ 9223372036854775807) = true := decide_eq_true aj
      try have c21b2 : (9223372036854775807 < 1 + a9.size) = False := eq_false (Nat.not_lt.2 aj)
      by_cases aq : a4.length < 8796093022208
      ·rw [if_pos aq] at H
       have aR := Aside0.mk aq; clear aq
       obtain ⟨aE, ak⟩ : ∃ y_ : List ByteArray, y_ = (a4 ++ [(⟨#[112]⟩ : ByteArray) ++ a9]) := ⟨_, rfl⟩
       replace H : (spec_l3Payloads.l0 k1 aE (wrap64 (a5 - 1)) s0_0 ap) = some (r1, r2) := by first | (rw [ak]; with_reducible exact H) | (have H2_ := (Option.bind_some _ _).symm.trans H; rw [ak]; with_reducible exact H2_) | (have H2_ := (Option.bind_some _ _).symm.trans H; with_reducible exact H2_) | with_reducible exact H | (rw [ak]; exact H) | exact H
       have aT := Aside0.mk ak; clear ak; have H' := Aside0.mk H; clear H
       go_wp2_with (first | ((with_reducible refine gc 17 rfl ?_); refine gl (some 13) _ (#[.pointer (some ⟨g, 0, none⟩), .int .i64 8]) Try.func17 ?_; (with_reducible refine (spec_l1Rd_pick.calls k1 g s0_0 af 8 aa ac w0 _ ?side1 ?side2 A7.out).mono ?_); (case side1 => exact iq62 a2.out); (case side2 => exact bq62 HB.out a2.out); rintro e w23 ⟨rfl, hi, hb, hk⟩; refine ⟨_, rfl, ?_⟩; refine Ya4 (ra62 (iq62 a2.out) (kr a3.out) hk) (KeepBut.trans (kb HK.out) hk (.inl rfl)) (hb) (hi) ?_; clear a3 HK HB a2; intro a3 HK HB a2; (try clear hb); (try clear hb2); (try clear hk); (try clear hi)) | ((with_reducible refine gc 33 rfl ?_); refine gl (some 16) _ (#[.pointer (some ⟨g, 0, none⟩)]) Try.func33 ?_; (with_reducible refine (spec_l1Text.calls k1 g s0_0 ac a9 ap w0 _ ?side1 ?side2 al.out).mono ?_); (case side1 => exact iq62 a2.out); (case side2 => exact bq62 HB.out a2.out); rintro e w24 ⟨rfl, hi, hb, hk⟩; refine ⟨_, rfl, ?_⟩; refine Ya4 (ra62 (iq62 a2.out) (kr a3.out) hk) (KeepBut.trans (kb HK.out) hk (.inl rfl)) (hb) (hi) ?_; clear a3 HK HB a2; intro a3 HK HB a2; (try clear hb); (try clear hb2); (try clear hk); (try clear hi)) | ((with_reducible refine gate_builtin (b := .append) (xs := #[.tmp 14, .tmp 18]) rfl ?_); at_builtin; refine Kd.R_append Kd.string w.heap.size rfl (.tmp 14) (.tmp 18) 23 9 (.string ⟨#[]⟩) 16 rfl Try.underlying23 info9 rfl (by decide) (by omega) u3 a4 ((⟨#[112]⟩ : ByteArray) ++ a9) [.string ((⟨#[112]⟩ : ByteArray) ++ a9)] (fun _ => True) (fun _ => False) rfl rfl ?aP (fun _ hk => hk.elim) ?aF ?aO (Below.refl _ _) ?aS ?aL ?_; (case aP => exact rfl); (case aF => exact (fun _ _ => trivial)); (case aO => exact (kr a3.out)); (case aS => exact (keep_size (w := w) (g := g) (row := none) (kb HK.out))); (case aL => have := aR.out; omega); intro v189 w25 ho hb hg hat; rw [← aT.out] at ho; refine Ya4 (IsS62.grown (iq62 a2.out) hg (IsS62.own_ne a2.out a3.out (by decide))) (below_weaken (bq62 HB.out a2.out) HL.out hb) (KeepBut.trans (kb HK.out) (KeepBut.of_grown hg g) (Kd.R_base2 a3.out)) (ho) ?_; clear a2 HB HK a3; intro a2 HB HK aU; clear ho hb hg hat))
       go_roundg k1
       case measure => have := HK1.out; omega
       case rel => exact ⟨(aE), (wrap64 (a5 - 1)), (ap), Ye1, H', ⟨by have := HK1.out; omega⟩, ⟨kr aU.out⟩, ⟨iq62 a2.out⟩, ⟨kb HK.out⟩, ⟨bq62 HB.out a2.out⟩⟩
      ·rw [if_neg aq] at H
       exact absurd H (by simp)
     ·rw [if_neg aj] at H
      exact absurd H (by simp)
   ·rw [if_neg c6] at H
    have aG : decide (0 < a5) = false := decide_eq_false c6; clear c6; simp only [Option.some.injEq, Prod.mk.injEq] at H; obtain ⟨rfl, rfl⟩ := H
    go_wp2
    go_ret
    exact ⟨_, Ye2, kr a3.out, iq62 a2.out, bq62 HB.out a2.out, kb HK.out⟩

end Go.Proofs.Ytknagppkeodggaa.P


namespace Go.Proofs.Ytknagppkeodggaa.P
open Go.RowKit Go.Proofs.YtknagppkeodggaaW.PrintWords Go.Proofs.YtknagppkeodggaaW.PrintLast Go.Proofs.YtknagppkeodggaaW.PrintMore
attribute [local go_sem] max2_int min2_int max_two min_two max_three min_three max_four min_four
set_option linter.unusedVariables false
set_option linter.unusedSimpArgs false

/-! ### spec_DrawEncode: function 10 -/
def spec_DrawEncode.l0 : Nat → List ByteArray → Int → List Int → Int → Option (List ByteArray × Int)
 | 0, _, _, _, _ => none
 | k + 1, x5, x6, aM, aN => if (x5.length : Int) < x6 then (if x5.length < 8796093022208 then (spec_DrawEncode.l0 k (x5 ++ [(⟨#[120]⟩ : ByteArray)]) x6 aM aN) else (none)) else ((spec_l1Width.f k aM aN).bind fun bt377 => (some (x5, bt377.1)))
def spec_DrawEncode.f (k : Nat) (l0 : List Int) : Option (List ByteArray × Int) := (spec_l1Open.f l0).bind fun bt351 => ((spec_l3Payloads.f k bt351.1 bt351.2).bind fun bt354 => ((spec_l1Rd_pick.f k bt351.1 bt354.2 16).bind fun bt358 => (if bt358.1 = 0 then ((spec_l1Many.f k (⟨#[112]⟩ : ByteArray) 1001).bind fun ab => ((some (([(⟨#[]⟩ : ByteArray), ab] : List ByteArray) : List ByteArray)).bind fun a5 => ((spec_l1Rd_pick.f k bt351.1 bt358.2 2).bind fun bt364 => (if 0 ≤ bt364.1 then (if bt364.1 < (a5.length : Int) then (if bt354.1.length < 8796093022208 then ((spec_l1Width.f k bt351.1 bt364.2).bind fun bt370 => (some ((bt354.1 ++ [rdOf ByteArray.empty a5 bt364.1]), bt370.1))) else (none)) else (none)) else (none))))) else (if bt358.1 = 1 then ((spec_l1Rd_pick.f k bt351.1 bt358.2 2).bind fun bt372 => (spec_DrawEncode.l0 k bt354.1 (wrap64 (500 + bt372.1)) bt351.1 bt372.2)) else (if bt358.1 = 2 then ((some (([0, 9] : List Int) : List Int)).bind fun a4 => ((spec_l1Rd_pick.f k bt351.1 bt358.2 2).bind fun bt382 => (if 0 ≤ bt382.1 then (if bt382.1 < (a4.length : Int) then (some (bt354.1, rd a4 bt382.1)) else (none)) else (none)))) else ((spec_l1Width.f k bt351.1 bt358.2).bind fun bt385 => (some (bt354.1, bt385.1))))))))
theorem spec_DrawEncode.mono_l : ∀ k, (∀ y0 y1 y2 y3, LeO (spec_DrawEncode.l0 k y0 y1 y2 y3) (spec_DrawEncode.l0 (k + 1) y0 y1 y2 y3))
 | 0 => fun _ _ _ _ r h => by simp [spec_DrawEncode.l0] at h
 | k + 1 => by
  have ih0 := spec_DrawEncode.mono_l k
  ·intro y0 y1 y2 y3
   unfold spec_DrawEncode.l0
   repeat' first
   | (with_reducible exact ih0 _ _ _ _)
   | (with_reducible exact spec_l1Many.mono _ _ _)
   | (with_reducible exact spec_l1Rd_pick.mono _ _ _ _)
   | (with_reducible exact spec_l1Width.mono _ _ _)
   | (with_reducible exact spec_l3Payloads.mono _ _ _)
   | (with_reducible exact LeO.refl _)
   | (with_reducible exact LeO.none _)
   | (with_reducible refine LeO.ite ?_ ?_)
   | (with_reducible refine LeO.bind ?_ (fun _ => ?_))
   | exact ih0 _ _ _ _
   | exact spec_l1Many.mono _ _ _
   | exact spec_l1Rd_pick.mono _ _ _ _
   | exact spec_l1Width.mono _ _ _
   | exact spec_l3Payloads.mono _ _ _
   | exact LeO.none _
   | refine LeO.ite ?_ ?_
   | refine LeO.bind ?_ (fun _ => ?_)
theorem spec_DrawEncode.mono : ∀ a0 k, LeO (spec_DrawEncode.f k a0) (spec_DrawEncode.f (k + 1) a0) := by
 intro a0 k; have ih0 := spec_DrawEncode.mono_l k
 unfold spec_DrawEncode.f
 repeat' first
   | (with_reducible exact ih0 _ _ _ _)
   | (with_reducible exact spec_l1Many.mono _ _ _)
   | (with_reducible exact spec_l1Rd_pick.mono _ _ _ _)
   | (with_reducible exact spec_l1Width.mono _ _ _)
   | (with_reducible exact spec_l3Payloads.mono _ _ _)
   | (with_reducible exact LeO.refl _)
   | (with_reducible exact LeO.none _)
   | (with_reducible refine LeO.ite ?_ ?_)
   | (with_reducible refine LeO.bind ?_ (fun _ => ?_))
   | exact ih0 _ _ _ _
   | exact spec_l1Many.mono _ _ _
   | exact spec_l1Rd_pick.mono _ _ _ _
   | exact spec_l1Width.mono _ _ _
   | exact spec_l3Payloads.mono _ _ _
   | exact LeO.none _
   | refine LeO.ite ?_ ?_
   | refine LeO.bind ?_ (fun _ => ?_)
def spec_DrawEncode.T11 : Bool × List (List Nat × List Nat) := (true, [([], []), ([], []), ([], []), ([2], [2]), ([1, 3], [1, 3]), ([4], [4]), ([0, 3, 0], [0]), ([5, 6, 0, 1, 2, 3, 4, 5, 6], [5])])
def spec_DrawEncode.B11 : List Nat := [0, 0, 0, 4, 14, 30, 13, 127]
theorem spec_DrawEncode.tab11 : rtab .any (opsOf Try.f10 11) = spec_DrawEncode.T11 := by kernel_rfl
theorem spec_DrawEncode.bits11 : waitsOk spec_DrawEncode.T11.2 spec_DrawEncode.B11 = true := by kernel_rfl
set_option maxHeartbeats 8000000 in
set_option maxRecDepth 100000 in
theorem spec_DrawEncode.calls (k : Nat) (A0 : Option Addr) (c0 : Nat) (l0 : List Int) (r1 : List ByteArray) (r2 : Int) (w : World) (hr0 : Kd.C (Kd.int .u8) w A0 l0.length l0) (hc0 : l0.length ≤ c0) (h : spec_DrawEncode.f k l0 = some (r1, r2)) :
  Calls Try.prog 10 #[.slice A0 l0.length c0] w fun e w' => ∃ v0_ : Value, e = .returned (.tuple #[v0_, .int .i64 r2]) ∧ Kd.R Kd.string 9 w' w.heap.size (fun _ => True) v0_ r1 ∧ Below w.heap.size w w' := by
 have ax := Aside0.mk hr0; have ay := Aside0.mk hc0; clear hr0 hc0; have HB := Aside0.mk (Below.refl w.heap.size w); have H : ((spec_l1Open.f l0).bind fun bt351 => ((spec_l3Payloads.f k bt351.1 bt351.2).bind fun bt354 => ((spec_l1Rd_pick.f k bt351.1 bt354.2 16).bind fun bt358 => (if bt358.1 = 0 then ((spec_l1Many.f k (⟨#[112]⟩ : ByteArray) 1001).bind fun ab => ((some (([(⟨#[]⟩ : ByteArray), ab] : List ByteArray) : List ByteArray)).bind fun a5 => ((spec_l1Rd_pick.f k bt351.1 bt358.2 2).bind fun bt364 => (if 0 ≤ bt364.1 then (if bt364.1 < (a5.length : Int) then (if bt354.1.length < 8796093022208 then ((spec_l1Width.f k bt351.1 bt364.2).bind fun bt370 => (some ((bt354.1 ++ [rdOf ByteArray.empty a5 bt364.1]), bt370.1))) else (none)) else (none)) else (none))))) else (if bt358.1 = 1 then ((spec_l1Rd_pick.f k bt351.1 bt358.2 2).bind fun bt372 => (spec_DrawEncode.l0 k bt354.1 (wrap64 (500 + bt372.1)) bt351.1 bt372.2)) else (if bt358.1 = 2 then ((some (([0, 9] : List Int) : List Int)).bind fun a4 => ((spec_l1Rd_pick.f k bt351.1 bt358.2 2).bind fun bt382 => (if 0 ≤ bt382.1 then (if bt382.1 < (a4.length : Int) then (some (bt354.1, rd a4 bt382.1)) else (none)) else (none)))) else ((spec_l1Width.f k bt351.1 bt358.2).bind fun bt385 => (some (bt354.1, bt385.1))))))))) = some (r1, r2) := h; clear h; replace H := Option.bind_eq_some_iff.mp H; obtain ⟨⟨a2, af⟩, A20, H⟩ := H; replace H : ((spec_l3Payloads.f k a2 af).bind fun bt354 => ((spec_l1Rd_pick.f k a2 bt354.2 16).bind fun bt358 => (if bt358.1 = 0 then ((spec_l1Many.f k (⟨#[112]⟩ : ByteArray) 1001).bind fun ab => ((some (([(⟨#[]⟩ : ByteArray), ab] : List ByteArray) : List ByteArray)).bind fun a5 => ((spec_l1Rd_pick.f k a2 bt358.2 2).bind fun bt364 => (if 0 ≤ bt364.1 then (if bt364.1 < (a5.length : Int) then (if bt354.1.length < 8796093022208 then ((spec_l1Width.f k a2 bt364.2).bind fun bt370 => (some ((bt354.1 ++ [rdOf ByteArray.empty a5 bt364.1]), bt370.1))) else (none)) else (none)) else (none))))) else (if bt358.1 = 1 then ((spec_l1Rd_pick.f k a2 bt358.2 2).bind fun bt372 => (spec_DrawEncode.l0 k bt354.1 (wrap64 (500 + bt372.1)) a2 bt372.2)) else (if bt358.1 = 2 then ((some (([0, 9] : List Int) : List Int)).bind fun a4 => ((spec_l1Rd_pick.f k a2 bt358.2 2).bind fun bt382 => (if 0 ≤ bt382.1 then (if bt382.1 < (a4.length : Int) then (some (bt354.1, rd a4 bt382.1)) else (none)) else (none)))) else ((spec_l1Width.f k a2 bt358.2).bind fun bt385 => (some (bt354.1, bt385.1)))))))) = some (r1, r2) := H; have A2 := Aside0.mk A20; clear A20; replace H := Option.bind_eq_some_iff.mp H; obtain ⟨⟨a6, ag⟩, A30, H⟩ := H; replace H : ((spec_l1Rd_pick.f k a2 ag 16).bind fun bt358 => (if bt358.1 = 0 then ((spec_l1Many.f k (⟨#[112]⟩ : ByteArray) 1001).bind fun ab => ((some (([(⟨#[]⟩ : ByteArray), ab] : List ByteArray) : List ByteArray)).bind fun a5 => ((spec_l1Rd_pick.f k a2 bt358.2 2).bind fun bt364 => (if 0 ≤ bt364.1 then (if bt364.1 < (a5.length : Int) then (if a6.length < 8796093022208 then ((spec_l1Width.f k a2 bt364.2).bind fun bt370 => (some ((a6 ++ [rdOf ByteArray.empty a5 bt364.1]), bt370.1))) else (none)) else (none)) else (none))))) else (if bt358.1 = 1 then ((spec_l1Rd_pick.f k a2 bt358.2 2).bind fun bt372 => (spec_DrawEncode.l0 k a6 (wrap64 (500 + bt372.1)) a2 bt372.2)) else (if bt358.1 = 2 then ((some (([0, 9] : List Int) : List Int)).bind fun a4 => ((spec_l1Rd_pick.f k a2 bt358.2 2).bind fun bt382 => (if 0 ≤ bt382.1 then (if bt382.1 < (a4.length : Int) then (some (a6, rd a4 bt382.1)) else (none)) else (none)))) else ((spec_l1Width.f k a2 bt358.2).bind fun bt385 => (some (a6, bt385.1))))))) = some (r1, r2) := H; have A3 := Aside0.mk A30; clear A30; replace H := Option.bind_eq_some_iff.mp H; obtain ⟨⟨a8, a9⟩, A40, H⟩ := H; replace H : (if a8 = 0 then ((spec_l1Many.f k (⟨#[112]⟩ : ByteArray) 1001).bind fun ab => ((some (([(⟨#[]⟩ : ByteArray), ab] : List ByteArray) : List ByteArray)).bind fun a5 => ((spec_l1Rd_pick.f k a2 a9 2).bind fun bt364 => (if 0 ≤ bt364.1 then (if bt364.1 < (a5.length : Int) then (if a6.length < 8796093022208 then ((spec_l1Width.f k a2 bt364.2).bind fun bt370 => (some ((a6 ++ [rdOf ByteArray.empty a5 bt364.1]), bt370.1))) else (none)) else (none)) else (none))))) else (if a8 = 1 then ((spec_l1Rd_pick.f k a2 a9 2).bind fun bt372 => (spec_DrawEncode.l0 k a6 (wrap64 (500 + bt372.1)) a2 bt372.2)) else (if a8 = 2 then ((some (([0, 9] : List Int) : List Int)).bind fun a4 => ((spec_l1Rd_pick.f k a2 a9 2).bind fun bt382 => (if 0 ≤ bt382.1 then (if bt382.1 < (a4.length : Int) then (some (a6, rd a4 bt382.1)) else (none)) else (none)))) else ((spec_l1Width.f k a2 a9).bind fun bt385 => (some (a6, bt385.1)))))) = some (r1, r2) := H; have A4 := Aside0.mk A40; clear A40
 by_cases c5 : a8 = 0
 ·rw [if_pos c5] at H
  have aQ : (a8 == 0) = true := beq_iff_eq.mpr c5; have aR : (a8 != 0) = false := bne_eq_false_iff_eq.mpr c5; clear c5; replace H := Option.bind_eq_some_iff.mp H; obtain ⟨ab, A60, H⟩ := H; replace H : ((some (([(⟨#[]⟩ : ByteArray), ab] : List ByteArray) : List ByteArray)).bind fun a5 => ((spec_l1Rd_pick.f k a2 a9 2).bind fun bt364 => (if 0 ≤ bt364.1 then (if bt364.1 < (a5.length : Int) then (if a6.length < 8796093022208 then ((spec_l1Width.f k a2 bt364.2).bind fun bt370 => (some ((a6 ++ [rdOf ByteArray.empty a5 bt364.1]), bt370.1))) else (none)) else (none)) else (none)))) = some (r1, r2) := H; have A6 := Aside0.mk A60; clear A60
  obtain ⟨a5, ap⟩ : ∃ y_ : List ByteArray, y_ = (([(⟨#[]⟩ : ByteArray), ab] : List ByteArray)) := ⟨_, rfl⟩
  replace H : ((spec_l1Rd_pick.f k a2 a9 2).bind fun bt364 => (if 0 ≤ bt364.1 then (if bt364.1 < (a5.length : Int) then (if a6.length < 8796093022208 then ((spec_l1Width.f k a2 bt364.2).bind fun bt370 => (some ((a6 ++ [rdOf ByteArray.empty a5 bt364.1]), bt370.1))) else (none)) else (none)) else (none))) = some (r1, r2) := by first | (rw [ap]; with_reducible exact H) | (have H2_ := (Option.bind_some _ _).symm.trans H; rw [ap]; with_reducible exact H2_) | (have H2_ := (Option.bind_some _ _).symm.trans H; with_reducible exact H2_) | with_reducible exact H | (rw [ap]; exact H) | exact H
  have aT := Aside0.mk ap; clear ap; replace H := Option.bind_eq_some_iff.mp H; obtain ⟨⟨ac, az⟩, A70, H⟩ := H; replace H : (if 0 ≤ ac then (if ac < (a5.length : Int) then (if a6.length < 8796093022208 then ((spec_l1Width.f k a2 az).bind fun bt370 => (some ((a6 ++ [rdOf ByteArray.empty a5 ac]), bt370.1))) else (none)) else (none)) else (none)) = some (r1, r2) := H; have A7 := Aside0.mk A70; clear A70
  by_cases c8 : 0 ≤ ac
  ·rw [if_pos c8] at H
   have b6 : decide (0 ≤ ac) = true := decide_eq_true c8; clear c8
   by_cases c9 : ac < (a5.length : Int)
   ·rw [if_pos c9] at H
    have b7 : decide (ac < (a5.length : Int)) = true := decide_eq_true c9; clear c9
    by_cases c10 : a6.length < 8796093022208
    ·rw [if_pos c10] at H
     have b8 := Aside0.mk c10; clear c10
     obtain ⟨aU, aq⟩ : ∃ y_ : List ByteArray, y_ = (a6 ++ [rdOf ByteArray.empty a5 ac]) := ⟨_, rfl⟩
     replace H : ((spec_l1Width.f k a2 az).bind fun bt370 => (some (aU, bt370.1))) = some (r1, r2) := by first | (rw [aq]; with_reducible exact H) | (have H2_ := (Option.bind_some _ _).symm.trans H; rw [aq]; with_reducible exact H2_) | (have H2_ := (Option.bind_some _ _).symm.trans H; with_reducible exact H2_) | with_reducible exact H | (rw [aq]; exact H) | exact H
     have b9 := Aside0.mk aq; clear aq; replace H := Option.bind_eq_some_iff.mp H; obtain ⟨⟨aV, ba⟩, aW, H⟩ := H; replace H : (some (aU, aV)) = some (r1, r2) := H; have A11 := Aside0.mk aW; clear aW; simp only [Option.some.injEq, Prod.mk.injEq] at H; obtain ⟨rfl, rfl⟩ := H
     go_enter Try.func10, Try.ntmps10
     go_wp2_with (first | ((with_reducible refine gc 14 rfl ?_); refine gl (some 8) _ (#[.slice A0 l0.length c0]) Try.func14 ?_; (with_reducible refine (spec_l1Open.calls _ _ l0 a2 af w _ ?side1 ?side2 ?side3 A2.out).mono ?_); (case side1 => exact bf HB.out); (case side2 => exact ax.out); (case side3 => exact ay.out); rintro e w12 ⟨g353, rfl, hi, hb, hb2⟩; refine ⟨_, rfl, ?_⟩; refine Ya2 (hb) (hi) ?_; clear HB; intro HB a1; (try clear hb); (try clear hb2); (try clear hk); (try clear hi)) | ((with_reducible refine gc 16 rfl ?_); refine gl (some 10) _ (#[.pointer (some ⟨g353, 0, none⟩)]) Try.func16 ?_; (with_reducible refine (spec_l3Payloads.calls k g353 a2 af a6 ag w _ ?side1 ?side2 A3.out).mono ?_); (case side1 => exact iq62 a1.out); (case side2 => exact bq62 HB.out a1.out); rintro e w13 ⟨ai, rfl, ho0, hi, hb, hk⟩; refine ⟨_, rfl, ?_⟩; refine Ya3 (Kd.R_lower ho0 (below_size (bq62 HB.out a1.out))) (hb) (hi) ?_; clear HB a1; intro a3 HB a1; (try clear hb); (try clear hb2); (try clear hk); (try clear hi); (try clear ho0)) | ((with_reducible refine gc 17 rfl ?_); refine gl (some 12) _ (#[.pointer (some ⟨g353, 0, none⟩), .int .i64 16]) Try.func17 ?_; (with_reducible refine (spec_l1Rd_pick.calls k g353 a2 ag 16 a8 a9 w _ ?side1 ?side2 A4.out).mono ?_); (case side1 => exact iq62 a1.out); (case side2 => exact bq62 HB.out a1.out); rintro e w14 ⟨rfl, hi, hb, hk⟩; refine ⟨_, rfl, ?_⟩; refine Ya3 (ra62 (iq62 a1.out) (kr a3.out) hk) (hb) (hi) ?_; clear a3 HB a1; intro a3 HB a1; (try clear hb); (try clear hb2); (try clear hk); (try clear hi)) | ((with_reducible refine gc 26 rfl ?_); refine gl (some 16) _ (#[.string (⟨#[112]⟩ : ByteArray), .int .i64 1001]) Try.func26 ?_; (with_reducible refine (spec_l1Many.calls k (⟨#[112]⟩ : ByteArray) 1001 ab _ A6.out).mono ?_); rintro e w' ⟨rfl, ⟨nd, rfl⟩⟩; refine ⟨_, rfl, ?_⟩) | ((with_reducible refine gd 17 rfl ?_); refine Kd.R_lit Kd.string _ 9 ?hg (N := 17) ?hd (xs := ([(⟨#[]⟩ : ByteArray), ab] : List ByteArray)) (inner := [.string (⟨#[]⟩ : ByteArray), .string ab]) (ok := fun _ => True) (okp := fun _ => True) ?hr ?hp (fun _ hk => hk) trivial (Below.refl _ _) (Nat.le_refl _) (by simp) ?_; (case hd => rfl); (case hg => rfl); (case hr => first | (go_simp; done) | (go_simp; rfl)); (case hp => exact (Reps.one (show Kd.M Kd.string _ _ _ (⟨#[]⟩ : ByteArray) [.string (⟨#[]⟩ : ByteArray)] from rfl) (Reps.one (show Kd.M Kd.string _ _ _ ab [.string ab] from rfl) (Reps.none _ _)))); intro v362 w15 ho16 hb hg_ hnew_; clear hg_ hnew_; (first | rw [← aT.out] at ho16 | (simp only [Int.reduceToNat] at ho16; rw [← aT.out] at ho16)); refine Ya4 (Kd.R_elder' (kr a3.out) (Kd.R_base ho16) hb) (Kd.R_lower (Kd.R_new' ho16 (Kd.R_lt (kr a3.out))) (below_size (bq62 HB.out a1.out))) (IsS62.below (iq62 a1.out) hb) (below_step (bq62 HB.out a1.out) hb) ?_; clear a3 a1 HB; intro a3 ad a1 HB; clear hb ho16) | ((with_reducible refine gc 17 rfl ?_); refine gl (some 19) _ (#[.pointer (some ⟨g353, 0, none⟩), .int .i64 2]) Try.func17 ?_; (with_reducible refine (spec_l1Rd_pick.calls k g353 a2 a9 2 ac az w _ ?side1 ?side2 A7.out).mono ?_); (case side1 => exact iq62 a1.out); (case side2 => exact bq62 HB.out a1.out); rintro e w17 ⟨rfl, hi, hb, hk⟩; refine ⟨_, rfl, ?_⟩; refine Ya4 (ra62 (iq62 a1.out) (kr a3.out) hk) (ra62 (iq62 a1.out) (kr ad.out) hk) (hb) (hi) ?_; clear a3 ad HB a1; intro a3 ad HB a1; (try clear hb); (try clear hb2); (try clear hk); (try clear hi); obtain ⟨Ao18, bd, bg⟩ := Kd.R_slice ad.out; subst bg; have aA : 0 ≤ (ac : Int) := oda; have aC : ac < (a5.length : Int) := oda; obtain ⟨bh, bi, bj⟩ := Kd.at_string (Kd.R_reads' ad.out).2.2 ac aA aC; cases bi; replace aA := eq_true aA; replace aC := eq_true aC) | ((with_reducible refine gate_builtin (b := .append) (xs := #[.tmp 15, .tmp 22]) rfl ?_); at_builtin; refine Kd.R_append Kd.string (w0 := w) w.heap.size rfl (.tmp 15) (.tmp 22) 23 9 (.string ⟨#[]⟩) 16 rfl Try.underlying23 info9 rfl (by decide) (by omega) ai a6 (rdOf ByteArray.empty a5 ac) [.string (rdOf ByteArray.empty a5 ac)] (fun k_ => some k_ ≠ (.slice (some bh) a5.length bd : Value).ownBlock) (fun _ => False) rfl rfl ?aP (fun _ hk => hk.elim) ?aF ?aO ?aB ?aS ?aL ?_; (case aP => exact rfl); (case aB => exact (bq62 HB.out a1.out)); (case aF => exact (fun k_ hk => Kd.fresh' (Kd.R_lt (kr ad.out)) k_ hk)); (case aO => exact (by (with_reducible repeat (first | apply Kd.R_alloc | apply Kd.R_drewN | apply Kd.R_drew)); exact Kd.R_mono a3.out (fun _ hk => hk.2))); (case aS => exact (below_size (bq62 HB.out a1.out))); (case aL => have := b8.out; omega); intro v368 w19 ho hb hg hat; rw [← b9.out] at ho; refine Ya4 (IsS62.grown (iq62 a1.out) hg (IsS62.own_ne a1.out a3.out (by decide))) (Kd.R_after (ok := (fun _ => True)) (kr ad.out) hg hat) (hb) (ho) ?_; clear a1 ad HB a3; intro a1 ad HB aD; clear ho hb hg hat) | ((with_reducible refine gc 27 rfl ?_); refine gl (some 46) _ (#[.pointer (some ⟨g353, 0, none⟩)]) Try.func27 ?_; (with_reducible refine (spec_l1Width.calls k g353 a2 az aV ba w _ ?side1 ?side2 A11.out).mono ?_); (case side1 => exact iq62 a1.out); (case side2 => exact bq62 HB.out a1.out); rintro e w20 ⟨rfl, hi, hb, hk⟩; refine ⟨_, rfl, ?_⟩; refine Ya4 (ra62 (iq62 a1.out) (kr ad.out) hk) (ra62 (iq62 a1.out) (kr aD.out) hk) (hb) (hi) ?_; clear ad aD HB a1; intro ad aD HB a1; (try clear hb); (try clear hb2); (try clear hk); (try clear hi)))
     go_ret2
     exact ⟨_, Ye2, by (with_reducible repeat (first | apply Kd.R_alloc | apply Kd.R_drewN | apply Kd.R_drew)); exact Kd.R_mono aD.out (fun _ hk => trivial), bq62 HB.out a1.out⟩
    ·rw [if_neg c10] at H
     exact absurd H (by simp)
   ·rw [if_neg c9] at H
    exact absurd H (by simp)
  ·rw [if_neg c8] at H
   exact absurd H (by simp)
 ·rw [if_neg c5] at H
  have aQ : (a8 == 0) = false := beq_eq_false_iff_ne.mpr c5; have aR : (a8 != 0) = true := bne_iff_ne.mpr c5
  by_cases aj : a8 = 1
  ·rw [if_pos aj] at H
   have aX : (a8 == 1) = true := beq_iff_eq.mpr aj; have aY : (a8 != 1) = false := bne_eq_false_iff_eq.mpr aj; clear aj; replace H := Option.bind_eq_some_iff.mp H; obtain ⟨⟨al, an⟩, aZ, H⟩ := H; replace H : (spec_DrawEncode.l0 k a6 (wrap64 (500 + al)) a2 an) = some (r1, r2) := H; have A22 := Aside0.mk aZ; clear aZ; have H' := Aside0.mk H; clear H
   go_enter Try.func10, Try.ntmps10
   go_wp2_with (first | ((with_reducible refine gc 14 rfl ?_); refine gl (some 8) _ (#[.slice A0 l0.length c0]) Try.func14 ?_; (with_reducible refine (spec_l1Open.calls _ _ l0 a2 af w _ ?side1 ?side2 ?side3 A2.out).mono ?_); (case side1 => exact bf HB.out); (case side2 => exact ax.out); (case side3 => exact ay.out); rintro e w23 ⟨g353, rfl, hi, hb, hb2⟩; refine ⟨_, rfl, ?_⟩; refine Ya2 (hb) (hi) ?_; clear HB; intro HB a1; (try clear hb); (try clear hb2); (try clear hk); (try clear hi)) | ((with_reducible refine gc 16 rfl ?_); refine gl (some 10) _ (#[.pointer (some ⟨g353, 0, none⟩)]) Try.func16 ?_; (with_reducible refine (spec_l3Payloads.calls k g353 a2 af a6 ag w _ ?side1 ?side2 A3.out).mono ?_); (case side1 => exact iq62 a1.out); (case side2 => exact bq62 HB.out a1.out); rintro e w24 ⟨ai, rfl, ho0, hi, hb, hk⟩; refine ⟨_, rfl, ?_⟩; refine Ya3 (Kd.R_lower ho0 (below_size (bq62 HB.out a1.out))) (hb) (hi) ?_; clear HB a1; intro a3 HB a1; (try clear hb); (try clear hb2); (try clear hk); (try clear hi); (try clear ho0)) | ((with_reducible refine gc 17 rfl ?_); refine gl (some 12) _ (#[.pointer (some ⟨g353, 0, none⟩), .int .i64 16]) Try.func17 ?_; (with_reducible refine (spec_l1Rd_pick.calls k g353 a2 ag 16 a8 a9 w _ ?side1 ?side2 A4.out).mono ?_); (case side1 => exact iq62 a1.out); (case side2 => exact bq62 HB.out a1.out); rintro e w25 ⟨rfl, hi, hb, hk⟩; refine ⟨_, rfl, ?_⟩; refine Ya3 (ra62 (iq62 a1.out) (kr a3.out) hk) (hb) (hi) ?_; clear a3 HB a1; intro a3 HB a1; (try clear hb); (try clear hb2); (try clear hk); (try clear hi)) | ((with_reducible refine gc 17 rfl ?_); refine gl (some 27) _ (#[.pointer (some ⟨g353, 0, none⟩), .int .i64 2]) Try.func17 ?_; (with_reducible refine (spec_l1Rd_pick.calls k g353 a2 a9 2 al an w _ ?side1 ?side2 A22.out).mono ?_); (case side1 => exact iq62 a1.out); (case side2 => exact bq62 HB.out a1.out); rintro e w26 ⟨rfl, hi, hb, hk⟩; refine ⟨_, rfl, ?_⟩; refine Ya3 (ra62 (iq62 a1.out) (kr a3.out) hk) (hb) (hi) ?_; clear a3 HB a1; intro a3 HB a1; (try clear hb); (try clear hb2); (try clear hk); (try clear hi)))
   go_loopg [5] k (fun kq v5 w' => ∃ (ae : List ByteArray), Aside0 (spec_DrawEncode.l0 kq ae (wrap64 (500 + al)) a2 an = some (r1, r2)) ∧ Aside0 (kq ≤ k) ∧ Aside0 (Kd.R Kd.string 9 w' w.heap.size (fun _ => True) v5 ae) ∧ Aside0 (IsS62 w w' g353 a2 an) ∧ Aside0 (Below w.heap.size w w'))
   case atStart => exact ⟨(a6), H', ⟨Nat.le_refl _⟩, ⟨kr a3.out⟩, ⟨iq62 a1.out⟩, ⟨bq62 HB.out a1.out⟩⟩
   case round =>
    clear H'; (try clear c1); (try clear c2); (try clear p2); (try clear p3); (try clear q3); (try clear hx3); (try clear c5); (try clear aQ); (try clear aR); (try clear p6); (try clear c8); (try clear b6); (try clear c9); (try clear b7); (try clear c10); (try clear c14); (try clear c16); (try clear c17); (try clear aj); (try clear aX); (try clear aY); (try clear c26); (try clear bj); (try clear aA); (try clear aC); obtain ⟨ae, HA, HK1, ah, a1, HB⟩ := hrel
    cases gk with
    | zero => exact absurd HA.out (by simp [spec_DrawEncode.l0])
    | succ k1 =>
     have H := HA.out; clear HA; simp only [spec_DrawEncode.l0] at H
     by_cases ao : (ae.length : Int) < (wrap64 (500 + al))
     ·rw [if_pos ao] at H
      have bm : decide ((ae.length : Int) < (wrap64 (500 + al))) = true := decide_eq_true ao; clear ao
      by_cases aE : ae.length < 8796093022208
      ·rw [if_pos aE] at H
       have bn := Aside0.mk aE; clear aE
       obtain ⟨b0, ar⟩ : ∃ y_ : List ByteArray, y_ = (ae ++ [(⟨#[120]⟩ : ByteArray)]) := ⟨_, rfl⟩
       replace H : (spec_DrawEncode.l0 k1 b0 (wrap64 (500 + al)) a2 an) = some (r1, r2) := by first | (rw [ar]; with_reducible exact H) | (have H2_ := (Option.bind_some _ _).symm.trans H; rw [ar]; with_reducible exact H2_) | (have H2_ := (Option.bind_some _ _).symm.trans H; with_reducible exact H2_) | with_reducible exact H | (rw [ar]; exact H) | exact H
       have bo := Aside0.mk ar; clear ar; have H' := Aside0.mk H; clear H; obtain ⟨bq, bu, bv⟩ := Kd.R_slice ah.out; subst bv
       go_wp2_with (first | ((with_reducible refine gate_builtin (b := .append) (xs := #[.tmp 33, .tmp 34]) rfl ?_); at_builtin; refine Kd.R_append Kd.string (w0 := w) w.heap.size rfl (.tmp 33) (.tmp 34) 23 9 (.string ⟨#[]⟩) 16 rfl Try.underlying23 info9 rfl (by decide) (by omega) (.slice bq ae.length bu) ae (⟨#[120]⟩ : ByteArray) [.string (⟨#[120]⟩ : ByteArray)] (fun _ => True) (fun _ => False) rfl rfl ?aP (fun _ hk => hk.elim) ?aF ?aO ?aB ?aS ?aL ?_; (case aP => exact rfl); (case aB => exact (bq62 HB.out a1.out)); (case aF => exact (fun _ _ => trivial)); (case aO => exact (kr ah.out)); (case aS => exact (below_size (bq62 HB.out a1.out))); (case aL => have := bn.out; omega); intro v375 w30 ho hb hg hat; rw [← bo.out] at ho; refine Ya3 (IsS62.grown (iq62 a1.out) hg (IsS62.own_ne a1.out ah.out (by decide))) (hb) (ho) ?_; clear a1 HB ah; intro a1 HB bw; clear ho hb hg hat))
       go_roundg k1
       case measure => have := HK1.out; omega
       case rel => exact ⟨(b0), H', ⟨by have := HK1.out; omega⟩, ⟨kr bw.out⟩, ⟨iq62 a1.out⟩, ⟨bq62 HB.out a1.out⟩⟩
      ·rw [if_neg aE] at H
       exact absurd H (by simp)
     ·rw [if_neg ao] at H
      have bm : decide ((ae.length : Int) < (wrap64 (500 + al))) = false := decide_eq_false ao; clear ao; replace H := Option.bind_eq_some_iff.mp H; obtain ⟨⟨b1, bz⟩, b2, H⟩ := H; replace H : (some (ae, b1)) = some (r1, r2) := H; have A31 := Aside0.mk b2; clear b2; simp only [Option.some.injEq, Prod.mk.injEq] at H; obtain ⟨rfl, rfl⟩ := H; obtain ⟨Ao32, co32, bA⟩ := Kd.R_slice ah.out; subst bA
      go_wp2_with (first | ((with_reducible refine gc 27 rfl ?_); refine gl (some 46) _ (#[.pointer (some ⟨g353, 0, none⟩)]) Try.func27 ?_; (with_reducible refine (spec_l1Width.calls k1 g353 a2 an b1 bz w _ ?side1 ?side2 A31.out).mono ?_); (case side1 => exact iq62 a1.out); (case side2 => exact bq62 HB.out a1.out); rintro e w33 ⟨rfl, hi, hb, hk⟩; refine ⟨_, rfl, ?_⟩; refine Ya3 (ra62 (iq62 a1.out) (kr ah.out) hk) (hb) (hi) ?_; clear ah HB a1; intro ah HB a1; (try clear hb); (try clear hb2); (try clear hk); (try clear hi)))
      go_ret2
      exact ⟨_, Ye2, kr ah.out, bq62 HB.out a1.out⟩
  ·rw [if_neg aj] at H
   have aX : (a8 == 1) = false := beq_eq_false_iff_ne.mpr aj; have aY : (a8 != 1) = true := bne_iff_ne.mpr aj
   by_cases am : a8 = 2
   ·rw [if_pos am] at H
    have bB : (a8 == 2) = true := beq_iff_eq.mpr am; have bC : (a8 != 2) = false := bne_eq_false_iff_eq.mpr am; clear am
    obtain ⟨a4, au⟩ : ∃ y_ : List Int, y_ = (([0, 9] : List Int)) := ⟨_, rfl⟩
    replace H : ((spec_l1Rd_pick.f k a2 a9 2).bind fun bt382 => (if 0 ≤ bt382.1 then (if bt382.1 < (a4.length : Int) then (some (a6, rd a4 bt382.1)) else (none)) else (none))) = some (r1, r2) := by first | (rw [au]; with_reducible exact H) | (have H2_ := (Option.bind_some _ _).symm.trans H; rw [au]; with_reducible exact H2_) | (have H2_ := (Option.bind_some _ _).symm.trans H; with_reducible exact H2_) | with_reducible exact H | (rw [au]; exact H) | exact H
    have aJ := Aside0.mk au; clear au; replace H := Option.bind_eq_some_iff.mp H; obtain ⟨⟨a7, aK⟩, b3, H⟩ := H; replace H : (if 0 ≤ a7 then (if a7 < (a4.length : Int) then (some (a6, rd a4 a7)) else (none)) else (none)) = some (r1, r2) := H; have A35 := Aside0.mk b3; clear b3
    by_cases aG : 0 ≤ a7
    ·rw [if_pos aG] at H
     have c36b0 : decide (0 ≤ a7) = true := decide_eq_true aG; clear aG
     by_cases aH : a7 < (a4.length : Int)
     ·rw [if_pos aH] at H
      have c37b0 : decide (a7 < (a4.length : Int)) = true := decide_eq_true aH; clear aH; simp only [Option.some.injEq, Prod.mk.injEq] at H; obtain ⟨rfl, rfl⟩ := H
      go_enter Try.func10, Try.ntmps10
      try go_wp2_with (first | ((with_reducible refine gc 14 rfl ?_); refine gl (some 8) _ (#[.slice A0 l0.length c0]) Try.func14 ?_; (with_reducible refine (spec_l1Open.calls _ _ l0 a2 af w _ ?side1 ?side2 ?side3 A2.out).mono ?_); (case side1 => exact bf HB.out); (case side2 => exact ax.out); (case side3 => exact ay.out); rintro e w38 ⟨g353, rfl, hi, hb, hb2⟩; refine ⟨_, rfl, ?_⟩; refine Ya2 (hb) (hi) ?_; clear HB; intro HB a1; (try clear hb); (try clear hb2); (try clear hk); (try clear hi)) | ((with_reducible refine gc 16 rfl ?_); refine gl (some 10) _ (#[.pointer (some ⟨g353, 0, none⟩)]) Try.func16 ?_; (with_reducible refine (spec_l3Payloads.calls k g353 a2 af a6 ag w _ ?side1 ?side2 A3.out).mono ?_); (case side1 => exact iq62 a1.out); (case side2 => exact bq62 HB.out a1.out); rintro e w39 ⟨ai, rfl, ho0, hi, hb, hk⟩; refine ⟨_, rfl, ?_⟩; refine Ya3 (Kd.R_lower ho0 (below_size (bq62 HB.out a1.out))) (hb) (hi) ?_; clear HB a1; intro a3 HB a1; (try clear hb); (try clear hb2); (try clear hk); (try clear hi); (try clear ho0)) | ((with_reducible refine gc 17 rfl ?_); refine gl (some 12) _ (#[.pointer (some ⟨g353, 0, none⟩), .int .i64 16]) Try.func17 ?_; (with_reducible refine (spec_l1Rd_pick.calls k g353 a2 ag 16 a8 a9 w _ ?side1 ?side2 A4.out).mono ?_); (case side1 => exact iq62 a1.out); (case side2 => exact bq62 HB.out a1.out); rintro e w40 ⟨rfl, hi, hb, hk⟩; refine ⟨_, rfl, ?_⟩; refine Ya3 (ra62 (iq62 a1.out) (kr a3.out) hk) (hb) (hi) ?_; clear a3 HB a1; intro a3 HB a1; (try clear hb); (try clear hb2); (try clear hk); (try clear hi)))
      have pi384 : (0 ≤ (a7 : Int)) = True := eq_true (oda); have qi384 : (a7 < (a4.length : Int)) = True := eq_true (oda); refine Ya3 (Kd.R_drew a3.out) (IsS62.drew a1.out) (below_drew1 HB.out) ?_; clear a3 a1 HB; intro a3 a1 HB; refine start_ (n := 8) (S := fun w' => True) (ds := []) (fb 8 0) (by kernel_rfl) rfl rfl trivial (fun hHeld => ?_); refine with_tabW spec_DrawEncode.tab11 spec_DrawEncode.bits11 (fun HT_ HW_ => ?_); generalize w40.drew = w41 at a3 a1 HB hHeld ⊢; refine pu 0 38 (fb 8 1) HT_ ?_; refine pu 2 40 (fb 8 5) HT_ ?_; refine inv_at [1, 3, 4, 5, 6, 7] (fun a0_ b a w' => ∃ (aa : Value) (adz_v380 : Addr) (m4_ : Value), a = putSel a0_ b [(1, 39, aa), (3, 41, .int .i64 a7), (4, 42, m4_), (5, 43, .int .i64 (rd a4 a7)), (6, 2, ai), (7, 3, .int .i64 (rd a4 a7))] ∧ (Kd.R Kd.string 9 w' w.heap.size (fun _ => True) ai a6) ∧ (b 3 = false → IsS62 w w' g353 a2 a9) ∧ (Below w.heap.size w w') ∧ (b 1 = true → Kd.R (Kd.int .i64) 3 w' w.heap.size (fun _ => True) aa a4) ∧ (b 1 = true → ∃ c_, (aa : Value) = .slice (some adz_v380) a4.length c_) ∧ (b 3 = true → IsS62 w w' g353 a2 aK) ∧ (b 4 = true → (m4_ : Value) = .pointer (some (adz_v380.add (a7).toNat)))) HT_.out HW_.out (by kernel_rfl) (by kernel_rfl) ?_ ?_ ?_
      ·exact ⟨.bool false, ⟨0, 0, none⟩, .bool false, by simp only [putSel, Bool.false_eq_true, if_false], a3.out, fun _ => a1.out, HB.out, fun h_ => absurd h_ (by decide), fun h_ => absurd h_ (by decide), fun h_ => absurd h_ (by decide), fun h_ => absurd h_ (by decide)⟩
      ·skip
       clear HB a1 a3; refine steps_cons ?_ ?_
       ·rintro b a w' ⟨aa, adz_v380, m4_, ha, Q_HO356, Q_HI353, Q_HB, Q_HO381, Q_HA_HO381, Q_HI353_e3, Q_X4_⟩ hb_ hon hoff; refine ⟨_, rfl, fun K hK => ?_⟩; replace ha := Aside0.mk ha; have a3 := Aside0.mk Q_HO356; have HB := Aside0.mk Q_HB; refine Kd.R_lit_step (Kd.int .i64) _ 3 ?hg (N := 39) ?hd (xs := ([0, 9] : List Int)) (inner := [.int .i64 0, .int .i64 9]) (ok := fun _ => True) (okp := fun _ => True) ?hr ?hp (fun _ hk => hk) trivial (Below.refl _ _) (Nat.le_refl _) (by simp) ?_; (case hd => rfl); (case hg => rfl); (case hr => first | (go_simp; done) | (go_simp; rfl)); (case hp => exact (Reps.one (show Kd.M (Kd.int .i64) _ _ _ 0 [.int .i64 0] from rfl) (Reps.one (show Kd.M (Kd.int .i64) _ _ _ 9 [.int .i64 9] from rfl) (Reps.none _ _)))); intro aa aI ho43 hb hg_ hnew_; clear hg_ hnew_; (first | rw [← aJ.out] at ho43 | (simp only [Int.reduceToNat] at ho43; rw [← aJ.out] at ho43)); have av := Aside0.mk (Kd.R_below (kr a3.out) hb); have aw := Aside0.mk (Kd.R_lower ho43 (below_size (be HB.out))); have n3_ := Aside0.mk (below_step (be HB.out) hb)
        have z_HI353 := fun (h0_ : b 3 = false) => (show IsS62 w aI g353 a2 a9 from by first | exact (IsS62.below (by repeat (first | (with_reducible first | exact (Q_HI353 h0_) | apply IsS62.alloc | apply IsS62.drewN | apply IsS62.drew | apply IsS62.set_1) | exact (Q_HI353 h0_))) hb))
        have z_HI353_e3 := fun (h0_ : b 3 = true) => (show IsS62 w aI g353 a2 aK from by first | exact (IsS62.below (by repeat (first | (with_reducible first | exact (Q_HI353_e3 h0_) | apply IsS62.alloc | apply IsS62.drewN | apply IsS62.drew | apply IsS62.set_1) | exact (Q_HI353_e3 h0_))) hb))
        clear a3; clear HB; have a3 := av; have ak := aw; have HB := n3_; clear av aw n3_; clear hb ho43; obtain ⟨Ao44, bD, bE⟩ := Kd.R_slice ak.out; subst bE; obtain ⟨ado44, fo44, _⟩ := Kd.at_int (Kd.R_reads' ak.out).2.2 0 (by decide) (by rw [aJ.out]; simp)
        cases fo44
        refine hK.out _ _ ⟨.slice (some ado44) a4.length bD, ado44, m4_, (by rw [ha.out]; exact putSel_upk 0 hb_ rfl rfl rfl), (kr a3.out), z_HI353, (be HB.out), fun _ => (kr ak.out), fun _ => ⟨_, rfl⟩, z_HI353_e3, fun h0_ => absurd ((hoff 4 (by kernel_rfl)).symm.trans h0_) (by decide)⟩
       refine steps_cons ?_ ?_
       ·rintro b a w' ⟨aa, adz_v380, m4_, ha, Q_HO356, Q_HI353, Q_HB, Q_HO381, Q_HA_HO381, Q_HI353_e3, Q_X4_⟩ hb_ hon hoff; refine ⟨_, rfl, fun K hK => ?_⟩
        have e40 : a.tmps[40]? = some (.pointer (some ⟨g353, 0, none⟩)) := by rw [ha]; exact (putSel_off rfl).trans rfl
        replace ha := Aside0.mk ha; have a3 := Aside0.mk Q_HO356; have a1 := Aside0.mk (Q_HI353 hb_); have HB := Aside0.mk Q_HB; refine goes_ Try.func17 (by kernel_rfl) rfl #[.pointer (some ⟨g353, 0, none⟩), .int .i64 2] (by rfl) rfl rfl (by first | (simp only [List.map_toArray, List.map_cons, List.map_nil, Act.eval, Array.getD_eq_getD_getElem?, Option.getD_some, e40]; done) | (simp only [List.map_toArray, List.map_cons, List.map_nil, Act.eval, Array.getD_eq_getD_getElem?, Option.getD_some, e40]; rfl)) ?_; (with_reducible refine (spec_l1Rd_pick.calls k g353 a2 a9 2 a7 aK w _ ?side1 ?side2 A35.out).mono ?_); (case side1 => exact iq62 a1.out); (case side2 => exact bq62 HB.out a1.out); rintro e aI ⟨rfl, hi, hb, hk⟩; refine ⟨_, rfl, ?_⟩; have av := Aside0.mk (ra62 (iq62 a1.out) (kr a3.out) hk); have aw := Aside0.mk (hb); have n2_ := Aside0.mk (hi)
        have z_HO381 := fun (h0_ : b 1 = true) => (show Kd.R (Kd.int .i64) 3 aI w.heap.size (fun _ => True) aa a4 from by first | exact (Kd.R_mono (Kd.R_keep (IsS62.apart (show IsS62 w _ g353 a2 a9 from iq62 a1.out) (by (with_reducible repeat (first | apply Kd.R_alloc | apply Kd.R_drewN | apply Kd.R_drew)); exact (Q_HO381 h0_)) (by decide)) hk (fun _ h => h.2)) (fun _ h => h.1)) | exact Kd.R_mono (Kd.R_mono (Kd.R_keep (IsS62.apart (show IsS62 w _ g353 a2 a9 from iq62 a1.out) (by (with_reducible repeat (first | apply Kd.R_alloc | apply Kd.R_drewN | apply Kd.R_drew)); exact (Q_HO381 h0_)) (by decide)) hk (fun _ h => h.2)) (fun _ h => h.1)) (fun _ h_ => by first | trivial | exact h_ | exact h_.1))
        clear a3; clear HB; clear a1; have a3 := av; have HB := aw; have a1 := n2_; clear av aw n2_; (try clear hb); (try clear hb2); (try clear hk); (try clear hi); refine hK.out _ _ ⟨aa, adz_v380, m4_, (by rw [ha.out]; exact putSel_upk 1 hb_ rfl rfl rfl), (kr a3.out), fun h0_ => absurd ((up_self b 3).symm.trans h0_) (by decide), (bq62 HB.out a1.out), z_HO381, Q_HA_HO381, fun _ => (iq62 a1.out), fun h0_ => absurd ((hoff 4 (by kernel_rfl)).symm.trans h0_) (by decide)⟩
       refine steps_cons ?_ ?_
       ·rintro b a w' ⟨aa, adz_v380, m4_, ha, Q_HO356, Q_HI353, Q_HB, Q_HO381, Q_HA_HO381, Q_HI353_e3, Q_X4_⟩ hb_ hon hoff; refine ⟨_, rfl, fun K hK => ?_⟩
        have e39 : a.tmps[39]? = some (aa) := by rw [ha]; exact putSel_on (e := (1, 39, aa)) 0 rfl rfl (hon 1 (by kernel_rfl)) rfl
        have e41 : a.tmps[41]? = some (.int .i64 a7) := by rw [ha]; exact putSel_on (e := (3, 41, .int .i64 a7)) 1 rfl rfl (hon 3 (by kernel_rfl)) rfl
        replace ha := Aside0.mk ha; have a3 := Aside0.mk Q_HO356; have HB := Aside0.mk Q_HB; have ak := Aside0.mk (Q_HO381 (hon 1 (by kernel_rfl))); have HA_HO381 := Aside0.mk (Q_HA_HO381 (hon 1 (by kernel_rfl))); have a1 := Aside0.mk (Q_HI353_e3 (hon 3 (by kernel_rfl))); obtain ⟨c_, hv_⟩ := HA_HO381.out
        rw [hv_] at e39
        refine value_ (w1 := w') (v := .pointer (some (adz_v380.add (a7).toNat))) (by rfl) rfl ?_ ?_
        ·go_simp; (try simp only [i64_w])
         try rfl
        refine hK.out _ _ ⟨aa, adz_v380, (.pointer (some (adz_v380.add (a7).toNat))), (by rw [ha.out]; exact putSel_upk 2 hb_ rfl rfl rfl), Q_HO356, fun h0_ => absurd ((hon 3 (by kernel_rfl)).symm.trans h0_) (by decide), Q_HB, Q_HO381, Q_HA_HO381, Q_HI353_e3, fun _ => rfl⟩
       refine steps_cons ?_ ?_
       ·rintro b a w' ⟨aa, adz_v380, m4_, ha, Q_HO356, Q_HI353, Q_HB, Q_HO381, Q_HA_HO381, Q_HI353_e3, Q_X4_⟩ hb_ hon hoff; refine ⟨_, rfl, fun K hK => ?_⟩
        have e42 : a.tmps[42]? = some (m4_) := by rw [ha]; exact putSel_on (e := (4, 42, m4_)) 2 rfl rfl (hon 4 (by kernel_rfl)) rfl
        rw [Q_X4_ (hon 4 (by kernel_rfl))] at e42
        replace ha := Aside0.mk ha; have a3 := Aside0.mk Q_HO356; have HB := Aside0.mk Q_HB; have ak := Aside0.mk (Q_HO381 (hon 1 (by kernel_rfl))); have HA_HO381 := Aside0.mk (Q_HA_HO381 (hon 1 (by kernel_rfl))); have a1 := Aside0.mk (Q_HI353_e3 (hon 3 (by kernel_rfl))); obtain ⟨c_, hv_⟩ := HA_HO381.out; have hF_ := ak.out
        rw [hv_] at hF_
        obtain ⟨ad_, ea_, hx_⟩ := Kd.at_int (Kd.R_reads' hF_).2.2 a7 (of_eq_true pi384) (of_eq_true qi384)
        cases ea_
        refine value_ (w1 := w') (v := .int .i64 (rd a4 a7)) (by rfl) rfl ?_ ?_
        ·go_simp; (try simp only [i64_w])
         try rfl
        refine hK.out _ _ ⟨aa, adz_v380, m4_, (by rw [ha.out]; exact putSel_upk 3 hb_ rfl rfl rfl), Q_HO356, fun h0_ => absurd ((hon 3 (by kernel_rfl)).symm.trans h0_) (by decide), Q_HB, Q_HO381, Q_HA_HO381, Q_HI353_e3, Q_X4_⟩
       refine steps_cons ?_ ?_
       ·rintro b a w' ⟨aa, adz_v380, m4_, ha, Q_HO356, Q_HI353, Q_HB, Q_HO381, Q_HA_HO381, Q_HI353_e3, Q_X4_⟩ hb_ hon hoff; refine ⟨_, rfl, fun K hK => ?_⟩
        have e38 : a.tmps[38]? = some (ai) := by rw [ha]; exact (putSel_off rfl).trans rfl
        replace ha := Aside0.mk ha; have a3 := Aside0.mk Q_HO356; have HB := Aside0.mk Q_HB; have a1 := Aside0.mk (Q_HI353_e3 (hon 3 (by kernel_rfl))); refine value_ (w1 := w') (v := ai) (by rfl) rfl ?_ ?_
        ·go_simp; (try simp only [i64_w])
         try rfl
        refine hK.out _ _ ⟨aa, adz_v380, m4_, (by rw [ha.out]; exact putSel_upk 4 hb_ rfl rfl rfl), Q_HO356, fun h0_ => absurd ((hon 3 (by kernel_rfl)).symm.trans h0_) (by decide), Q_HB, Q_HO381, Q_HA_HO381, Q_HI353_e3, Q_X4_⟩
       refine steps_cons ?_ ?_
       ·rintro b a w' ⟨aa, adz_v380, m4_, ha, Q_HO356, Q_HI353, Q_HB, Q_HO381, Q_HA_HO381, Q_HI353_e3, Q_X4_⟩ hb_ hon hoff; refine ⟨_, rfl, fun K hK => ?_⟩
        have e43 : a.tmps[43]? = some (.int .i64 (rd a4 a7)) := by rw [ha]; exact putSel_on (e := (5, 43, .int .i64 (rd a4 a7))) 3 rfl rfl (hon 5 (by kernel_rfl)) rfl
        replace ha := Aside0.mk ha; have a3 := Aside0.mk Q_HO356; have HB := Aside0.mk Q_HB; have ak := Aside0.mk (Q_HO381 (hon 1 (by kernel_rfl))); have HA_HO381 := Aside0.mk (Q_HA_HO381 (hon 1 (by kernel_rfl))); have a1 := Aside0.mk (Q_HI353_e3 (hon 3 (by kernel_rfl))); refine value_ (w1 := w') (v := .int .i64 (rd a4 a7)) (by rfl) rfl ?_ ?_
        ·go_simp; (try simp only [i64_w])
         try rfl
        refine hK.out _ _ ⟨aa, adz_v380, m4_, (by rw [ha.out]; exact putSel_upk 5 hb_ rfl rfl rfl), Q_HO356, fun h0_ => absurd ((hon 3 (by kernel_rfl)).symm.trans h0_) (by decide), Q_HB, Q_HO381, Q_HA_HO381, Q_HI353_e3, Q_X4_⟩
       exact steps_nil
      rintro b a w46 hall ⟨aa, adz_v380, m4_, ha, Q_HO356, Q_HI353, Q_HB, Q_HO381, Q_HA_HO381, Q_HI353_e3, Q_X4_⟩; clear HB a1 a3; have hb1_ := hall 1 (by kernel_rfl); have hb3_ := hall 3 (by kernel_rfl); have hb4_ := hall 4 (by kernel_rfl); have hb5_ := hall 5 (by kernel_rfl); have hb6_ := hall 6 (by kernel_rfl); have hb7_ := hall 7 (by kernel_rfl); subst ha; obtain rfl := Q_X4_ hb4_; simp only [putSel, hb1_, hb3_, hb4_, hb5_, hb6_, hb7_, if_true, Act.put, List.setIfInBounds_toArray, List.set_cons_zero, List.set_cons_succ]; have a3 := Aside0.mk Q_HO356; clear Q_HO356; clear Q_HI353; have HB := Aside0.mk Q_HB; clear Q_HB; have ak := Aside0.mk (Q_HO381 hb1_); clear Q_HO381; have HA_HO381 := Aside0.mk (Q_HA_HO381 hb1_); clear Q_HA_HO381; have a1 := Aside0.mk (Q_HI353_e3 hb3_); clear Q_HI353_e3; clear hall hb1_ hb3_ hb4_ hb5_ hb6_ hb7_; obtain ⟨co47, bF⟩ := HA_HO381.out; clear HA_HO381; subst bF
      try go_wp2
      go_ret2
      exact ⟨_, Ye2, kr a3.out, bq62 HB.out a1.out⟩
     ·rw [if_neg aH] at H
      exact absurd H (by simp)
    ·rw [if_neg aG] at H
     exact absurd H (by simp)
   ·rw [if_neg am] at H
    have bB : (a8 == 2) = false := beq_eq_false_iff_ne.mpr am; have bC : (a8 != 2) = true := bne_iff_ne.mpr am; replace H := Option.bind_eq_some_iff.mp H; obtain ⟨⟨b4, bG⟩, b5, H⟩ := H; replace H : (some (a6, b4)) = some (r1, r2) := H; have A48 := Aside0.mk b5; clear b5; simp only [Option.some.injEq, Prod.mk.injEq] at H; obtain ⟨rfl, rfl⟩ := H
    go_enter Try.func10, Try.ntmps10
    go_wp2_with (first | ((with_reducible refine gc 14 rfl ?_); refine gl (some 8) _ (#[.slice A0 l0.length c0]) Try.func14 ?_; (with_reducible refine (spec_l1Open.calls _ _ l0 a2 af w _ ?side1 ?side2 ?side3 A2.out).mono ?_); (case side1 => exact bf HB.out); (case side2 => exact ax.out); (case side3 => exact ay.out); rintro e w49 ⟨g353, rfl, hi, hb, hb2⟩; refine ⟨_, rfl, ?_⟩; refine Ya2 (hb) (hi) ?_; clear HB; intro HB a1; (try clear hb); (try clear hb2); (try clear hk); (try clear hi)) | ((with_reducible refine gc 16 rfl ?_); refine gl (some 10) _ (#[.pointer (some ⟨g353, 0, none⟩)]) Try.func16 ?_; (with_reducible refine (spec_l3Payloads.calls k g353 a2 af a6 ag w _ ?side1 ?side2 A3.out).mono ?_); (case side1 => exact iq62 a1.out); (case side2 => exact bq62 HB.out a1.out); rintro e w50 ⟨ai, rfl, ho0, hi, hb, hk⟩; refine ⟨_, rfl, ?_⟩; refine Ya3 (Kd.R_lower ho0 (below_size (bq62 HB.out a1.out))) (hb) (hi) ?_; clear HB a1; intro a3 HB a1; (try clear hb); (try clear hb2); (try clear hk); (try clear hi); (try clear ho0)) | ((with_reducible refine gc 17 rfl ?_); refine gl (some 12) _ (#[.pointer (some ⟨g353, 0, none⟩), .int .i64 16]) Try.func17 ?_; (with_reducible refine (spec_l1Rd_pick.calls k g353 a2 ag 16 a8 a9 w _ ?side1 ?side2 A4.out).mono ?_); (case side1 => exact iq62 a1.out); (case side2 => exact bq62 HB.out a1.out); rintro e w51 ⟨rfl, hi, hb, hk⟩; refine ⟨_, rfl, ?_⟩; refine Ya3 (ra62 (iq62 a1.out) (kr a3.out) hk) (hb) (hi) ?_; clear a3 HB a1; intro a3 HB a1; (try clear hb); (try clear hb2); (try clear hk); (try clear hi)) | ((with_reducible refine gc 27 rfl ?_); refine gl (some 46) _ (#[.pointer (some ⟨g353, 0, none⟩)]) Try.func27 ?_; (with_reducible refine (spec_l1Width.calls k g353 a2 a9 b4 bG w _ ?side1 ?side2 A48.out).mono ?_); (case side1 => exact iq62 a1.out); (case side2 => exact bq62 HB.out a1.out); rintro e w52 ⟨rfl, hi, hb, hk⟩; refine ⟨_, rfl, ?_⟩; refine Ya3 (ra62 (iq62 a1.out) (kr a3.out) hk) (hb) (hi) ?_; clear a3 HB a1; intro a3 HB a1; (try clear hb); (try clear hb2); (try clear hk); (try clear hi)))
    go_ret2
    exact ⟨_, Ye2, kr a3.out, bq62 HB.out a1.out⟩

end Go.Proofs.Ytknagppkeodggaa.P


namespace Go.Proofs.Ytknagppkeodggaa.P
open Go.RowKit Go.Proofs.YtknagppkeodggaaW.PrintWords Go.Proofs.YtknagppkeodggaaW.PrintLast Go.Proofs.YtknagppkeodggaaW.PrintMore
attribute [local go_sem] max2_int min2_int max_two min_two max_three min_three max_four min_four
set_option linter.unusedVariables false
set_option linter.unusedSimpArgs false

/-! ### spec_l1Bend: function 18 -/
def spec_l1Bend.f (k : Nat) (s0_0 : List Int) (s0_1 : Int) (a1 : ByteArray) : Option (ByteArray × Int) := (spec_l1Rd_pick.f k s0_0 s0_1 256).bind fun bt191 => ((spec_l1Rd_pick.f k s0_0 bt191.2 5).bind fun bt193 => (if bt193.1 = 0 then (if 0 ≤ (wrap64 (Int.tdiv (wrap64 (bt191.1 * (wrap64 ((a1.size : Int) + 1)))) 256)) then (if (wrap64 (Int.tdiv (wrap64 (bt191.1 * (wrap64 ((a1.size : Int) + 1)))) 256)) ≤ (a1.size : Int) then (some (a1.extract 0 ((wrap64 (Int.tdiv (wrap64 (bt191.1 * (wrap64 ((a1.size : Int) + 1)))) 256)) : Int).toNat, bt193.2)) else (none)) else (none)) else (if bt193.1 = 1 then (if 0 ≤ (wrap64 (Int.tdiv (wrap64 (bt191.1 * (wrap64 ((a1.size : Int) + 1)))) 256)) then (if (wrap64 (Int.tdiv (wrap64 (bt191.1 * (wrap64 ((a1.size : Int) + 1)))) 256)) ≤ (a1.size : Int) then ((some (([(⟨#[32]⟩ : ByteArray), (⟨#[10]⟩ : ByteArray), (⟨#[34]⟩ : ByteArray), (⟨#[92]⟩ : ByteArray), (⟨#[48]⟩ : ByteArray), (⟨#[120]⟩ : ByteArray), (⟨#[47]⟩ : ByteArray), (⟨#[0]⟩ : ByteArray), (⟨#[128]⟩ : ByteArray), (⟨#[42]⟩ : ByteArray)] : List ByteArray) : List ByteArray)).bind fun a7 => ((spec_l1Rd_pick.f k s0_0 bt193.2 10).bind fun bt198 => (if 0 ≤ bt198.1 then (if bt198.1 < (a7.length : Int) then (if (a1.extract 0 ((wrap64 (Int.tdiv (wrap64 (bt191.1 * (wrap64 ((a1.size : Int) + 1)))) 256)) : Int).toNat).size + (rdOf ByteArray.empty a7 bt198.1).size ≤ 9223372036854775807 then (if ((a1.extract 0 ((wrap64 (Int.tdiv (wrap64 (bt191.1 * (wrap64 ((a1.size : Int) + 1)))) 256)) : Int).toNat) ++ (rdOf ByteArray.empty a7 bt198.1)).size + (a1.extract ((wrap64 (Int.tdiv (wrap64 (bt191.1 * (wrap64 ((a1.size : Int) + 1)))) 256)) : Int).toNat a1.size).size ≤ 9223372036854775807 then (some (((a1.extract 0 ((wrap64 (Int.tdiv (wrap64 (bt191.1 * (wrap64 ((a1.size : Int) + 1)))) 256)) : Int).toNat) ++ (rdOf ByteArray.empty a7 bt198.1)) ++ (a1.extract ((wrap64 (Int.tdiv (wrap64 (bt191.1 * (wrap64 ((a1.size : Int) + 1)))) 256)) : Int).toNat a1.size), bt198.2)) else (none)) else (none)) else (none)) else (none)))) else (none)) else (none)) else (if bt193.1 = 2 then (if (wrap64 (Int.tdiv (wrap64 (bt191.1 * (wrap64 ((a1.size : Int) + 1)))) 256)) < (a1.size : Int) then (if 0 ≤ (wrap64 (Int.tdiv (wrap64 (bt191.1 * (wrap64 ((a1.size : Int) + 1)))) 256)) then (if (wrap64 (Int.tdiv (wrap64 (bt191.1 * (wrap64 ((a1.size : Int) + 1)))) 256)) ≤ (a1.size : Int) then (if 0 ≤ (wrap64 ((wrap64 (Int.tdiv (wrap64 (bt191.1 * (wrap64 ((a1.size : Int) + 1)))) 256)) + 1)) then (if (wrap64 ((wrap64 (Int.tdiv (wrap64 (bt191.1 * (wrap64 ((a1.size : Int) + 1)))) 256)) + 1)) ≤ (a1.size : Int) then (if (a1.extract 0 ((wrap64 (Int.tdiv (wrap64 (bt191.1 * (wrap64 ((a1.size : Int) + 1)))) 256)) : Int).toNat).size + (a1.extract ((wrap64 ((wrap64 (Int.tdiv (wrap64 (bt191.1 * (wrap64 ((a1.size : Int) + 1)))) 256)) + 1)) : Int).toNat a1.size).size ≤ 9223372036854775807 then (some ((a1.extract 0 ((wrap64 (Int.tdiv (wrap64 (bt191.1 * (wrap64 ((a1.size : Int) + 1)))) 256)) : Int).toNat) ++ (a1.extract ((wrap64 ((wrap64 (Int.tdiv (wrap64 (bt191.1 * (wrap64 ((a1.size : Int) + 1)))) 256)) + 1)) : Int).toNat a1.size), bt193.2)) else (none)) else (none)) else (none)) else (none)) else (none)) else (if 0 ≤ (wrap64 (Int.tdiv (wrap64 (bt191.1 * (wrap64 ((a1.size : Int) + 1)))) 256)) then (if (wrap64 (Int.tdiv (wrap64 (bt191.1 * (wrap64 ((a1.size : Int) + 1)))) 256)) ≤ (a1.size : Int) then (if a1.size + (a1.extract ((wrap64 (Int.tdiv (wrap64 (bt191.1 * (wrap64 ((a1.size : Int) + 1)))) 256)) : Int).toNat a1.size).size ≤ 9223372036854775807 then (some (a1 ++ (a1.extract ((wrap64 (Int.tdiv (wrap64 (bt191.1 * (wrap64 ((a1.size : Int) + 1)))) 256)) : Int).toNat a1.size), bt193.2)) else (none)) else (none)) else (none))) else (if bt193.1 = 3 then (if (wrap64 (Int.tdiv (wrap64 (bt191.1 * (wrap64 ((a1.size : Int) + 1)))) 256)) < (a1.size : Int) then (if 0 ≤ (wrap64 (Int.tdiv (wrap64 (bt191.1 * (wrap64 ((a1.size : Int) + 1)))) 256)) then (if (wrap64 (Int.tdiv (wrap64 (bt191.1 * (wrap64 ((a1.size : Int) + 1)))) 256)) ≤ (a1.size : Int) then ((spec_l1Rd_pick.f k s0_0 bt193.2 8).bind fun bt201 => (if 0 ≤ (IntKind.u64.wrap (bt201.1)) then ((some (([(Go.bits .xor .i64 (wrap64 (bt a1 (wrap64 (Int.tdiv (wrap64 (bt191.1 * (wrap64 ((a1.size : Int) + 1)))) 256)))) (shl .i64 1 (IntKind.u64.wrap (bt201.1)))) % 256] : List Int) : List Int)).bind fun a8 => (if (a1.extract 0 ((wrap64 (Int.tdiv (wrap64 (bt191.1 * (wrap64 ((a1.size : Int) + 1)))) 256)) : Int).toNat).size + (strOfNums a8).size ≤ 9223372036854775807 then (if 0 ≤ (wrap64 ((wrap64 (Int.tdiv (wrap64 (bt191.1 * (wrap64 ((a1.size : Int) + 1)))) 256)) + 1)) then (if (wrap64 ((wrap64 (Int.tdiv (wrap64 (bt191.1 * (wrap64 ((a1.size : Int) + 1)))) 256)) + 1)) ≤ (a1.size : Int) then (if ((a1.extract 0 ((wrap64 (Int.tdiv (wrap64 (bt191.1 * (wrap64 ((a1.size : Int) + 1)))) 256)) : Int).toNat) ++ (strOfNums a8)).size + (a1.extract ((wrap64 ((wrap64 (Int.tdiv (wrap64 (bt191.1 * (wrap64 ((a1.size : Int) + 1)))) 256)) + 1)) : Int).toNat a1.size).size ≤ 9223372036854775807 then (some (((a1.extract 0 ((wrap64 (Int.tdiv (wrap64 (bt191.1 * (wrap64 ((a1.size : Int) + 1)))) 256)) : Int).toNat) ++ (strOfNums a8)) ++ (a1.extract ((wrap64 ((wrap64 (Int.tdiv (wrap64 (bt191.1 * (wrap64 ((a1.size : Int) + 1)))) 256)) + 1)) : Int).toNat a1.size), bt201.2)) else (none)) else (none)) else (none)) else (none))) else (none))) else (none)) else (none)) else (if 0 ≤ (wrap64 (Int.tdiv (wrap64 (bt191.1 * (wrap64 ((a1.size : Int) + 1)))) 256)) then (if (wrap64 (Int.tdiv (wrap64 (bt191.1 * (wrap64 ((a1.size : Int) + 1)))) 256)) ≤ (a1.size : Int) then (if a1.size + (a1.extract ((wrap64 (Int.tdiv (wrap64 (bt191.1 * (wrap64 ((a1.size : Int) + 1)))) 256)) : Int).toNat a1.size).size ≤ 9223372036854775807 then (some (a1 ++ (a1.extract ((wrap64 (Int.tdiv (wrap64 (bt191.1 * (wrap64 ((a1.size : Int) + 1)))) 256)) : Int).toNat a1.size), bt193.2)) else (none)) else (none)) else (none))) else (if 0 ≤ (wrap64 (Int.tdiv (wrap64 (bt191.1 * (wrap64 ((a1.size : Int) + 1)))) 256)) then (if (wrap64 (Int.tdiv (wrap64 (bt191.1 * (wrap64 ((a1.size : Int) + 1)))) 256)) ≤ (a1.size : Int) then (if a1.size + (a1.extract ((wrap64 (Int.tdiv (wrap64 (bt191.1 * (wrap64 ((a1.size : Int) + 1)))) 256)) : Int).toNat a1.size).size ≤ 9223372036854775807 then (some (a1 ++ (a1.extract ((wrap64 (Int.tdiv (wrap64 (bt191.1 * (wrap64 ((a1.size : Int) + 1)))) 256)) : Int).toNat a1.size), bt193.2)) else (none)) else (none)) else (none)))))))
theorem spec_l1Bend.mono : ∀ a0 a1 a2 k, LeO (spec_l1Bend.f k a0 a1 a2) (spec_l1Bend.f (k + 1) a0 a1 a2) := by
 intro a0 a1 a2 k
 unfold spec_l1Bend.f
 repeat' first
   | (with_reducible exact spec_l1Rd_pick.mono _ _ _ _)
   | (with_reducible exact LeO.refl _)
   | (with_reducible exact LeO.none _)
   | (with_reducible refine LeO.ite ?_ ?_)
   | (with_reducible refine LeO.bind ?_ (fun _ => ?_))
   | exact spec_l1Rd_pick.mono _ _ _ _
   | exact LeO.none _
   | refine LeO.ite ?_ ?_
   | refine LeO.bind ?_ (fun _ => ?_)
def spec_l1Bend.T6 : Bool × List (List Nat × List Nat) := (true, [([], []), ([], []), ([0, 1], [0, 1]), ([], []), ([], []), ([4], [4]), ([3, 5], [3, 5]), ([6], [6]), ([2, 7], [2, 7]), ([], []), ([], []), ([9, 10], [9, 10]), ([8, 11], [8, 11]), ([12, 5, 0, 1, 2, 3, 4, 5, 6, 7, 8, 9, 10, 11, 12], [12])])
def spec_l1Bend.B6 : List Nat := [0, 0, 3, 0, 0, 16, 56, 120, 255, 0, 0, 1536, 4095, 8191]
theorem spec_l1Bend.tab6 : rtab .any (opsOf Try.f18 6) = spec_l1Bend.T6 := by kernel_rfl
theorem spec_l1Bend.bits6 : waitsOk spec_l1Bend.T6.2 spec_l1Bend.B6 = true := by kernel_rfl
def spec_l1Bend.T9 : Bool × List (List Nat × List Nat) := (true, [([], []), ([], []), ([0, 1], [0, 1]), ([], []), ([], []), ([4], [4]), ([3, 5], [3, 5]), ([2, 6], [2, 6]), ([7, 0, 1, 2, 3, 4, 5, 6, 7], [7])])
def spec_l1Bend.B9 : List Nat := [0, 0, 3, 0, 0, 16, 56, 127, 255]
theorem spec_l1Bend.tab9 : rtab .any (opsOf Try.f18 9) = spec_l1Bend.T9 := by kernel_rfl
theorem spec_l1Bend.bits9 : waitsOk spec_l1Bend.T9.2 spec_l1Bend.B9 = true := by kernel_rfl
def spec_l1Bend.T12 : Bool × List (List Nat × List Nat) := (true, [([], []), ([], []), ([0, 1], [0, 1]), ([], []), ([], []), ([3, 4], [3, 4]), ([5], [5]), ([], []), ([7], [7]), ([8], [8]), ([9], [9]), ([6, 10], [6, 10]), ([11], [11]), ([12], [12]), ([13], [13]), ([2, 14], [2, 14]), ([], []), ([], []), ([17], [17]), ([16, 18], [16, 18]), ([15, 19], [15, 19]), ([20, 8, 0, 1, 2, 3, 4, 5, 6, 7, 8, 9, 10, 11, 12, 13, 14, 15, 16, 17, 18, 19, 20], [20])])
def spec_l1Bend.B12 : List Nat := [0, 0, 3, 0, 0, 24, 56, 0, 128, 384, 896, 2040, 4088, 8184, 16376, 32767, 0, 0, 131072, 458752, 1048575, 2097151]
theorem spec_l1Bend.tab12 : rtab .any (opsOf Try.f18 12) = spec_l1Bend.T12 := by kernel_rfl
theorem spec_l1Bend.bits12 : waitsOk spec_l1Bend.T12.2 spec_l1Bend.B12 = true := by kernel_rfl
set_option maxHeartbeats 8000000 in
set_option maxRecDepth 100000 in
theorem spec_l1Bend.calls (k : Nat) (g : Nat) (s0_0 : List Int) (s0_1 : Int) (a1 : ByteArray) (r1 : ByteArray) (r2 : Int) (w0 w : World) (hI : IsS62 w0 w g s0_0 s0_1) (hB : Below w0.heap.size w0 w) (h : spec_l1Bend.f k s0_0 s0_1 a1 = some (r1, r2)) :
  Calls Try.prog 18 #[.pointer (some ⟨g, 0, none⟩), .string a1] w fun e w' => e = .returned (.string r1) ∧ IsS62 w0 w' g s0_0 r2 ∧ Below w0.heap.size w0 w' ∧ KeepBut w w' g none := by
 have a4 := Aside0.mk hI; have HK := Aside0.mk (KeepBut.refl w g none); have HL := Aside0.mk hB.size; clear hI; have HW0 := Aside0.mk hB.size; have HB := Aside0.mk hB; clear hB
 have H : ((spec_l1Rd_pick.f k s0_0 s0_1 256).bind fun bt191 => ((spec_l1Rd_pick.f k s0_0 bt191.2 5).bind fun bt193 => (if bt193.1 = 0 then (if 0 ≤ (wrap64 (Int.tdiv (wrap64 (bt191.1 * (wrap64 ((a1.size : Int) + 1)))) 256)) then (if (wrap64 (Int.tdiv (wrap64 (bt191.1 * (wrap64 ((a1.size : Int) + 1)))) 256)) ≤ (a1.size : Int) then (some (a1.extract 0 ((wrap64 (Int.tdiv (wrap64 (bt191.1 * (wrap64 ((a1.size : Int) + 1)))) 256)) : Int).toNat, bt193.2)) else (none)) else (none)) else (if bt193.1 = 1 then (if 0 ≤ (wrap64 (Int.tdiv (wrap64 (bt191.1 * (wrap64 ((a1.size : Int) + 1)))) 256)) then (if (wrap64 (Int.tdiv (wrap64 (bt191.1 * (wrap64 ((a1.size : Int) + 1)))) 256)) ≤ (a1.size : Int) then ((some (([(⟨#[32]⟩ : ByteArray), (⟨#[10]⟩ : ByteArray), (⟨#[34]⟩ : ByteArray), (⟨#[92]⟩ : ByteArray), (⟨#[48]⟩ : ByteArray), (⟨#[120]⟩ : ByteArray), (⟨#[47]⟩ : ByteArray), (⟨#[0]⟩ : ByteArray), (⟨#[128]⟩ : ByteArray), (⟨#[42]⟩ : ByteArray)] : List ByteArray) : List ByteArray)).bind fun a7 => ((spec_l1Rd_pick.f k s0_0 bt193.2 10).bind fun bt198 => (if 0 ≤ bt198.1 then (if bt198.1 < (a7.length : Int) then (if (a1.extract 0 ((wrap64 (Int.tdiv (wrap64 (bt191.1 * (wrap64 ((a1.size : Int) + 1)))) 256)) : Int).toNat).size + (rdOf ByteArray.empty a7 bt198.1).size ≤ 9223372036854775807 then (if ((a1.extract 0 ((wrap64 (Int.tdiv (wrap64 (bt191.1 * (wrap64 ((a1.size : Int) + 1)))) 256)) : Int).toNat) ++ (rdOf ByteArray.empty a7 bt198.1)).size + (a1.extract ((wrap64 (Int.tdiv (wrap64 (bt191.1 * (wrap64 ((a1.size : Int) + 1)))) 256)) : Int).toNat a1.size).size ≤ 9223372036854775807 then (some (((a1.extract 0 ((wrap64 (Int.tdiv (wrap64 (bt191.1 * (wrap64 ((a1.size : Int) + 1)))) 256)) : Int).toNat) ++ (rdOf ByteArray.empty a7 bt198.1)) ++ (a1.extract ((wrap64 (Int.tdiv (wrap64 (bt191.1 * (wrap64 ((a1.size : Int) + 1)))) 256)) : Int).toNat a1.size), bt198.2)) else (none)) else (none)) else (none)) else (none)))) else (none)) else (none)) else (if bt193.1 = 2 then (if (wrap64 (Int.tdiv (wrap64 (bt191.1 * (wrap64 ((a1.size : Int) + 1)))) 256)) < (a1.size : Int) then (if 0 ≤ (wrap64 (Int.tdiv (wrap64 (bt191.1 * (wrap64 ((a1.size : Int) + 1)))) 256)) then (if (wrap64 (Int.tdiv (wrap64 (bt191.1 * (wrap64 ((a1.size : Int) + 1)))) 256)) ≤ (a1.size : Int) then (if 0 ≤ (wrap64 ((wrap64 (Int.tdiv (wrap64 (bt191.1 * (wrap64 ((a1.size : Int) + 1)))) 256)) + 1)) then (if (wrap64 ((wrap64 (Int.tdiv (wrap64 (bt191.1 * (wrap64 ((a1.size : Int) + 1)))) 256)) + 1)) ≤ (a1.size : Int) then (if (a1.extract 0 ((wrap64 (Int.tdiv (wrap64 (bt191.1 * (wrap64 ((a1.size : Int) + 1)))) 256)) : Int).toNat).size + (a1.extract ((wrap64 ((wrap64 (Int.tdiv (wrap64 (bt191.1 * (wrap64 ((a1.size : Int) + 1)))) 256)) + 1)) : Int).toNat a1.size).size ≤ 9223372036854775807 then (some ((a1.extract 0 ((wrap64 (Int.tdiv (wrap64 (bt191.1 * (wrap64 ((a1.size : Int) + 1)))) 256)) : Int).toNat) ++ (a1.extract ((wrap64 ((wrap64 (Int.tdiv (wrap64 (bt191.1 * (wrap64 ((a1.size : Int) + 1)))) 256)) + 1)) : Int).toNat a1.size), bt193.2)) else (none)) else (none)) else (none)) else (none)) else (none)) else (if 0 ≤ (wrap64 (Int.tdiv (wrap64 (bt191.1 * (wrap64 ((a1.size : Int) + 1)))) 256)) then (if (wrap64 (Int.tdiv (wrap64 (bt191.1 * (wrap64 ((a1.size : Int) + 1)))) 256)) ≤ (a1.size : Int) then (if a1.size + (a1.extract ((wrap64 (Int.tdiv (wrap64 (bt191.1 * (wrap64 ((a1.size : Int) + 1)))) 256)) : Int).toNat a1.size).size ≤ 9223372036854775807 then (some (a1 ++ (a1.extract ((wrap64 (Int.tdiv (wrap64 (bt191.1 * (wrap64 ((a1.size : Int) + 1)))) 256)) : Int).toNat a1.size), bt193.2)) else (none)) else (none)) else (none))) else (if bt193.1 = 3 then (if (wrap64 (Int.tdiv (wrap64 (bt191.1 * (wrap64 ((a1.size : Int) + 1)))) 256)) < (a1.size : Int) then (if 0 ≤ (wrap64 (Int.tdiv (wrap64 (bt191.1 * (wrap64 ((a1.size : Int) + 1)))) 256)) then (if (wrap64 (Int.tdiv (wrap64 (bt191.1 * (wrap64 ((a1.size : Int) + 1)))) 256)) ≤ (a1.size : Int) then ((spec_l1Rd_pick.f k s0_0 bt193.2 8).bind fun bt201 => (if 0 ≤ (IntKind.u64.wrap (bt201.1)) then ((some (([(Go.bits .xor .i64 (wrap64 (bt a1 (wrap64 (Int.tdiv (wrap64 (bt191.1 * (wrap64 ((a1.size : Int) + 1)))) 256)))) (shl .i64 1 (IntKind.u64.wrap (bt201.1)))) % 256] : List Int) : List Int)).bind fun a8 => (if (a1.extract 0 ((wrap64 (Int.tdiv (wrap64 (bt191.1 * (wrap64 ((a1.size : Int) + 1)))) 256)) : Int).toNat).size + (strOfNums a8).size ≤ 9223372036854775807 then (if 0 ≤ (wrap64 ((wrap64 (Int.tdiv (wrap64 (bt191.1 * (wrap64 ((a1.size : Int) + 1)))) 256)) + 1)) then (if (wrap64 ((wrap64 (Int.tdiv (wrap64 (bt191.1 * (wrap64 ((a1.size : Int) + 1)))) 256)) + 1)) ≤ (a1.size : Int) then (if ((a1.extract 0 ((wrap64 (Int.tdiv (wrap64 (bt191.1 * (wrap64 ((a1.size : Int) + 1)))) 256)) : Int).toNat) ++ (strOfNums a8)).size + (a1.extract ((wrap64 ((wrap64 (Int.tdiv (wrap64 (bt191.1 * (wrap64 ((a1.size : Int) + 1)))) 256)) + 1)) : Int).toNat a1.size).size ≤ 9223372036854775807 then (some (((a1.extract 0 ((wrap64 (Int.tdiv (wrap64 (bt191.1 * (wrap64 ((a1.size : Int) + 1)))) 256)) : Int).toNat) ++ (strOfNums a8)) ++ (a1.extract ((wrap64 ((wrap64 (Int.tdiv (wrap64 (bt191.1 * (wrap64 ((a1.size : Int) + 1)))) 256)) + 1)) : Int).toNat a1.size), bt201.2)) else (none)) else (none)) else (none)) else (none))) else (none))) else (none)) else (none)) else (if 0 ≤ (wrap64 (Int.tdiv (wrap64 (bt191.1 * (wrap64 ((a1.size : Int) + 1)))) 256)) then (if (wrap64 (Int.tdiv (wrap64 (bt191.1 * (wrap64 ((a1.size : Int) + 1)))) 256)) ≤ (a1.size : Int) then (if a1.size + (a1.extract ((wrap64 (Int.tdiv (wrap64 (bt191.1 * (wrap64 ((a1.size : Int) + 1)))) 256)) : Int).toNat a1.size).size ≤ 9223372036854775807 then (some (a1 ++ (a1.extract ((wrap64 (Int.tdiv (wrap64 (bt191.1 * (wrap64 ((a1.size : Int) + 1)))) 256)) : Int).toNat a1.size), bt193.2)) else (none)) else (none)) else (none))) else (if 0 ≤ (wrap64 (Int.tdiv (wrap64 (bt191.1 * (wrap64 ((a1.size : Int) + 1)))) 256)) then (if (wrap64 (Int.tdiv (wrap64 (bt191.1 * (wrap64 ((a1.size : Int) + 1)))) 256)) ≤ (a1.size : Int) then (if a1.size + (a1.extract ((wrap64 (Int.tdiv (wrap64 (bt191.1 * (wrap64 ((a1.size : Int) + 1)))) 256)) : Int).toNat a1.size).size ≤ 9223372036854775807 then (some (a1 ++ (a1.extract ((wrap64 (Int.tdiv (wrap64 (bt191.1 * (wrap64 ((a1.size : Int) + 1)))) 256)) : Int).toNat a1.size), bt193.2)) else (none)) else (none)) else (none)))))))) = some (r1, r2) := h
 clear h; replace H := Option.bind_eq_some_iff.mp H; obtain ⟨⟨a3, ae⟩, A30, H⟩ := H
 replace H : ((spec_l1Rd_pick.f k s0_0 ae 5).bind fun bt193 => (if bt193.1 = 0 then (if 0 ≤ (wrap64 (Int.tdiv (wrap64 (a3 * (wrap64 ((a1.size : Int) + 1)))) 256)) then (if (wrap64 (Int.tdiv (wrap64 (a3 * (wrap64 ((a1.size : Int) + 1)))) 256)) ≤ (a1.size : Int) then (some (a1.extract 0 ((wrap64 (Int.tdiv (wrap64 (a3 * (wrap64 ((a1.size : Int) + 1)))) 256)) : Int).toNat, bt193.2)) else (none)) else (none)) else (if bt193.1 = 1 then (if 0 ≤ (wrap64 (Int.tdiv (wrap64 (a3 * (wrap64 ((a1.size : Int) + 1)))) 256)) then (if (wrap64 (Int.tdiv (wrap64 (a3 * (wrap64 ((a1.size : Int) + 1)))) 256)) ≤ (a1.size : Int) then ((some (([(⟨#[32]⟩ : ByteArray), (⟨#[10]⟩ : ByteArray), (⟨#[34]⟩ : ByteArray), (⟨#[92]⟩ : ByteArray), (⟨#[48]⟩ : ByteArray), (⟨#[120]⟩ : ByteArray), (⟨#[47]⟩ : ByteArray), (⟨#[0]⟩ : ByteArray), (⟨#[128]⟩ : ByteArray), (⟨#[42]⟩ : ByteArray)] : List ByteArray) : List ByteArray)).bind fun a7 => ((spec_l1Rd_pick.f k s0_0 bt193.2 10).bind fun bt198 => (if 0 ≤ bt198.1 then (if bt198.1 < (a7.length : Int) then (if (a1.extract 0 ((wrap64 (Int.tdiv (wrap64 (a3 * (wrap64 ((a1.size : Int) + 1)))) 256)) : Int).toNat).size + (rdOf ByteArray.empty a7 bt198.1).size ≤ 9223372036854775807 then (if ((a1.extract 0 ((wrap64 (Int.tdiv (wrap64 (a3 * (wrap64 ((a1.size : Int) + 1)))) 256)) : Int).toNat) ++ (rdOf ByteArray.empty a7 bt198.1)).size + (a1.extract ((wrap64 (Int.tdiv (wrap64 (a3 * (wrap64 ((a1.size : Int) + 1)))) 256)) : Int).toNat a1.size).size ≤ 9223372036854775807 then (some (((a1.extract 0 ((wrap64 (Int.tdiv (wrap64 (a3 * (wrap64 ((a1.size : Int) + 1)))) 256)) : Int).toNat) ++ (rdOf ByteArray.empty a7 bt198.1)) ++ (a1.extract ((wrap64 (Int.tdiv (wrap64 (a3 * (wrap64 ((a1.size : Int) + 1)))) 256)) : Int).toNat a1.size), bt198.2)) else (none)) else (none)) else (none)) else (none)))) else (none)) else (none)) else (if bt193.1 = 2 then (if (wrap64 (Int.tdiv (wrap64 (a3 * (wrap64 ((a1.size : Int) + 1)))) 256)) < (a1.size : Int) then (if 0 ≤ (wrap64 (Int.tdiv (wrap64 (a3 * (wrap64 ((a1.size : Int) + 1)))) 256)) then (if (wrap64 (Int.tdiv (wrap64 (a3 * (wrap64 ((a1.size : Int) + 1)))) 256)) ≤ (a1.size : Int) then (if 0 ≤ (wrap64 ((wrap64 (Int.tdiv (wrap64 (a3 * (wrap64 ((a1.size : Int) + 1)))) 256)) + 1)) then (if (wrap64 ((wrap64 (Int.tdiv (wrap64 (a3 * (wrap64 ((a1.size : Int) + 1)))) 256)) + 1)) ≤ (a1.size : Int) then (if (a1.extract 0 ((wrap64 (Int.tdiv (wrap64 (a3 * (wrap64 ((a1.size : Int) + 1)))) 256)) : Int).toNat).size + (a1.extract ((wrap64 ((wrap64 (Int.tdiv (wrap64 (a3 * (wrap64 ((a1.size : Int) + 1)))) 256)) + 1)) : Int).toNat a1.size).size ≤ 9223372036854775807 then (some ((a1.extract 0 ((wrap64 (Int.tdiv (wrap64 (a3 * (wrap64 ((a1.size : Int) + 1)))) 256)) : Int).toNat) ++ (a1.extract ((wrap64 ((wrap64 (Int.tdiv (wrap64 (a3 * (wrap64 ((a1.size : Int) + 1)))) 256)) + 1)) : Int).toNat a1.size), bt193.2)) else (none)) else (none)) else (none)) else (none)) else (none)) else (if 0 ≤ (wrap64 (Int.tdiv (wrap64 (a3 * (wrap64 ((a1.size : Int) + 1)))) 256)) then (if (wrap64 (Int.tdiv (wrap64 (a3 * (wrap64 ((a1.size : Int) + 1)))) 256)) ≤ (a1.size : Int) then (if a1.size + (a1.extract ((wrap64 (Int.tdiv (wrap64 (a3 * (wrap64 ((a1.size : Int) + 1)))) 256)) : Int).toNat a1.size).size ≤ 9223372036854775807 then (some (a1 ++ (a1.extract ((wrap64 (Int.tdiv (wrap64 (a3 * (wrap64 ((a1.size : Int) + 1)))) 256)) : Int).toNat a1.size), bt193.2)) else (none)) else (none)) else (none))) else (if bt193.1 = 3 then (if (wrap64 (Int.tdiv (wrap64 (a3 * (wrap64 ((a1.size : Int) + 1)))) 256)) < (a1.size : Int) then (if 0 ≤ (wrap64 (Int.tdiv (wrap64 (a3 * (wrap64 ((a1.size : Int) + 1)))) 256)) then (if (wrap64 (Int.tdiv (wrap64 (a3 * (wrap64 ((a1.size : Int) + 1)))) 256)) ≤ (a1.size : Int) then ((spec_l1Rd_pick.f k s0_0 bt193.2 8).bind fun bt201 => (if 0 ≤ (IntKind.u64.wrap (bt201.1)) then ((some (([(Go.bits .xor .i64 (wrap64 (bt a1 (wrap64 (Int.tdiv (wrap64 (a3 * (wrap64 ((a1.size : Int) + 1)))) 256)))) (shl .i64 1 (IntKind.u64.wrap (bt201.1)))) % 256] : List Int) : List Int)).bind fun a8 => (if (a1.extract 0 ((wrap64 (Int.tdiv (wrap64 (a3 * (wrap64 ((a1.size : Int) + 1)))) 256)) : Int).toNat).size + (strOfNums a8).size ≤ 9223372036854775807 then (if 0 ≤ (wrap64 ((wrap64 (Int.tdiv (wrap64 (a3 * (wrap64 ((a1.size : Int) + 1)))) 256)) + 1)) then (if (wrap64 ((wrap64 (Int.tdiv (wrap64 (a3 * (wrap64 ((a1.size : Int) + 1)))) 256)) + 1)) ≤ (a1.size : Int) then (if ((a1.extract 0 ((wrap64 (Int.tdiv (wrap64 (a3 * (wrap64 ((a1.size : Int) + 1)))) 256)) : Int).toNat) ++ (strOfNums a8)).size + (a1.extract ((wrap64 ((wrap64 (Int.tdiv (wrap64 (a3 * (wrap64 ((a1.size : Int) + 1)))) 256)) + 1)) : Int).toNat a1.size).size ≤ 9223372036854775807 then (some (((a1.extract 0 ((wrap64 (Int.tdiv (wrap64 (a3 * (wrap64 ((a1.size : Int) + 1)))) 256)) : Int).toNat) ++ (strOfNums a8)) ++ (a1.extract ((wrap64 ((wrap64 (Int.tdiv (wrap64 (a3 * (wrap64 ((a1.size : Int) + 1)))) 256)) + 1)) : Int).toNat a1.size), bt201.2)) else (none)) else (none)) else (none)) else (none))) else (none))) else (none)) else (none)) else (if 0 ≤ (wrap64 (Int.tdiv (wrap64 (a3 * (wrap64 ((a1.size : Int) + 1)))) 256)) then (if (wrap64 (Int.tdiv (wrap64 (a3 * (wrap64 ((a1.size : Int) + 1)))) 256)) ≤ (a1.size : Int) then (if a1.size + (a1.extract ((wrap64 (Int.tdiv (wrap64 (a3 * (wrap64 ((a1.size : Int) + 1)))) 256)) : Int).toNat a1.size).size ≤ 9223372036854775807 then (some (a1 ++ (a1.extract ((wrap64 (Int.tdiv (wrap64 (a3 * (wrap64 ((a1.size : Int) + 1)))) 256)) : Int).toNat a1.size), bt193.2)) else (none)) else (none)) else (none))) else (if 0 ≤ (wrap64 (Int.tdiv (wrap64 (a3 * (wrap64 ((a1.size : Int) + 1)))) 256)) then (if (wrap64 (Int.tdiv (wrap64 (a3 * (wrap64 ((a1.size : Int) + 1)))) 256)) ≤ (a1.size : Int) then (if a1.size + (a1.extract ((wrap64 (Int.tdiv (wrap64 (a3 * (wrap64 ((a1.size : Int) + 1)))) 256)) : Int).toNat a1.size).size ≤ 9223372036854775807 then (some (a1 ++ (a1.extract ((wrap64 (Int.tdiv (wrap64 (a3 * (wrap64 ((a1.size : Int) + 1)))) 256)) : Int).toNat a1.size), bt193.2)) else (none)) else (none)) else (none))))))) = some (r1, r2) := H
 have A3 := Aside0.mk A30; clear A30; replace H := Option.bind_eq_some_iff.mp H; obtain ⟨⟨aa, ab⟩, A40, H⟩ := H
 replace H : (if aa = 0 then (if 0 ≤ (wrap64 (Int.tdiv (wrap64 (a3 * (wrap64 ((a1.size : Int) + 1)))) 256)) then (if (wrap64 (Int.tdiv (wrap64 (a3 * (wrap64 ((a1.size : Int) + 1)))) 256)) ≤ (a1.size : Int) then (some (a1.extract 0 ((wrap64 (Int.tdiv (wrap64 (a3 * (wrap64 ((a1.size : Int) + 1)))) 256)) : Int).toNat, ab)) else (none)) else (none)) else (if aa = 1 then (if 0 ≤ (wrap64 (Int.tdiv (wrap64 (a3 * (wrap64 ((a1.size : Int) + 1)))) 256)) then (if (wrap64 (Int.tdiv (wrap64 (a3 * (wrap64 ((a1.size : Int) + 1)))) 256)) ≤ (a1.size : Int) then ((some (([(⟨#[32]⟩ : ByteArray), (⟨#[10]⟩ : ByteArray), (⟨#[34]⟩ : ByteArray), (⟨#[92]⟩ : ByteArray), (⟨#[48]⟩ : ByteArray), (⟨#[120]⟩ : ByteArray), (⟨#[47]⟩ : ByteArray), (⟨#[0]⟩ : ByteArray), (⟨#[128]⟩ : ByteArray), (⟨#[42]⟩ : ByteArray)] : List ByteArray) : List ByteArray)).bind fun a7 => ((spec_l1Rd_pick.f k s0_0 ab 10).bind fun bt198 => (if 0 ≤ bt198.1 then (if bt198.1 < (a7.length : Int) then (if (a1.extract 0 ((wrap64 (Int.tdiv (wrap64 (a3 * (wrap64 ((a1.size : Int) + 1)))) 256)) : Int).toNat).size + (rdOf ByteArray.empty a7 bt198.1).size ≤ 9223372036854775807 then (if ((a1.extract 0 ((wrap64 (Int.tdiv (wrap64 (a3 * (wrap64 ((a1.size : Int) + 1)))) 256)) : Int).toNat) ++ (rdOf ByteArray.empty a7 bt198.1)).size + (a1.extract ((wrap64 (Int.tdiv (wrap64 (a3 * (wrap64 ((a1.size : Int) + 1)))) 256)) : Int).toNat a1.size).size ≤ 9223372036854775807 then (some (((a1.extract 0 ((wrap64 (Int.tdiv (wrap64 (a3 * (wrap64 ((a1.size : Int) + 1)))) 256)) : Int).toNat) ++ (rdOf ByteArray.empty a7 bt198.1)) ++ (a1.extract ((wrap64 (Int.tdiv (wrap64 (a3 * (wrap64 ((a1.size : Int) + 1)))) 256)) : Int).toNat a1.size), bt198.2)) else (none)) else (none)) else (none)) else (none)))) else (none)) else (none)) else (if aa = 2 then (if (wrap64 (Int.tdiv (wrap64 (a3 * (wrap64 ((a1.size : Int) + 1)))) 256)) < (a1.size : Int) then (if 0 ≤ (wrap64 (Int.tdiv (wrap64 (a3 * (wrap64 ((a1.size : Int) + 1)))) 256)) then (if (wrap64 (Int.tdiv (wrap64 (a3 * (wrap64 ((a1.size : Int) + 1)))) 256)) ≤ (a1.size : Int) then (if 0 ≤ (wrap64 ((wrap64 (Int.tdiv (wrap64 (a3 * (wrap64 ((a1.size : Int) + 1)))) 256)) + 1)) then (if (wrap64 ((wrap64 (Int.tdiv (wrap64 (a3 * (wrap64 ((a1.size : Int) + 1)))) 256)) + 1)) ≤ (a1.size : Int) then (if (a1.extract 0 ((wrap64 (Int.tdiv (wrap64 (a3 * (wrap64 ((a1.size : Int) + 1)))) 256)) : Int).toNat).size + (a1.extract ((wrap64 ((wrap64 (Int.tdiv (wrap64 (a3 * (wrap64 ((a1.size : Int) + 1)))) 256)) + 1)) : Int).toNat a1.size).size ≤ 9223372036854775807 then (some ((a1.extract 0 ((wrap64 (Int.tdiv (wrap64 (a3 * (wrap64 ((a1.size : Int) + 1)))) 256)) : Int).toNat) ++ (a1.extract ((wrap64 ((wrap64 (Int.tdiv (wrap64 (a3 * (wrap64 ((a1.size : Int) + 1)))) 256)) + 1)) : Int).toNat a1.size), ab)) else (none)) else (none)) else (none)) else (none)) else (none)) else (if 0 ≤ (wrap64 (Int.tdiv (wrap64 (a3 * (wrap64 ((a1.size : Int) + 1)))) 256)) then (if (wrap64 (Int.tdiv (wrap64 (a3 * (wrap64 ((a1.size : Int) + 1)))) 256)) ≤ (a1.size : Int) then (if a1.size + (a1.extract ((wrap64 (Int.tdiv (wrap64 (a3 * (wrap64 ((a1.size : Int) + 1)))) 256)) : Int).toNat a1.size).size ≤ 9223372036854775807 then (some (a1 ++ (a1.extract ((wrap64 (Int.tdiv (wrap64 (a3 * (wrap64 ((a1.size : Int) + 1)))) 256)) : Int).toNat a1.size), ab)) else (none)) else (none)) else (none))) else (if aa = 3 then (if (wrap64 (Int.tdiv (wrap64 (a3 * (wrap64 ((a1.size : Int) + 1)))) 256)) < (a1.size : Int) then (if 0 ≤ (wrap64 (Int.tdiv (wrap64 (a3 * (wrap64 ((a1.size : Int) + 1)))) 256)) then (if (wrap64 (Int.tdiv (wrap64 (a3 * (wrap64 ((a1.size : Int) + 1)))) 256)) ≤ (a1.size : Int) then ((spec_l1Rd_pick.f k s0_0 ab 8).bind fun bt201 => (if 0 ≤ (IntKind.u64.wrap (bt201.1)) then ((some (([(Go.bits .xor .i64 (wrap64 (bt a1 (wrap64 (Int.tdiv (wrap64 (a3 * (wrap64 ((a1.size : Int) + 1)))) 256)))) (shl .i64 1 (IntKind.u64.wrap (bt201.1)))) % 256] : List Int) : List Int)).bind fun a8 => (if (a1.extract 0 ((wrap64 (Int.tdiv (wrap64 (a3 * (wrap64 ((a1.size : Int) + 1)))) 256)) : Int).toNat).size + (strOfNums a8).size ≤ 9223372036854775807 then (if 0 ≤ (wrap64 ((wrap64 (Int.tdiv (wrap64 (a3 * (wrap64 ((a1.size : Int) + 1)))) 256)) + 1)) then (if (wrap64 ((wrap64 (Int.tdiv (wrap64 (a3 * (wrap64 ((a1.size : Int) + 1)))) 256)) + 1)) ≤ (a1.size : Int) then (if ((a1.extract 0 ((wrap64 (Int.tdiv (wrap64 (a3 * (wrap64 ((a1.size : Int) + 1)))) 256)) : Int).toNat) ++ (strOfNums a8)).size + (a1.extract ((wrap64 ((wrap64 (Int.tdiv (wrap64 (a3 * (wrap64 ((a1.size : Int) + 1)))) 256)) + 1)) : Int).toNat a1.size).size ≤ 9223372036854775807 then (some (((a1.extract 0 ((wrap64 (Int.tdiv (wrap64 (a3 * (wrap64 ((a1.size : Int) + 1)))) 256)) : Int).toNat) ++ (strOfNums a8)) ++ (a1.extract ((wrap64 ((wrap64 (Int.tdiv (wrap64 (a3 * (wrap64 ((a1.size : Int) + 1)))) 256)) + 1)) : Int).toNat a1.size), bt201.2)) else (none)) else (none)) else (none)) else (none))) else (none))) else (none)) else (none)) else (if 0 ≤ (wrap64 (Int.tdiv (wrap64 (a3 * (wrap64 ((a1.size : Int) + 1)))) 256)) then (if (wrap64 (Int.tdiv (wrap64 (a3 * (wrap64 ((a1.size : Int) + 1)))) 256)) ≤ (a1.size : Int) then (if a1.size + (a1.extract ((wrap64 (Int.tdiv (wrap64 (a3 * (wrap64 ((a1.size : Int) + 1)))) 256)) : Int).toNat a1.size).size ≤ 9223372036854775807 then (some (a1 ++ (a1.extract ((wrap64 (Int.tdiv (wrap64 (a3 * (wrap64 ((a1.size : Int) + 1)))) 256)) : Int).toNat a1.size), ab)) else (none)) else (none)) else (none))) else (if 0 ≤ (wrap64 (Int.tdiv (wrap64 (a3 * (wrap64 ((a1.size : Int) + 1)))) 256)) then (if (wrap64 (Int.tdiv (wrap64 (a3 * (wrap64 ((a1.size : Int) + 1)))) 256)) ≤ (a1.size : Int) then (if a1.size + (a1.extract ((wrap64 (Int.tdiv (wrap64 (a3 * (wrap64 ((a1.size : Int) + 1)))) 256)) : Int).toNat a1.size).size ≤ 9223372036854775807 then (some (a1 ++ (a1.extract ((wrap64 (Int.tdiv (wrap64 (a3 * (wrap64 ((a1.size : Int) + 1)))) 256)) : Int).toNat a1.size), ab)) else (none)) else (none)) else (none)))))) = some (r1, r2) := H
 have A4 := Aside0.mk A40; clear A40
 by_cases c5 : aa = 0
 ·rw [if_pos c5] at H
  have bw : (aa == 0) = true := beq_iff_eq.mpr c5; have bz : (aa != 0) = false := bne_eq_false_iff_eq.mpr c5; clear c5
  obtain ⟨au, al⟩ : ∃ j_ : Int, (wrap64 (Int.tdiv (wrap64 (a3 * (wrap64 ((a1.size : Int) + 1)))) 256)) = j_ := ⟨_, rfl⟩
  replace H : (if 0 ≤ (au) then (if (au) ≤ (a1.size : Int) then (some (a1.extract 0 ((au) : Int).toNat, ab)) else (none)) else (none)) = some (r1, r2) := by first | (rw [al] at H; exact H) | (simp only [al] at H ⊢; exact H)
  (try rw [al] at A3); (try rw [al] at A4); have hji6w : (IntKind.i64.wrap (Int.tdiv (wrap64 (a3 * (wrap64 ((a1.size : Int) + 1)))) 256)) = au := (i64_w _).trans al
  by_cases c7 : 0 ≤ (au)
  ·rw [if_pos c7] at H
   have c7b0 := eq_true c7; have c7b1 : decide (0 ≤ (au)) = true := decide_eq_true c7; clear c7
   by_cases c8 : (au) ≤ (a1.size : Int)
   ·rw [if_pos c8] at H
    have c8b0 := eq_true c8; have c8b1 : decide ((au) ≤ (a1.size : Int)) = true := decide_eq_true c8; clear c8; simp only [Option.some.injEq, Prod.mk.injEq] at H; obtain ⟨rfl, rfl⟩ := H
    go_enter Try.func18, Try.ntmps18
    go_wp2_with (first | ((with_reducible refine gc 17 rfl ?_); refine gl (some 7) _ (#[.pointer (some ⟨g, 0, none⟩), .int .i64 256]) Try.func17 ?_; (with_reducible refine (spec_l1Rd_pick.calls k g s0_0 s0_1 256 a3 ae w0 _ ?side1 ?side2 A3.out).mono ?_); (case side1 => exact iq62 a4.out); (case side2 => exact bq62 HB.out a4.out); rintro e w9 ⟨rfl, hi, hb, hk⟩; refine ⟨_, rfl, ?_⟩; refine Ya3 (KeepBut.trans (kb HK.out) hk (.inl rfl)) (hb) (hi) ?_; clear HK HB a4; intro HK HB a4; (try clear hb); (try clear hb2); (try clear hk); (try clear hi)) | ((with_reducible refine gc 17 rfl ?_); refine gl (some 14) _ (#[.pointer (some ⟨g, 0, none⟩), .int .i64 5]) Try.func17 ?_; (with_reducible refine (spec_l1Rd_pick.calls k g s0_0 ae 5 aa ab w0 _ ?side1 ?side2 A4.out).mono ?_); (case side1 => exact iq62 a4.out); (case side2 => exact bq62 HB.out a4.out); rintro e w10 ⟨rfl, hi, hb, hk⟩; refine ⟨_, rfl, ?_⟩; refine Ya3 (KeepBut.trans (kb HK.out) hk (.inl rfl)) (hb) (hi) ?_; clear HK HB a4; intro HK HB a4; (try clear hb); (try clear hb2); (try clear hk); (try clear hi)))
    go_ret
    exact ⟨by first | rfl | (simp [errW_none, errW_some] <;> rfl) | (simp only [← al]; first | rfl | (simp [errW_none, errW_some] <;> rfl)) | (simp [*, errW_none, errW_some] <;> rfl), iq62 a4.out, bq62 HB.out a4.out, kb HK.out⟩
   ·rw [if_neg c8] at H
    exact absurd H (by simp)
  ·rw [if_neg c7] at H
   exact absurd H (by simp)
 ·rw [if_neg c5] at H
  have bw : (aa == 0) = false := beq_eq_false_iff_ne.mpr c5; have bz : (aa != 0) = true := bne_iff_ne.mpr c5
  by_cases ax : aa = 1
  ·rw [if_pos ax] at H
   have bA : (aa == 1) = true := beq_iff_eq.mpr ax; have bB : (aa != 1) = false := bne_eq_false_iff_eq.mpr ax; clear ax
   obtain ⟨a6, an⟩ : ∃ j_ : Int, (wrap64 (Int.tdiv (wrap64 (a3 * (wrap64 ((a1.size : Int) + 1)))) 256)) = j_ := ⟨_, rfl⟩
   (try clear hji6w); (try clear al)
   replace H : (if 0 ≤ (a6) then (if (a6) ≤ (a1.size : Int) then ((some (([(⟨#[32]⟩ : ByteArray), (⟨#[10]⟩ : ByteArray), (⟨#[34]⟩ : ByteArray), (⟨#[92]⟩ : ByteArray), (⟨#[48]⟩ : ByteArray), (⟨#[120]⟩ : ByteArray), (⟨#[47]⟩ : ByteArray), (⟨#[0]⟩ : ByteArray), (⟨#[128]⟩ : ByteArray), (⟨#[42]⟩ : ByteArray)] : List ByteArray) : List ByteArray)).bind fun a7 => ((spec_l1Rd_pick.f k s0_0 ab 10).bind fun bt198 => (if 0 ≤ bt198.1 then (if bt198.1 < (a7.length : Int) then (if (a1.extract 0 ((a6) : Int).toNat).size + (rdOf ByteArray.empty a7 bt198.1).size ≤ 9223372036854775807 then (if ((a1.extract 0 ((a6) : Int).toNat) ++ (rdOf ByteArray.empty a7 bt198.1)).size + (a1.extract ((a6) : Int).toNat a1.size).size ≤ 9223372036854775807 then (some (((a1.extract 0 ((a6) : Int).toNat) ++ (rdOf ByteArray.empty a7 bt198.1)) ++ (a1.extract ((a6) : Int).toNat a1.size), bt198.2)) else (none)) else (none)) else (none)) else (none)))) else (none)) else (none)) = some (r1, r2) := by first | (rw [an] at H; exact H) | (simp only [an] at H ⊢; exact H)
   (try rw [an] at A3); (try rw [an] at A4); have hji12w : (IntKind.i64.wrap (Int.tdiv (wrap64 (a3 * (wrap64 ((a1.size : Int) + 1)))) 256)) = a6 := (i64_w _).trans an
   by_cases aP : 0 ≤ (a6)
   ·rw [if_pos aP] at H
    have c13b0 := eq_true aP; have c13b1 : decide (0 ≤ (a6)) = true := decide_eq_true aP; clear aP
    by_cases aQ : (a6) ≤ (a1.size : Int)
    ·rw [if_pos aQ] at H
     have c14b0 := eq_true aQ; have c14b1 : decide ((a6) ≤ (a1.size : Int)) = true := decide_eq_true aQ; clear aQ
     obtain ⟨a7, aR⟩ : ∃ y_ : List ByteArray, y_ = (([(⟨#[32]⟩ : ByteArray), (⟨#[10]⟩ : ByteArray), (⟨#[34]⟩ : ByteArray), (⟨#[92]⟩ : ByteArray), (⟨#[48]⟩ : ByteArray), (⟨#[120]⟩ : ByteArray), (⟨#[47]⟩ : ByteArray), (⟨#[0]⟩ : ByteArray), (⟨#[128]⟩ : ByteArray), (⟨#[42]⟩ : ByteArray)] : List ByteArray)) := ⟨_, rfl⟩
     replace H : ((spec_l1Rd_pick.f k s0_0 ab 10).bind fun bt198 => (if 0 ≤ bt198.1 then (if bt198.1 < (a7.length : Int) then (if (a1.extract 0 ((a6) : Int).toNat).size + (rdOf ByteArray.empty a7 bt198.1).size ≤ 9223372036854775807 then (if ((a1.extract 0 ((a6) : Int).toNat) ++ (rdOf ByteArray.empty a7 bt198.1)).size + (a1.extract ((a6) : Int).toNat a1.size).size ≤ 9223372036854775807 then (some (((a1.extract 0 ((a6) : Int).toNat) ++ (rdOf ByteArray.empty a7 bt198.1)) ++ (a1.extract ((a6) : Int).toNat a1.size), bt198.2)) else (none)) else (none)) else (none)) else (none))) = some (r1, r2) := by first | (rw [aR]; with_reducible exact H) | (have H2_ := (Option.bind_some _ _).symm.trans H; rw [aR]; with_reducible exact H2_) | (have H2_ := (Option.bind_some _ _).symm.trans H; with_reducible exact H2_) | with_reducible exact H | (rw [aR]; exact H) | exact H
     have bm := Aside0.mk aR; clear aR; replace H := Option.bind_eq_some_iff.mp H; obtain ⟨⟨a9, ba⟩, bq, H⟩ := H; replace H : (if 0 ≤ a9 then (if a9 < (a7.length : Int) then (if (a1.extract 0 ((a6) : Int).toNat).size + (rdOf ByteArray.empty a7 a9).size ≤ 9223372036854775807 then (if ((a1.extract 0 ((a6) : Int).toNat) ++ (rdOf ByteArray.empty a7 a9)).size + (a1.extract ((a6) : Int).toNat a1.size).size ≤ 9223372036854775807 then (some (((a1.extract 0 ((a6) : Int).toNat) ++ (rdOf ByteArray.empty a7 a9)) ++ (a1.extract ((a6) : Int).toNat a1.size), ba)) else (none)) else (none)) else (none)) else (none)) = some (r1, r2) := H; have A15 := Aside0.mk bq; clear bq
     by_cases bd : 0 ≤ a9
     ·rw [if_pos bd] at H
      have c16b0 : decide (0 ≤ a9) = true := decide_eq_true bd; clear bd
      by_cases bg : a9 < (a7.length : Int)
      ·rw [if_pos bg] at H
       have c17b0 : decide (a9 < (a7.length : Int)) = true := decide_eq_true bg; clear bg
       by_cases aD : (a1.extract 0 ((a6) : Int).toNat).size + (rdOf ByteArray.empty a7 a9).size ≤ 9223372036854775807
       ·rw [if_pos aD] at H
        try have c18n : ((a6) : Int).toNat + (rdOf ByteArray.empty a7 a9).size ≤ 9223372036854775807 := (by have h_ := aD; have g0_ : (a6) ≤ (a1.size : Int) := (by first | assumption | exact of_eq_true (by assumption) | exact of_decide_eq_true (by assumption)); (try simp only [ByteArray.size_append] at h_); (try simp only [ByteArray.size_extract] at h_); omega)
        try have c18p := eq_true c18n
        try have c18q := decide_eq_true c18n
        try have c18r := eq_false (Nat.not_lt.2 c18n)
        (try clear c18n); have c18b0 := eq_true aD; have c18b1 : decide ((a1.extract 0 ((a6) : Int).toNat).size + (rdOf ByteArray.empty a7 a9).size ≤ 9223372036854775807) = true := decide_eq_true aD
        try have c18b2 : (9223372036854775807 < (a1.extract 0 ((a6) : Int).toNat).size + (rdOf ByteArray.empty a7 a9).size) = False := eq_false (Nat.not_lt.2 aD)
        have c19b0 := eq_true (oda : 0 ≤ (a6)); have c20b0 := eq_true (oda : (a6) ≤ (a1.size : Int))
        by_cases ay : ((a1.extract 0 ((a6) : Int).toNat) ++ (rdOf ByteArray.empty a7 a9)).size + (a1.extract ((a6) : Int).toNat a1.size).size ≤ 9223372036854775807
        ·rw [if_pos ay] at H
         try have c21n : ((a6) : Int).toNat + (rdOf ByteArray.empty a7 a9).size + (a1.size - ((a6) : Int).toNat) ≤ 9223372036854775807 := (by have h_ := ay; have g0_ : (a6) ≤ (a1.size : Int) := (by first | assumption | exact of_eq_true (by assumption) | exact of_decide_eq_true (by assumption)); (try simp only [ByteArray.size_append] at h_); (try simp only [ByteArray.size_extract] at h_); omega)
         try have c21p := eq_true c21n
         try have c21q := decide_eq_true c21n
         try have c21r := eq_false (Nat.not_lt.2 c21n)
         (try clear c21n)
         try have c21n : (a1.extract 0 ((a6) : Int).toNat).size + (rdOf ByteArray.empty a7 a9).size + (a1.extract ((a6) : Int).toNat a1.size).size ≤ 9223372036854775807 := (by have h_ := ay; (try simp only [ByteArray.size_append] at h_); (try simp only [ByteArray.size_extract] at h_); (try omega); (try simpa using h_))
         try have c21m := eq_true c21n
         try have c21d := decide_eq_true c21n
         try have c21l := eq_false (Nat.not_lt.2 c21n)
         (try clear c21n); have c21b0 := eq_true ay; have c21b1 : decide (((a1.extract 0 ((a6) : Int).toNat) ++ (rdOf ByteArray.empty a7 a9)).size + (a1.extract ((a6) : Int).toNat a1.size).size ≤ 9223372036854775807) = true := decide_eq_true ay
         try have c21b2 : (9223372036854775807 < ((a1.extract 0 ((a6) : Int).toNat) ++ (rdOf ByteArray.empty a7 a9)).size + (a1.extract ((a6) : Int).toNat a1.size).size) = False := eq_false (Nat.not_lt.2 ay)
         simp only [Option.some.injEq, Prod.mk.injEq] at H; obtain ⟨rfl, rfl⟩ := H
         go_enter Try.func18, Try.ntmps18
         try go_wp2_with (first | ((with_reducible refine gc 17 rfl ?_); refine gl (some 7) _ (#[.pointer (some ⟨g, 0, none⟩), .int .i64 256]) Try.func17 ?_; (with_reducible refine (spec_l1Rd_pick.calls k g s0_0 s0_1 256 a3 ae w0 _ ?side1 ?side2 A3.out).mono ?_); (case side1 => exact iq62 a4.out); (case side2 => exact bq62 HB.out a4.out); rintro e w22 ⟨rfl, hi, hb, hk⟩; refine ⟨_, rfl, ?_⟩; refine Ya3 (KeepBut.trans (kb HK.out) hk (.inl rfl)) (hb) (hi) ?_; clear HK HB a4; intro HK HB a4; (try clear hb); (try clear hb2); (try clear hk); (try clear hi)) | ((with_reducible refine gc 17 rfl ?_); refine gl (some 14) _ (#[.pointer (some ⟨g, 0, none⟩), .int .i64 5]) Try.func17 ?_; (with_reducible refine (spec_l1Rd_pick.calls k g s0_0 ae 5 aa ab w0 _ ?side1 ?side2 A4.out).mono ?_); (case side1 => exact iq62 a4.out); (case side2 => exact bq62 HB.out a4.out); rintro e w23 ⟨rfl, hi, hb, hk⟩; refine ⟨_, rfl, ?_⟩; refine Ya3 (KeepBut.trans (kb HK.out) hk (.inl rfl)) (hb) (hi) ?_; clear HK HB a4; intro HK HB a4; (try clear hb); (try clear hb2); (try clear hk); (try clear hi)))
         have pi200 : (0 ≤ (a9 : Int)) = True := eq_true (oda); have qi200 : (a9 < (a7.length : Int)) = True := eq_true (oda); refine Ya3 (IsS62.drew a4.out) (keep_drew HK.out) (below_drew1 HB.out) ?_; clear a4 HK HB; intro a4 HK HB; refine start_ (n := 14) (S := fun w' => True) (ds := []) (fb 14 0) (by kernel_rfl) rfl rfl trivial (fun hHeld => ?_); refine with_tabW spec_l1Bend.tab6 spec_l1Bend.bits6 (fun HT_ HW_ => ?_); generalize w23.drew = w24 at a4 HK HB hHeld ⊢; refine pu 0 22 (fb 14 1) HT_ ?_; refine pu 1 23 (fb 14 3) HT_ ?_; refine pu 4 26 (fb 14 19) HT_ ?_; refine pu 9 31 (fb 14 531) HT_ ?_; refine pu 10 32 (fb 14 1555) HT_ ?_; refine inv_at [2, 3, 5, 6, 7, 8, 11, 12, 13] (fun a0_ b a w' => ∃ (ac : Value) (adz_v196 : Addr) (m6_ : Value), a = putSel a0_ b [(2, 24, .string (a1.extract 0 ((a6) : Int).toNat)), (3, 25, ac), (5, 27, .int .i64 a9), (6, 28, m6_), (7, 29, .string (rdOf ByteArray.empty a7 a9)), (8, 30, .string ((a1.extract 0 ((a6) : Int).toNat) ++ (rdOf ByteArray.empty a7 a9))), (11, 33, .string (a1.extract ((a6) : Int).toNat a1.size)), (12, 34, .string (((a1.extract 0 ((a6) : Int).toNat) ++ (rdOf ByteArray.empty a7 a9)) ++ (a1.extract ((a6) : Int).toNat a1.size))), (13, 4, .string (((a1.extract 0 ((a6) : Int).toNat) ++ (rdOf ByteArray.empty a7 a9)) ++ (a1.extract ((a6) : Int).toNat a1.size)))] ∧ (b 5 = false → IsS62 w0 w' g s0_0 ab) ∧ (KeepBut w w' g none) ∧ (Below w0.heap.size w0 w') ∧ (b 3 = true → Kd.R Kd.string 9 w' w.heap.size (fun _ => True) ac a7) ∧ (b 3 = true → ∃ c_, (ac : Value) = .slice (some adz_v196) a7.length c_) ∧ (b 5 = true → IsS62 w0 w' g s0_0 ba) ∧ (b 6 = true → (m6_ : Value) = .pointer (some (adz_v196.add (a9).toNat)))) HT_.out HW_.out (by kernel_rfl) (by kernel_rfl) ?_ ?_ ?_
         ·exact ⟨.bool false, ⟨0, 0, none⟩, .bool false, by simp only [putSel, Bool.false_eq_true, if_false], fun _ => a4.out, HK.out, HB.out, fun h_ => absurd h_ (by decide), fun h_ => absurd h_ (by decide), fun h_ => absurd h_ (by decide), fun h_ => absurd h_ (by decide)⟩
         ·skip
          clear HB a4 HK; refine steps_cons ?_ ?_
          ·rintro b a w' ⟨ac, adz_v196, m6_, ha, Q_HI0, Q_HK, Q_HB, Q_HO197, Q_HA_HO197, Q_HI0_e5, Q_X6_⟩ hb_ hon hoff; refine ⟨_, rfl, fun K hK => ?_⟩
           have e22 : a.tmps[22]? = some (.string a1) := by rw [ha]; exact (putSel_off rfl).trans rfl
           have e23 : a.tmps[23]? = some (.int .i64 a6) := by rw [ha]; exact (putSel_off rfl).trans rfl
           replace ha := Aside0.mk ha; have HK := Aside0.mk Q_HK; have HB := Aside0.mk Q_HB; refine value_ (w1 := w') (v := .string (a1.extract 0 ((a6) : Int).toNat)) (by rfl) rfl ?_ ?_
           ·go_simp; (try simp only [i64_w])
            try rfl
           refine hK.out _ _ ⟨ac, adz_v196, m6_, (by rw [ha.out]; exact putSel_upk 0 hb_ rfl rfl rfl), Q_HI0, Q_HK, Q_HB, Q_HO197, Q_HA_HO197, Q_HI0_e5, Q_X6_⟩
          refine steps_cons ?_ ?_
          ·rintro b a w' ⟨ac, adz_v196, m6_, ha, Q_HI0, Q_HK, Q_HB, Q_HO197, Q_HA_HO197, Q_HI0_e5, Q_X6_⟩ hb_ hon hoff; refine ⟨_, rfl, fun K hK => ?_⟩; replace ha := Aside0.mk ha; have HK := Aside0.mk Q_HK; have HB := Aside0.mk Q_HB; refine Kd.R_lit_step Kd.string _ 9 ?hg (N := 25) ?hd (xs := ([(⟨#[32]⟩ : ByteArray), (⟨#[10]⟩ : ByteArray), (⟨#[34]⟩ : ByteArray), (⟨#[92]⟩ : ByteArray), (⟨#[48]⟩ : ByteArray), (⟨#[120]⟩ : ByteArray), (⟨#[47]⟩ : ByteArray), (⟨#[0]⟩ : ByteArray), (⟨#[128]⟩ : ByteArray), (⟨#[42]⟩ : ByteArray)] : List ByteArray)) (inner := [.string (⟨#[32]⟩ : ByteArray), .string (⟨#[10]⟩ : ByteArray), .string (⟨#[34]⟩ : ByteArray), .string (⟨#[92]⟩ : ByteArray), .string (⟨#[48]⟩ : ByteArray), .string (⟨#[120]⟩ : ByteArray), .string (⟨#[47]⟩ : ByteArray), .string (⟨#[0]⟩ : ByteArray), .string (⟨#[128]⟩ : ByteArray), .string (⟨#[42]⟩ : ByteArray)]) (ok := fun _ => True) (okp := fun _ => True) ?hr ?hp (fun _ hk => hk) trivial (Below.refl _ _) (Nat.le_refl _) (by simp) ?_; (case hd => rfl); (case hg => rfl); (case hr => first | (go_simp; done) | (go_simp; rfl)); (case hp => exact (Reps.one (show Kd.M Kd.string _ _ _ (⟨#[32]⟩ : ByteArray) [.string (⟨#[32]⟩ : ByteArray)] from rfl) (Reps.one (show Kd.M Kd.string _ _ _ (⟨#[10]⟩ : ByteArray) [.string (⟨#[10]⟩ : ByteArray)] from rfl) (Reps.one (show Kd.M Kd.string _ _ _ (⟨#[34]⟩ : ByteArray) [.string (⟨#[34]⟩ : ByteArray)] from rfl) (Reps.one (show Kd.M Kd.string _ _ _ (⟨#[92]⟩ : ByteArray) [.string (⟨#[92]⟩ : ByteArray)] from rfl) (Reps.one (show Kd.M Kd.string _ _ _ (⟨#[48]⟩ : ByteArray) [.string (⟨#[48]⟩ : ByteArray)] from rfl) (Reps.one (show Kd.M Kd.string _ _ _ (⟨#[120]⟩ : ByteArray) [.string (⟨#[120]⟩ : ByteArray)] from rfl) (Reps.one (show Kd.M Kd.string _ _ _ (⟨#[47]⟩ : ByteArray) [.string (⟨#[47]⟩ : ByteArray)] from rfl) (Reps.one (show Kd.M Kd.string _ _ _ (⟨#[0]⟩ : ByteArray) [.string (⟨#[0]⟩ : ByteArray)] from rfl) (Reps.one (show Kd.M Kd.string _ _ _ (⟨#[128]⟩ : ByteArray) [.string (⟨#[128]⟩ : ByteArray)] from rfl) (Reps.one (show Kd.M Kd.string _ _ _ (⟨#[42]⟩ : ByteArray) [.string (⟨#[42]⟩ : ByteArray)] from rfl) (Reps.none _ _)))))))))))); intro ac bh ho26 hb hg_ hnew_; clear hg_ hnew_; (first | rw [← bm.out] at ho26 | (simp only [Int.reduceToNat] at ho26; rw [← bm.out] at ho26)); have aS := Aside0.mk (Kd.R_lower ho26 (keep_size (w := w) (g := g) (row := none) (kb HK.out))); have aT := Aside0.mk (KeepBut.trans (kb HK.out) (KeepBut.of_below hb g none) (.inl rfl)); have n3_ := Aside0.mk (below_step (be HB.out) hb)
           have z_HI0 := fun (h0_ : b 5 = false) => (show IsS62 w0 bh g s0_0 ab from by first | exact (IsS62.below (by repeat (first | (with_reducible first | exact (Q_HI0 h0_) | apply IsS62.alloc | apply IsS62.drewN | apply IsS62.drew | apply IsS62.set_1) | exact (Q_HI0 h0_))) hb))
           have z_HI0_e5 := fun (h0_ : b 5 = true) => (show IsS62 w0 bh g s0_0 ba from by first | exact (IsS62.below (by repeat (first | (with_reducible first | exact (Q_HI0_e5 h0_) | apply IsS62.alloc | apply IsS62.drewN | apply IsS62.drew | apply IsS62.set_1) | exact (Q_HI0_e5 h0_))) hb))
           clear HK; clear HB; have ap := aS; have HK := aT; have HB := n3_; clear aS aT n3_; clear hb ho26; obtain ⟨Ao27, bC, bD⟩ := Kd.R_slice ap.out; subst bD; obtain ⟨ado27, fo27, _⟩ := Kd.at_string (Kd.R_reads' ap.out).2.2 0 (by decide) (by rw [bm.out]; simp)
           cases fo27
           refine hK.out _ _ ⟨.slice (some ado27) a7.length bC, ado27, m6_, (by rw [ha.out]; exact putSel_upk 1 hb_ rfl rfl rfl), z_HI0, (kb HK.out), (be HB.out), fun _ => (kr ap.out), fun _ => ⟨_, rfl⟩, z_HI0_e5, fun h0_ => absurd ((hoff 6 (by kernel_rfl)).symm.trans h0_) (by decide)⟩
          refine steps_cons ?_ ?_
          ·rintro b a w' ⟨ac, adz_v196, m6_, ha, Q_HI0, Q_HK, Q_HB, Q_HO197, Q_HA_HO197, Q_HI0_e5, Q_X6_⟩ hb_ hon hoff; refine ⟨_, rfl, fun K hK => ?_⟩
           have e26 : a.tmps[26]? = some (.pointer (some ⟨g, 0, none⟩)) := by rw [ha]; exact (putSel_off rfl).trans rfl
           replace ha := Aside0.mk ha; have a4 := Aside0.mk (Q_HI0 hb_); have HK := Aside0.mk Q_HK; have HB := Aside0.mk Q_HB; refine goes_ Try.func17 (by kernel_rfl) rfl #[.pointer (some ⟨g, 0, none⟩), .int .i64 10] (by rfl) rfl rfl (by first | (simp only [List.map_toArray, List.map_cons, List.map_nil, Act.eval, Array.getD_eq_getD_getElem?, Option.getD_some, e26]; done) | (simp only [List.map_toArray, List.map_cons, List.map_nil, Act.eval, Array.getD_eq_getD_getElem?, Option.getD_some, e26]; rfl)) ?_; (with_reducible refine (spec_l1Rd_pick.calls k g s0_0 ab 10 a9 ba w0 _ ?side1 ?side2 A15.out).mono ?_); (case side1 => exact iq62 a4.out); (case side2 => exact bq62 HB.out a4.out); rintro e bh ⟨rfl, hi, hb, hk⟩; refine ⟨_, rfl, ?_⟩; have aS := Aside0.mk (KeepBut.trans (kb HK.out) hk (.inl rfl)); have n1_ := Aside0.mk (hb); have aT := Aside0.mk (hi)
           have z_HO197 := fun (h0_ : b 3 = true) => (show Kd.R Kd.string 9 bh w.heap.size (fun _ => True) ac a7 from by first | exact (Kd.R_mono (Kd.R_keep (IsS62.apart (show IsS62 w0 _ g s0_0 ab from iq62 a4.out) (by (with_reducible repeat (first | apply Kd.R_alloc | apply Kd.R_drewN | apply Kd.R_drew)); exact (Q_HO197 h0_)) (by decide)) hk (fun _ h => h.2)) (fun _ h => h.1)) | exact Kd.R_mono (Kd.R_mono (Kd.R_keep (IsS62.apart (show IsS62 w0 _ g s0_0 ab from iq62 a4.out) (by (with_reducible repeat (first | apply Kd.R_alloc | apply Kd.R_drewN | apply Kd.R_drew)); exact (Q_HO197 h0_)) (by decide)) hk (fun _ h => h.2)) (fun _ h => h.1)) (fun _ h_ => by first | trivial | exact h_ | exact h_.1))
           clear HK; clear HB; clear a4; have HK := aS; have HB := n1_; have a4 := aT; clear aS n1_ aT; (try clear hb); (try clear hb2); (try clear hk); (try clear hi); refine hK.out _ _ ⟨ac, adz_v196, m6_, (by rw [ha.out]; exact putSel_upk 2 hb_ rfl rfl rfl), fun h0_ => absurd ((up_self b 5).symm.trans h0_) (by decide), (kb HK.out), (bq62 HB.out a4.out), z_HO197, Q_HA_HO197, fun _ => (iq62 a4.out), fun h0_ => absurd ((hoff 6 (by kernel_rfl)).symm.trans h0_) (by decide)⟩
          refine steps_cons ?_ ?_
          ·rintro b a w' ⟨ac, adz_v196, m6_, ha, Q_HI0, Q_HK, Q_HB, Q_HO197, Q_HA_HO197, Q_HI0_e5, Q_X6_⟩ hb_ hon hoff; refine ⟨_, rfl, fun K hK => ?_⟩
           have e25 : a.tmps[25]? = some (ac) := by rw [ha]; exact putSel_on (e := (3, 25, ac)) 1 rfl rfl (hon 3 (by kernel_rfl)) rfl
           have e27 : a.tmps[27]? = some (.int .i64 a9) := by rw [ha]; exact putSel_on (e := (5, 27, .int .i64 a9)) 2 rfl rfl (hon 5 (by kernel_rfl)) rfl
           replace ha := Aside0.mk ha; have HK := Aside0.mk Q_HK; have HB := Aside0.mk Q_HB; have ap := Aside0.mk (Q_HO197 (hon 3 (by kernel_rfl))); have HA_HO197 := Aside0.mk (Q_HA_HO197 (hon 3 (by kernel_rfl))); have a4 := Aside0.mk (Q_HI0_e5 (hon 5 (by kernel_rfl))); obtain ⟨c_, hv_⟩ := HA_HO197.out
           rw [hv_] at e25
           refine value_ (w1 := w') (v := .pointer (some (adz_v196.add (a9).toNat))) (by rfl) rfl ?_ ?_
           ·go_simp; (try simp only [i64_w])
            try rfl
           refine hK.out _ _ ⟨ac, adz_v196, (.pointer (some (adz_v196.add (a9).toNat))), (by rw [ha.out]; exact putSel_upk 3 hb_ rfl rfl rfl), fun h0_ => absurd ((hon 5 (by kernel_rfl)).symm.trans h0_) (by decide), Q_HK, Q_HB, Q_HO197, Q_HA_HO197, Q_HI0_e5, fun _ => rfl⟩
          refine steps_cons ?_ ?_
          ·rintro b a w' ⟨ac, adz_v196, m6_, ha, Q_HI0, Q_HK, Q_HB, Q_HO197, Q_HA_HO197, Q_HI0_e5, Q_X6_⟩ hb_ hon hoff; refine ⟨_, rfl, fun K hK => ?_⟩
           have e28 : a.tmps[28]? = some (m6_) := by rw [ha]; exact putSel_on (e := (6, 28, m6_)) 3 rfl rfl (hon 6 (by kernel_rfl)) rfl
           rw [Q_X6_ (hon 6 (by kernel_rfl))] at e28
           replace ha := Aside0.mk ha; have HK := Aside0.mk Q_HK; have HB := Aside0.mk Q_HB; have ap := Aside0.mk (Q_HO197 (hon 3 (by kernel_rfl))); have HA_HO197 := Aside0.mk (Q_HA_HO197 (hon 3 (by kernel_rfl))); have a4 := Aside0.mk (Q_HI0_e5 (hon 5 (by kernel_rfl))); obtain ⟨c_, hv_⟩ := HA_HO197.out; have hF_ := ap.out
           rw [hv_] at hF_
           obtain ⟨ad_, ea_, hx_⟩ := Kd.at_string (Kd.R_reads' hF_).2.2 a9 (of_eq_true pi200) (of_eq_true qi200)
           cases ea_
           refine value_ (w1 := w') (v := .string (rdOf ByteArray.empty a7 a9)) (by rfl) rfl ?_ ?_
           ·go_simp; (try simp only [i64_w])
            try rfl
           refine hK.out _ _ ⟨ac, adz_v196, m6_, (by rw [ha.out]; exact putSel_upk 4 hb_ rfl rfl rfl), fun h0_ => absurd ((hon 5 (by kernel_rfl)).symm.trans h0_) (by decide), Q_HK, Q_HB, Q_HO197, Q_HA_HO197, Q_HI0_e5, Q_X6_⟩
          refine steps_cons ?_ ?_
          ·rintro b a w' ⟨ac, adz_v196, m6_, ha, Q_HI0, Q_HK, Q_HB, Q_HO197, Q_HA_HO197, Q_HI0_e5, Q_X6_⟩ hb_ hon hoff; refine ⟨_, rfl, fun K hK => ?_⟩
           have e24 : a.tmps[24]? = some (.string (a1.extract 0 ((a6) : Int).toNat)) := by rw [ha]; exact putSel_on (e := (2, 24, .string (a1.extract 0 ((a6) : Int).toNat))) 0 rfl rfl (hon 2 (by kernel_rfl)) rfl
           have e29 : a.tmps[29]? = some (.string (rdOf ByteArray.empty a7 a9)) := by rw [ha]; exact putSel_on (e := (7, 29, .string (rdOf ByteArray.empty a7 a9))) 4 rfl rfl (hon 7 (by kernel_rfl)) rfl
           replace ha := Aside0.mk ha; have HK := Aside0.mk Q_HK; have HB := Aside0.mk Q_HB; have ap := Aside0.mk (Q_HO197 (hon 3 (by kernel_rfl))); have HA_HO197 := Aside0.mk (Q_HA_HO197 (hon 3 (by kernel_rfl))); have a4 := Aside0.mk (Q_HI0_e5 (hon 5 (by kernel_rfl))); refine value_ (w1 := w') (v := .string ((a1.extract 0 ((a6) : Int).toNat) ++ (rdOf ByteArray.empty a7 a9))) (by rfl) rfl ?_ ?_
           ·go_simp; (try simp only [i64_w])
            try rfl
           refine hK.out _ _ ⟨ac, adz_v196, m6_, (by rw [ha.out]; exact putSel_upk 5 hb_ rfl rfl rfl), fun h0_ => absurd ((hon 5 (by kernel_rfl)).symm.trans h0_) (by decide), Q_HK, Q_HB, Q_HO197, Q_HA_HO197, Q_HI0_e5, Q_X6_⟩
          refine steps_cons ?_ ?_
          ·rintro b a w' ⟨ac, adz_v196, m6_, ha, Q_HI0, Q_HK, Q_HB, Q_HO197, Q_HA_HO197, Q_HI0_e5, Q_X6_⟩ hb_ hon hoff; refine ⟨_, rfl, fun K hK => ?_⟩
           have e31 : a.tmps[31]? = some (.string a1) := by rw [ha]; exact (putSel_off rfl).trans rfl
           have e32 : a.tmps[32]? = some (.int .i64 a6) := by rw [ha]; exact (putSel_off rfl).trans rfl
           replace ha := Aside0.mk ha; have HK := Aside0.mk Q_HK; have HB := Aside0.mk Q_HB; refine value_ (w1 := w') (v := .string (a1.extract ((a6) : Int).toNat a1.size)) (by rfl) rfl ?_ ?_
           ·go_simp; (try simp only [i64_w])
            try rfl
           refine hK.out _ _ ⟨ac, adz_v196, m6_, (by rw [ha.out]; exact putSel_upk 6 hb_ rfl rfl rfl), Q_HI0, Q_HK, Q_HB, Q_HO197, Q_HA_HO197, Q_HI0_e5, Q_X6_⟩
          refine steps_cons ?_ ?_
          ·rintro b a w' ⟨ac, adz_v196, m6_, ha, Q_HI0, Q_HK, Q_HB, Q_HO197, Q_HA_HO197, Q_HI0_e5, Q_X6_⟩ hb_ hon hoff; refine ⟨_, rfl, fun K hK => ?_⟩
           have e30 : a.tmps[30]? = some (.string ((a1.extract 0 ((a6) : Int).toNat) ++ (rdOf ByteArray.empty a7 a9))) := by rw [ha]; exact putSel_on (e := (8, 30, .string ((a1.extract 0 ((a6) : Int).toNat) ++ (rdOf ByteArray.empty a7 a9)))) 5 rfl rfl (hon 8 (by kernel_rfl)) rfl
           have e33 : a.tmps[33]? = some (.string (a1.extract ((a6) : Int).toNat a1.size)) := by rw [ha]; exact putSel_on (e := (11, 33, .string (a1.extract ((a6) : Int).toNat a1.size))) 6 rfl rfl (hon 11 (by kernel_rfl)) rfl
           replace ha := Aside0.mk ha; have HK := Aside0.mk Q_HK; have HB := Aside0.mk Q_HB; have ap := Aside0.mk (Q_HO197 (hon 3 (by kernel_rfl))); have HA_HO197 := Aside0.mk (Q_HA_HO197 (hon 3 (by kernel_rfl))); have a4 := Aside0.mk (Q_HI0_e5 (hon 5 (by kernel_rfl))); refine value_ (w1 := w') (v := .string (((a1.extract 0 ((a6) : Int).toNat) ++ (rdOf ByteArray.empty a7 a9)) ++ (a1.extract ((a6) : Int).toNat a1.size))) (by rfl) rfl ?_ ?_
           ·go_simp; (try simp only [i64_w])
            try rfl
           refine hK.out _ _ ⟨ac, adz_v196, m6_, (by rw [ha.out]; exact putSel_upk 7 hb_ rfl rfl rfl), fun h0_ => absurd ((hon 5 (by kernel_rfl)).symm.trans h0_) (by decide), Q_HK, Q_HB, Q_HO197, Q_HA_HO197, Q_HI0_e5, Q_X6_⟩
          refine steps_cons ?_ ?_
          ·rintro b a w' ⟨ac, adz_v196, m6_, ha, Q_HI0, Q_HK, Q_HB, Q_HO197, Q_HA_HO197, Q_HI0_e5, Q_X6_⟩ hb_ hon hoff; refine ⟨_, rfl, fun K hK => ?_⟩
           have e34 : a.tmps[34]? = some (.string (((a1.extract 0 ((a6) : Int).toNat) ++ (rdOf ByteArray.empty a7 a9)) ++ (a1.extract ((a6) : Int).toNat a1.size))) := by rw [ha]; exact putSel_on (e := (12, 34, .string (((a1.extract 0 ((a6) : Int).toNat) ++ (rdOf ByteArray.empty a7 a9)) ++ (a1.extract ((a6) : Int).toNat a1.size)))) 7 rfl rfl (hon 12 (by kernel_rfl)) rfl
           replace ha := Aside0.mk ha; have HK := Aside0.mk Q_HK; have HB := Aside0.mk Q_HB; have ap := Aside0.mk (Q_HO197 (hon 3 (by kernel_rfl))); have HA_HO197 := Aside0.mk (Q_HA_HO197 (hon 3 (by kernel_rfl))); have a4 := Aside0.mk (Q_HI0_e5 (hon 5 (by kernel_rfl))); refine value_ (w1 := w') (v := .string (((a1.extract 0 ((a6) : Int).toNat) ++ (rdOf ByteArray.empty a7 a9)) ++ (a1.extract ((a6) : Int).toNat a1.size))) (by rfl) rfl ?_ ?_
           ·go_simp; (try simp only [i64_w])
            try rfl
           refine hK.out _ _ ⟨ac, adz_v196, m6_, (by rw [ha.out]; exact putSel_upk 8 hb_ rfl rfl rfl), fun h0_ => absurd ((hon 5 (by kernel_rfl)).symm.trans h0_) (by decide), Q_HK, Q_HB, Q_HO197, Q_HA_HO197, Q_HI0_e5, Q_X6_⟩
          exact steps_nil
         rintro b a w29 hall ⟨ac, adz_v196, m6_, ha, Q_HI0, Q_HK, Q_HB, Q_HO197, Q_HA_HO197, Q_HI0_e5, Q_X6_⟩; clear HB a4 HK; have hb2_ := hall 2 (by kernel_rfl); have hb3_ := hall 3 (by kernel_rfl); have hb5_ := hall 5 (by kernel_rfl); have hb6_ := hall 6 (by kernel_rfl); have hb7_ := hall 7 (by kernel_rfl); have hb8_ := hall 8 (by kernel_rfl); have hb11_ := hall 11 (by kernel_rfl); have hb12_ := hall 12 (by kernel_rfl); have hb13_ := hall 13 (by kernel_rfl); subst ha; obtain rfl := Q_X6_ hb6_; simp only [putSel, hb2_, hb3_, hb5_, hb6_, hb7_, hb8_, hb11_, hb12_, hb13_, if_true, Act.put, List.setIfInBounds_toArray, List.set_cons_zero, List.set_cons_succ]; clear Q_HI0; have HK := Aside0.mk Q_HK; clear Q_HK; have HB := Aside0.mk Q_HB; clear Q_HB; have ap := Aside0.mk (Q_HO197 hb3_); clear Q_HO197; have HA_HO197 := Aside0.mk (Q_HA_HO197 hb3_); clear Q_HA_HO197; have a4 := Aside0.mk (Q_HI0_e5 hb5_); clear Q_HI0_e5; clear hall hb2_ hb3_ hb5_ hb6_ hb7_ hb8_ hb11_ hb12_ hb13_; obtain ⟨co30, bE⟩ := HA_HO197.out; clear HA_HO197; subst bE
         try go_wp2
         go_ret
         exact ⟨by first | rfl | (simp [errW_none, errW_some] <;> rfl) | (simp only [← an]; first | rfl | (simp [errW_none, errW_some] <;> rfl)) | (simp [*, errW_none, errW_some] <;> rfl), iq62 a4.out, bq62 HB.out a4.out, kb HK.out⟩
        ·rw [if_neg ay] at H
         exact absurd H (by simp)
       ·rw [if_neg aD] at H
        exact absurd H (by simp)
      ·rw [if_neg bg] at H
       exact absurd H (by simp)
     ·rw [if_neg bd] at H
      exact absurd H (by simp)
    ·rw [if_neg aQ] at H
     exact absurd H (by simp)
   ·rw [if_neg aP] at H
    exact absurd H (by simp)
  ·rw [if_neg ax] at H
   have bA : (aa == 1) = false := beq_eq_false_iff_ne.mpr ax; have bB : (aa != 1) = true := bne_iff_ne.mpr ax
   by_cases az : aa = 2
   ·rw [if_pos az] at H
    have bF : (aa == 2) = true := beq_iff_eq.mpr az; have bG : (aa != 2) = false := bne_eq_false_iff_eq.mpr az; clear az
    by_cases aE : (wrap64 (Int.tdiv (wrap64 (a3 * (wrap64 ((a1.size : Int) + 1)))) 256)) < (a1.size : Int)
    ·rw [if_pos aE] at H
     have bn : decide ((wrap64 (Int.tdiv (wrap64 (a3 * (wrap64 ((a1.size : Int) + 1)))) 256)) < (a1.size : Int)) = true := decide_eq_true aE; clear aE
     obtain ⟨ad, ao⟩ : ∃ j_ : Int, (wrap64 (Int.tdiv (wrap64 (a3 * (wrap64 ((a1.size : Int) + 1)))) 256)) = j_ := ⟨_, rfl⟩
     (try clear hji6w); (try clear hji12w); (try clear al); (try clear an)
     replace H : (if 0 ≤ (ad) then (if (ad) ≤ (a1.size : Int) then (if 0 ≤ (wrap64 ((ad) + 1)) then (if (wrap64 ((ad) + 1)) ≤ (a1.size : Int) then (if (a1.extract 0 ((ad) : Int).toNat).size + (a1.extract ((wrap64 ((ad) + 1)) : Int).toNat a1.size).size ≤ 9223372036854775807 then (some ((a1.extract 0 ((ad) : Int).toNat) ++ (a1.extract ((wrap64 ((ad) + 1)) : Int).toNat a1.size), ab)) else (none)) else (none)) else (none)) else (none)) else (none)) = some (r1, r2) := by first | (rw [ao] at H; exact H) | (simp only [ao] at H ⊢; exact H)
     (try rw [ao] at bn); (try rw [ao] at A3); (try rw [ao] at A4); have hji33w : (IntKind.i64.wrap (Int.tdiv (wrap64 (a3 * (wrap64 ((a1.size : Int) + 1)))) 256)) = ad := (i64_w _).trans ao
     by_cases aU : 0 ≤ (ad)
     ·rw [if_pos aU] at H
      have c34b0 := eq_true aU; have c34b1 : decide (0 ≤ (ad)) = true := decide_eq_true aU; clear aU
      by_cases aV : (ad) ≤ (a1.size : Int)
      ·rw [if_pos aV] at H
       have c35b0 := eq_true aV; have c35b1 : decide ((ad) ≤ (a1.size : Int)) = true := decide_eq_true aV; clear aV
       obtain ⟨ag, aF⟩ : ∃ j_ : Int, (wrap64 ((ad) + 1)) = j_ := ⟨_, rfl⟩
       replace H : (if 0 ≤ (ag) then (if (ag) ≤ (a1.size : Int) then (if (a1.extract 0 ((ad) : Int).toNat).size + (a1.extract ((ag) : Int).toNat a1.size).size ≤ 9223372036854775807 then (some ((a1.extract 0 ((ad) : Int).toNat) ++ (a1.extract ((ag) : Int).toNat a1.size), ab)) else (none)) else (none)) else (none)) = some (r1, r2) := by first | (rw [aF] at H; exact H) | (simp only [aF] at H ⊢; exact H)
       (try rw [aF] at A3); (try rw [aF] at A4); have hji36w : (IntKind.i64.wrap ((ad) + 1)) = ag := (i64_w _).trans aF
       by_cases aW : 0 ≤ (ag)
       ·rw [if_pos aW] at H
        have c37b0 := eq_true aW; have c37b1 : decide (0 ≤ (ag)) = true := decide_eq_true aW; clear aW
        by_cases aX : (ag) ≤ (a1.size : Int)
        ·rw [if_pos aX] at H
         have c38b0 := eq_true aX; have c38b1 : decide ((ag) ≤ (a1.size : Int)) = true := decide_eq_true aX; clear aX
         by_cases aG : (a1.extract 0 ((ad) : Int).toNat).size + (a1.extract ((ag) : Int).toNat a1.size).size ≤ 9223372036854775807
         ·rw [if_pos aG] at H
          try have c39n : ((ad) : Int).toNat + (a1.size - ((ag) : Int).toNat) ≤ 9223372036854775807 := (by have h_ := aG; have g0_ : (ad) ≤ (a1.size : Int) := (by first | assumption | exact of_eq_true (by assumption) | exact of_decide_eq_true (by assumption)); have g1_ : (ag) ≤ (a1.size : Int) := (by first | assumption | exact of_eq_true (by assumption) | exact of_decide_eq_true (by assumption)); (try simp only [ByteArray.size_append] at h_); (try simp only [ByteArray.size_extract] at h_); omega)
          try have c39p := eq_true c39n
          try have c39q := decide_eq_true c39n
          try have c39r := eq_false (Nat.not_lt.2 c39n)
          (try clear c39n); have c39b0 := eq_true aG; have c39b1 : decide ((a1.extract 0 ((ad) : Int).toNat).size + (a1.extract ((ag) : Int).toNat a1.size).size ≤ 9223372036854775807) = true := decide_eq_true aG
          try have c39b2 : (9223372036854775807 < (a1.extract 0 ((ad) : Int).toNat).size + (a1.extract ((ag) : Int).toNat a1.size).size) = False := eq_false (Nat.not_lt.2 aG)
          simp only [Option.some.injEq, Prod.mk.injEq] at H; obtain ⟨rfl, rfl⟩ := H
          go_enter Try.func18, Try.ntmps18
          try go_wp2_with (first | ((with_reducible refine gc 17 rfl ?_); refine gl (some 7) _ (#[.pointer (some ⟨g, 0, none⟩), .int .i64 256]) Try.func17 ?_; (with_reducible refine (spec_l1Rd_pick.calls k g s0_0 s0_1 256 a3 ae w0 _ ?side1 ?side2 A3.out).mono ?_); (case side1 => exact iq62 a4.out); (case side2 => exact bq62 HB.out a4.out); rintro e w40 ⟨rfl, hi, hb, hk⟩; refine ⟨_, rfl, ?_⟩; refine Ya3 (KeepBut.trans (kb HK.out) hk (.inl rfl)) (hb) (hi) ?_; clear HK HB a4; intro HK HB a4; (try clear hb); (try clear hb2); (try clear hk); (try clear hi)) | ((with_reducible refine gc 17 rfl ?_); refine gl (some 14) _ (#[.pointer (some ⟨g, 0, none⟩), .int .i64 5]) Try.func17 ?_; (with_reducible refine (spec_l1Rd_pick.calls k g s0_0 ae 5 aa ab w0 _ ?side1 ?side2 A4.out).mono ?_); (case side1 => exact iq62 a4.out); (case side2 => exact bq62 HB.out a4.out); rintro e w41 ⟨rfl, hi, hb, hk⟩; refine ⟨_, rfl, ?_⟩; refine Ya3 (KeepBut.trans (kb HK.out) hk (.inl rfl)) (hb) (hi) ?_; clear HK HB a4; intro HK HB a4; (try clear hb); (try clear hb2); (try clear hk); (try clear hi)))
          refine Ya3 (IsS62.drew a4.out) (keep_drew HK.out) (below_drew1 HB.out) ?_; clear a4 HK HB; intro a4 HK HB; refine start_ (n := 9) (S := fun w' => True) (ds := []) (fb 9 0) (by kernel_rfl) rfl rfl trivial (fun hHeld => ?_); refine with_tabW spec_l1Bend.tab9 spec_l1Bend.bits9 (fun HT_ HW_ => ?_); generalize w41.drew = w42 at a4 HK HB hHeld ⊢; refine pu 0 41 (fb 9 1) HT_ ?_; refine pu 1 42 (fb 9 3) HT_ ?_; refine pu 2 43 (fb 9 7) HT_ ?_; refine pu 3 44 (fb 9 15) HT_ ?_; refine pu 4 45 (fb 9 31) HT_ ?_; refine pu 5 46 (fb 9 63) HT_ ?_; refine pu 6 47 (fb 9 127) HT_ ?_; refine pu 7 48 (fb 9 255) HT_ ?_; refine pu 8 4 (fb 9 511) HT_ ?_; refine done_ (done_of HT_.out (by kernel_rfl)) ?_
          try go_wp2
          go_ret
          exact ⟨by first | rfl | (simp [errW_none, errW_some] <;> rfl) | (simp only [← ao, ← aF]; first | rfl | (simp [errW_none, errW_some] <;> rfl)) | (simp [*, errW_none, errW_some] <;> rfl), iq62 a4.out, bq62 HB.out a4.out, kb HK.out⟩
         ·rw [if_neg aG] at H
          exact absurd H (by simp)
        ·rw [if_neg aX] at H
         exact absurd H (by simp)
       ·rw [if_neg aW] at H
        exact absurd H (by simp)
      ·rw [if_neg aV] at H
       exact absurd H (by simp)
     ·rw [if_neg aU] at H
      exact absurd H (by simp)
    ·rw [if_neg aE] at H
     have bn : decide ((wrap64 (Int.tdiv (wrap64 (a3 * (wrap64 ((a1.size : Int) + 1)))) 256)) < (a1.size : Int)) = false := decide_eq_false aE; clear aE
     obtain ⟨ah, aq⟩ : ∃ j_ : Int, (wrap64 (Int.tdiv (wrap64 (a3 * (wrap64 ((a1.size : Int) + 1)))) 256)) = j_ := ⟨_, rfl⟩
     (try clear hji6w); (try clear hji12w); (try clear hji33w); (try clear al); (try clear an); (try clear ao)
     replace H : (if 0 ≤ (ah) then (if (ah) ≤ (a1.size : Int) then (if a1.size + (a1.extract ((ah) : Int).toNat a1.size).size ≤ 9223372036854775807 then (some (a1 ++ (a1.extract ((ah) : Int).toNat a1.size), ab)) else (none)) else (none)) else (none)) = some (r1, r2) := by first | (rw [aq] at H; exact H) | (simp only [aq] at H ⊢; exact H)
     (try rw [aq] at bn); (try rw [aq] at A3); (try rw [aq] at A4); have hji43w : (IntKind.i64.wrap (Int.tdiv (wrap64 (a3 * (wrap64 ((a1.size : Int) + 1)))) 256)) = ah := (i64_w _).trans aq
     by_cases aY : 0 ≤ (ah)
     ·rw [if_pos aY] at H
      have c44b0 := eq_true aY; have c44b1 : decide (0 ≤ (ah)) = true := decide_eq_true aY; clear aY
      by_cases aZ : (ah) ≤ (a1.size : Int)
      ·rw [if_pos aZ] at H
       have c45b0 := eq_true aZ; have c45b1 : decide ((ah) ≤ (a1.size : Int)) = true := decide_eq_true aZ; clear aZ
       by_cases aH : a1.size + (a1.extract ((ah) : Int).toNat a1.size).size ≤ 9223372036854775807
       ·rw [if_pos aH] at H
        try have c46n : a1.size + (a1.size - ((ah) : Int).toNat) ≤ 9223372036854775807 := (by have h_ := aH; have g0_ : (ah) ≤ (a1.size : Int) := (by first | assumption | exact of_eq_true (by assumption) | exact of_decide_eq_true (by assumption)); (try simp only [ByteArray.size_append] at h_); (try simp only [ByteArray.size_extract] at h_); omega)
        try have c46p := eq_true c46n
        try have c46q := decide_eq_true c46n
        try have c46r := eq_false (Nat.not_lt.2 c46n)
        (try clear c46n); have c46b0 := eq_true aH; have c46b1 : decide (a1.size + (a1.extract ((ah) : Int).toNat a1.size).size ≤ 9223372036854775807) = true := decide_eq_true aH
        try have c46b2 : (9223372036854775807 < a1.size + (a1.extract ((ah) : Int).toNat a1.size).size) = False := eq_false (Nat.not_lt.2 aH)
        simp only [Option.some.injEq, Prod.mk.injEq] at H; obtain ⟨rfl, rfl⟩ := H
        go_enter Try.func18, Try.ntmps18
        go_wp2_with (first | ((with_reducible refine gc 17 rfl ?_); refine gl (some 7) _ (#[.pointer (some ⟨g, 0, none⟩), .int .i64 256]) Try.func17 ?_; (with_reducible refine (spec_l1Rd_pick.calls k g s0_0 s0_1 256 a3 ae w0 _ ?side1 ?side2 A3.out).mono ?_); (case side1 => exact iq62 a4.out); (case side2 => exact bq62 HB.out a4.out); rintro e w47 ⟨rfl, hi, hb, hk⟩; refine ⟨_, rfl, ?_⟩; refine Ya3 (KeepBut.trans (kb HK.out) hk (.inl rfl)) (hb) (hi) ?_; clear HK HB a4; intro HK HB a4; (try clear hb); (try clear hb2); (try clear hk); (try clear hi)) | ((with_reducible refine gc 17 rfl ?_); refine gl (some 14) _ (#[.pointer (some ⟨g, 0, none⟩), .int .i64 5]) Try.func17 ?_; (with_reducible refine (spec_l1Rd_pick.calls k g s0_0 ae 5 aa ab w0 _ ?side1 ?side2 A4.out).mono ?_); (case side1 => exact iq62 a4.out); (case side2 => exact bq62 HB.out a4.out); rintro e w48 ⟨rfl, hi, hb, hk⟩; refine ⟨_, rfl, ?_⟩; refine Ya3 (KeepBut.trans (kb HK.out) hk (.inl rfl)) (hb) (hi) ?_; clear HK HB a4; intro HK HB a4; (try clear hb); (try clear hb2); (try clear hk); (try clear hi)))
        go_ret
        exact ⟨by first | rfl | (simp [errW_none, errW_some] <;> rfl) | (simp only [← aq]; first | rfl | (simp [errW_none, errW_some] <;> rfl)) | (simp [*, errW_none, errW_some] <;> rfl), iq62 a4.out, bq62 HB.out a4.out, kb HK.out⟩
       ·rw [if_neg aH] at H
        exact absurd H (by simp)
      ·rw [if_neg aZ] at H
       exact absurd H (by simp)
     ·rw [if_neg aY] at H
      exact absurd H (by simp)
   ·rw [if_neg az] at H
    have bF : (aa == 2) = false := beq_eq_false_iff_ne.mpr az; have bG : (aa != 2) = true := bne_iff_ne.mpr az
    by_cases aA : aa = 3
    ·rw [if_pos aA] at H
     have bH : (aa == 3) = true := beq_iff_eq.mpr aA; have bI : (aa != 3) = false := bne_eq_false_iff_eq.mpr aA; clear aA
     by_cases aI : (wrap64 (Int.tdiv (wrap64 (a3 * (wrap64 ((a1.size : Int) + 1)))) 256)) < (a1.size : Int)
     ·rw [if_pos aI] at H
      have bo : decide ((wrap64 (Int.tdiv (wrap64 (a3 * (wrap64 ((a1.size : Int) + 1)))) 256)) < (a1.size : Int)) = true := decide_eq_true aI; clear aI
      obtain ⟨a5, ar⟩ : ∃ j_ : Int, (wrap64 (Int.tdiv (wrap64 (a3 * (wrap64 ((a1.size : Int) + 1)))) 256)) = j_ := ⟨_, rfl⟩
      (try clear hji6w); (try clear hji12w); (try clear hji33w); (try clear hji43w); (try clear al); (try clear an); (try clear ao); (try clear aq)
      replace H : (if 0 ≤ (a5) then (if (a5) ≤ (a1.size : Int) then ((spec_l1Rd_pick.f k s0_0 ab 8).bind fun bt201 => (if 0 ≤ (IntKind.u64.wrap (bt201.1)) then ((some (([(Go.bits .xor .i64 (wrap64 (bt a1 (a5))) (shl .i64 1 (IntKind.u64.wrap (bt201.1)))) % 256] : List Int) : List Int)).bind fun a8 => (if (a1.extract 0 ((a5) : Int).toNat).size + (strOfNums a8).size ≤ 9223372036854775807 then (if 0 ≤ (wrap64 ((a5) + 1)) then (if (wrap64 ((a5) + 1)) ≤ (a1.size : Int) then (if ((a1.extract 0 ((a5) : Int).toNat) ++ (strOfNums a8)).size + (a1.extract ((wrap64 ((a5) + 1)) : Int).toNat a1.size).size ≤ 9223372036854775807 then (some (((a1.extract 0 ((a5) : Int).toNat) ++ (strOfNums a8)) ++ (a1.extract ((wrap64 ((a5) + 1)) : Int).toNat a1.size), bt201.2)) else (none)) else (none)) else (none)) else (none))) else (none))) else (none)) else (none)) = some (r1, r2) := by first | (rw [ar] at H; exact H) | (simp only [ar] at H ⊢; exact H)
      (try rw [ar] at bo); (try rw [ar] at A3); (try rw [ar] at A4); have hji51w : (IntKind.i64.wrap (Int.tdiv (wrap64 (a3 * (wrap64 ((a1.size : Int) + 1)))) 256)) = a5 := (i64_w _).trans ar
      by_cases b0 : 0 ≤ (a5)
      ·rw [if_pos b0] at H
       have c52b0 := eq_true b0; have c52b1 : decide (0 ≤ (a5)) = true := decide_eq_true b0; clear b0
       by_cases b1 : (a5) ≤ (a1.size : Int)
       ·rw [if_pos b1] at H
        have c53b0 := eq_true b1; have c53b1 : decide ((a5) ≤ (a1.size : Int)) = true := decide_eq_true b1; clear b1; replace H := Option.bind_eq_some_iff.mp H; obtain ⟨⟨bi, aJ⟩, bu, H⟩ := H; replace H : (if 0 ≤ (IntKind.u64.wrap (bi)) then ((some (([(Go.bits .xor .i64 (wrap64 (bt a1 (a5))) (shl .i64 1 (IntKind.u64.wrap (bi)))) % 256] : List Int) : List Int)).bind fun a8 => (if (a1.extract 0 ((a5) : Int).toNat).size + (strOfNums a8).size ≤ 9223372036854775807 then (if 0 ≤ (wrap64 ((a5) + 1)) then (if (wrap64 ((a5) + 1)) ≤ (a1.size : Int) then (if ((a1.extract 0 ((a5) : Int).toNat) ++ (strOfNums a8)).size + (a1.extract ((wrap64 ((a5) + 1)) : Int).toNat a1.size).size ≤ 9223372036854775807 then (some (((a1.extract 0 ((a5) : Int).toNat) ++ (strOfNums a8)) ++ (a1.extract ((wrap64 ((a5) + 1)) : Int).toNat a1.size), aJ)) else (none)) else (none)) else (none)) else (none))) else (none)) = some (r1, r2) := H; have bj := Aside0.mk bu; clear bu
        obtain ⟨ai, aK⟩ : ∃ j_ : Int, (IntKind.u64.wrap (bi)) = j_ := ⟨_, rfl⟩
        replace H : (if 0 ≤ (ai) then ((some (([(Go.bits .xor .i64 (wrap64 (bt a1 (a5))) (shl .i64 1 (ai))) % 256] : List Int) : List Int)).bind fun a8 => (if (a1.extract 0 ((a5) : Int).toNat).size + (strOfNums a8).size ≤ 9223372036854775807 then (if 0 ≤ (wrap64 ((a5) + 1)) then (if (wrap64 ((a5) + 1)) ≤ (a1.size : Int) then (if ((a1.extract 0 ((a5) : Int).toNat) ++ (strOfNums a8)).size + (a1.extract ((wrap64 ((a5) + 1)) : Int).toNat a1.size).size ≤ 9223372036854775807 then (some (((a1.extract 0 ((a5) : Int).toNat) ++ (strOfNums a8)) ++ (a1.extract ((wrap64 ((a5) + 1)) : Int).toNat a1.size), aJ)) else (none)) else (none)) else (none)) else (none))) else (none)) = some (r1, r2) := by first | (rw [aK] at H; exact H) | (simp only [aK] at H ⊢; exact H)
        (try rw [aK] at A3); (try rw [aK] at A4); (try rw [aK] at bj)
        by_cases b2 : 0 ≤ (ai)
        ·rw [if_pos b2] at H
         have c57b0 := eq_true b2; have c57b1 : decide (0 ≤ (ai)) = true := decide_eq_true b2; clear b2
         obtain ⟨am, av⟩ : ∃ j_ : Int, (shl .i64 1 (ai)) = j_ := ⟨_, rfl⟩
         replace H : ((some (([(Go.bits .xor .i64 (wrap64 (bt a1 (a5))) (am)) % 256] : List Int) : List Int)).bind fun a8 => (if (a1.extract 0 ((a5) : Int).toNat).size + (strOfNums a8).size ≤ 9223372036854775807 then (if 0 ≤ (wrap64 ((a5) + 1)) then (if (wrap64 ((a5) + 1)) ≤ (a1.size : Int) then (if ((a1.extract 0 ((a5) : Int).toNat) ++ (strOfNums a8)).size + (a1.extract ((wrap64 ((a5) + 1)) : Int).toNat a1.size).size ≤ 9223372036854775807 then (some (((a1.extract 0 ((a5) : Int).toNat) ++ (strOfNums a8)) ++ (a1.extract ((wrap64 ((a5) + 1)) : Int).toNat a1.size), aJ)) else (none)) else (none)) else (none)) else (none))) = some (r1, r2) := by first | (rw [av] at H; exact H) | (simp only [av] at H ⊢; exact H)
         (try rw [av] at A3); (try rw [av] at A4); (try rw [av] at bj); have hji58_ : (IntKind.i64.wrap (1 * 2 ^ min (ai).toNat 64)) = am := av; have hji58z : (ai) ≤ 64 → (IntKind.i64.wrap (1 * 2 ^ (ai).toNat)) = am := shl_small av
         have hji58u : (IntKind.i64.wrap (2 ^ min (ai).toNat 64)) = am := by have h_ := hji58_; rw [Int.one_mul] at h_; exact h_
         have hji58v : (ai) ≤ 64 → (IntKind.i64.wrap (2 ^ (ai).toNat)) = am := fun hle_ => by have h_ := hji58z hle_; rw [Int.one_mul] at h_; exact h_
         have hji58y : (wrap64 (1 * 2 ^ min (ai).toNat 64)) = am := (i64_w _).symm.trans hji58_
         have hji58x : (ai) ≤ 64 → (wrap64 (1 * 2 ^ (ai).toNat)) = am := fun h_ => (i64_w _).symm.trans (hji58z h_)
         obtain ⟨a8, b3⟩ : ∃ y_ : List Int, y_ = (([(Go.bits .xor .i64 (wrap64 (bt a1 (a5))) (am)) % 256] : List Int)) := ⟨_, rfl⟩
         replace H : (if (a1.extract 0 ((a5) : Int).toNat).size + (strOfNums a8).size ≤ 9223372036854775807 then (if 0 ≤ (wrap64 ((a5) + 1)) then (if (wrap64 ((a5) + 1)) ≤ (a1.size : Int) then (if ((a1.extract 0 ((a5) : Int).toNat) ++ (strOfNums a8)).size + (a1.extract ((wrap64 ((a5) + 1)) : Int).toNat a1.size).size ≤ 9223372036854775807 then (some (((a1.extract 0 ((a5) : Int).toNat) ++ (strOfNums a8)) ++ (a1.extract ((wrap64 ((a5) + 1)) : Int).toNat a1.size), aJ)) else (none)) else (none)) else (none)) else (none)) = some (r1, r2) := by first | (rw [b3]; with_reducible exact H) | (have H2_ := (Option.bind_some _ _).symm.trans H; rw [b3]; with_reducible exact H2_) | (have H2_ := (Option.bind_some _ _).symm.trans H; with_reducible exact H2_) | with_reducible exact H | (rw [b3]; exact H) | exact H
         have bv := Aside0.mk b3; clear b3
         by_cases aL : (a1.extract 0 ((a5) : Int).toNat).size + (strOfNums a8).size ≤ 9223372036854775807
         ·rw [if_pos aL] at H
          try have c59n : ((a5) : Int).toNat + (strOfNums a8).size ≤ 9223372036854775807 := (by have h_ := aL; have g0_ : (a5) ≤ (a1.size : Int) := (by first | assumption | exact of_eq_true (by assumption) | exact of_decide_eq_true (by assumption)); (try simp only [ByteArray.size_append] at h_); (try simp only [ByteArray.size_extract] at h_); omega)
          try have c59p := eq_true c59n
          try have c59q := decide_eq_true c59n
          try have c59r := eq_false (Nat.not_lt.2 c59n)
          (try clear c59n); have c59b0 := eq_true aL; have c59b1 : decide ((a1.extract 0 ((a5) : Int).toNat).size + (strOfNums a8).size ≤ 9223372036854775807) = true := decide_eq_true aL
          try have c59b2 : (9223372036854775807 < (a1.extract 0 ((a5) : Int).toNat).size + (strOfNums a8).size) = False := eq_false (Nat.not_lt.2 aL)
          obtain ⟨af, aB⟩ : ∃ j_ : Int, (wrap64 ((a5) + 1)) = j_ := ⟨_, rfl⟩
          replace H : (if 0 ≤ (af) then (if (af) ≤ (a1.size : Int) then (if ((a1.extract 0 ((a5) : Int).toNat) ++ (strOfNums a8)).size + (a1.extract ((af) : Int).toNat a1.size).size ≤ 9223372036854775807 then (some (((a1.extract 0 ((a5) : Int).toNat) ++ (strOfNums a8)) ++ (a1.extract ((af) : Int).toNat a1.size), aJ)) else (none)) else (none)) else (none)) = some (r1, r2) := by first | (rw [aB] at H; exact H) | (simp only [aB] at H ⊢; exact H)
          (try rw [aB] at A3); (try rw [aB] at A4); (try rw [aB] at bj); have hji60w : (IntKind.i64.wrap ((a5) + 1)) = af := (i64_w _).trans aB
          by_cases b4 : 0 ≤ (af)
          ·rw [if_pos b4] at H
           have c61b0 := eq_true b4; have c61b1 : decide (0 ≤ (af)) = true := decide_eq_true b4; clear b4
           by_cases b5 : (af) ≤ (a1.size : Int)
           ·rw [if_pos b5] at H
            have c62b0 := eq_true b5; have c62b1 : decide ((af) ≤ (a1.size : Int)) = true := decide_eq_true b5; clear b5
            by_cases aC : ((a1.extract 0 ((a5) : Int).toNat) ++ (strOfNums a8)).size + (a1.extract ((af) : Int).toNat a1.size).size ≤ 9223372036854775807
            ·rw [if_pos aC] at H
             try have c63n : ((a5) : Int).toNat + (strOfNums a8).size + (a1.size - ((af) : Int).toNat) ≤ 9223372036854775807 := (by have h_ := aC; have g0_ : (a5) ≤ (a1.size : Int) := (by first | assumption | exact of_eq_true (by assumption) | exact of_decide_eq_true (by assumption)); have g1_ : (af) ≤ (a1.size : Int) := (by first | assumption | exact of_eq_true (by assumption) | exact of_decide_eq_true (by assumption)); (try simp only [ByteArray.size_append] at h_); (try simp only [ByteArray.size_extract] at h_); omega)
             try have c63p := eq_true c63n
             try have c63q := decide_eq_true c63n
             try have c63r := eq_false (Nat.not_lt.2 c63n)
             (try clear c63n)
             try have c63n : (a1.extract 0 ((a5) : Int).toNat).size + (strOfNums a8).size + (a1.extract ((af) : Int).toNat a1.size).size ≤ 9223372036854775807 := (by have h_ := aC; (try simp only [ByteArray.size_append] at h_); (try simp only [ByteArray.size_extract] at h_); (try omega); (try simpa using h_))
             try have c63m := eq_true c63n
             try have c63d := decide_eq_true c63n
             try have c63l := eq_false (Nat.not_lt.2 c63n)
             (try clear c63n); have c63b0 := eq_true aC; have c63b1 : decide (((a1.extract 0 ((a5) : Int).toNat) ++ (strOfNums a8)).size + (a1.extract ((af) : Int).toNat a1.size).size ≤ 9223372036854775807) = true := decide_eq_true aC
             try have c63b2 : (9223372036854775807 < ((a1.extract 0 ((a5) : Int).toNat) ++ (strOfNums a8)).size + (a1.extract ((af) : Int).toNat a1.size).size) = False := eq_false (Nat.not_lt.2 aC)
             simp only [Option.some.injEq, Prod.mk.injEq] at H; obtain ⟨rfl, rfl⟩ := H
             go_enter Try.func18, Try.ntmps18
             try go_wp2_with (first | ((with_reducible refine gc 17 rfl ?_); refine gl (some 7) _ (#[.pointer (some ⟨g, 0, none⟩), .int .i64 256]) Try.func17 ?_; (with_reducible refine (spec_l1Rd_pick.calls k g s0_0 s0_1 256 a3 ae w0 _ ?side1 ?side2 A3.out).mono ?_); (case side1 => exact iq62 a4.out); (case side2 => exact bq62 HB.out a4.out); rintro e w64 ⟨rfl, hi, hb, hk⟩; refine ⟨_, rfl, ?_⟩; refine Ya3 (KeepBut.trans (kb HK.out) hk (.inl rfl)) (hb) (hi) ?_; clear HK HB a4; intro HK HB a4; (try clear hb); (try clear hb2); (try clear hk); (try clear hi)) | ((with_reducible refine gc 17 rfl ?_); refine gl (some 14) _ (#[.pointer (some ⟨g, 0, none⟩), .int .i64 5]) Try.func17 ?_; (with_reducible refine (spec_l1Rd_pick.calls k g s0_0 ae 5 aa ab w0 _ ?side1 ?side2 A4.out).mono ?_); (case side1 => exact iq62 a4.out); (case side2 => exact bq62 HB.out a4.out); rintro e w65 ⟨rfl, hi, hb, hk⟩; refine ⟨_, rfl, ?_⟩; refine Ya3 (KeepBut.trans (kb HK.out) hk (.inl rfl)) (hb) (hi) ?_; clear HK HB a4; intro HK HB a4; (try clear hb); (try clear hb2); (try clear hk); (try clear hi)))
             refine Ya3 (IsS62.drew a4.out) (keep_drew HK.out) (below_drew1 HB.out) ?_; clear a4 HK HB; intro a4 HK HB; have p54 : 0 ≤ ((a5) : Int) := oda; have q54 : (a5) < (a1.size : Int) := oda; have hx54 := bt_at a1 (a5); replace p54 := eq_true p54; replace q54 := eq_true q54; refine start_ (n := 22) (S := fun w' => True) (ds := []) (fb 22 0) (by kernel_rfl) rfl rfl trivial (fun hHeld => ?_); refine with_tabW spec_l1Bend.tab12 spec_l1Bend.bits12 (fun HT_ HW_ => ?_); generalize w65.drew = w66 at a4 HK HB hHeld ⊢; refine pu 0 55 (fb 22 1) HT_ ?_; refine pu 1 56 (fb 22 3) HT_ ?_; refine pu 2 57 (fb 22 7) HT_ ?_; refine pu 3 58 (fb 22 15) HT_ ?_; refine pu 4 59 (fb 22 31) HT_ ?_; refine pu 7 62 (fb 22 159) HT_ ?_; refine pu 16 71 (fb 22 65695) HT_ ?_; refine pu 17 72 (fb 22 196767) HT_ ?_; refine pu 18 73 (fb 22 458911) HT_ ?_; refine pu 19 74 (fb 22 983199) HT_ ?_; refine take_ (i := 5) (N := some 60) (v := ?_) (a' := ?_) (fb 22 983231) rfl rfl (take_ofW HT_.out HW_.out (by kernel_rfl)) (fun _ _ _ h => h) (Or.inl ⟨by rfl, ?_⟩) hHeld ?_ ?_; rotate_left
             ·intro w' _; go_simp; (with_reducible rfl)
             rotate_left
             ·simp only [Act.put, List.setIfInBounds_toArray, List.set_cons_zero, List.set_cons_succ, i64_w, i32_w]; rfl
             refine pu 6 61 (fb 22 983295) HT_ ?_; refine o1 8 (some 63) (fb 22 983551) HT_ (fun K hK => ?_); refine gs _ (#[.pointer (some ⟨g, 0, none⟩), .int .i64 8]) Try.func17 ?_; (with_reducible refine (spec_l1Rd_pick.calls k g s0_0 ab 8 bi aJ w0 _ ?side1 ?side2 bj.out).mono ?_); (case side1 => exact iq62 a4.out); (case side2 => exact bq62 HB.out a4.out); rintro e w67 ⟨rfl, hi, hb, hk⟩; refine ⟨_, rfl, ?_⟩; refine Ya3 (KeepBut.trans (kb HK.out) hk (.inl rfl)) (hb) (hi) ?_; clear HK HB a4; intro HK HB a4; (try clear hb); (try clear hb2); (try clear hk); (try clear hi); refine hK.out _ _ trivial (fun hHeld => ?_); clear hK K; refine nm 63 ?_; refine pu 9 64 (fb 22 984063) HT_ ?_; refine pu 10 65 (fb 22 985087) HT_ ?_; refine pu 11 66 (fb 22 987135) HT_ ?_; refine pu 12 67 (fb 22 991231) HT_ ?_; refine o1 13 (some 68) (fb 22 999423) HT_ (fun K hK => ?_); refine Kd.R_lit_step (Kd.int .u8) _ 5 ?hg (N := 68) ?hd (xs := ([(Go.bits .xor .i64 (wrap64 (bt a1 (a5))) (am)) % 256] : List Int)) (inner := [.int .u8 ((Go.bits .xor .i64 (wrap64 (bt a1 (a5))) (am)) % 256)]) (ok := fun _ => True) (okp := fun _ => True) ?hr ?hp (fun _ hk => hk) trivial (Below.refl _ _) (Nat.le_refl _) (by simp) ?_; (case hd => rfl); (case hg => rfl); (case hr => first | (go_simp; done) | (go_simp; rfl)); (case hp => exact (Reps.one (show Kd.M (Kd.int .u8) _ _ _ ((Go.bits .xor .i64 (wrap64 (bt a1 (a5))) (am)) % 256) [.int .u8 ((Go.bits .xor .i64 (wrap64 (bt a1 (a5))) (am)) % 256)] from rfl) (Reps.none _ _))); intro v204 w68 ho69 hb hg_ hnew_; clear hg_ hnew_; (first | rw [← bv.out] at ho69 | (simp only [Int.reduceToNat] at ho69; rw [← bv.out] at ho69)); refine Ya4 (Kd.R_lower ho69 (keep_size (w := w) (g := g) (row := none) (kb HK.out))) (IsS62.below (iq62 a4.out) hb) (KeepBut.trans (kb HK.out) (KeepBut.of_below hb g none) (.inl rfl)) (below_step (bq62 HB.out a4.out) hb) ?_; clear a4 HK HB; intro bJ a4 HK HB; clear hb ho69; refine hK.out _ _ trivial (fun hHeld => ?_); clear hK K; refine nm 68 ?_; refine o1 14 (some 69) (fb 22 1015807) HT_ (fun K hK => ?_); have hcv70 := own_string (P := Try.prog) Try.underlying22 Try.underlying5 Try.underlying9 (Kd.own_of_R bJ.out); refine value_ (w1 := ?_) (v := ?_) (by rfl) rfl ?_ ?_; rotate_left 2
             ·go_simp
              constructor
              ·rfl
              ·rfl
             clear hcv70; refine hK.out _ _ trivial (fun hHeld => ?_); clear hK K; refine nm 69 ?_; refine pu 15 70 (fb 22 1048575) HT_ ?_; refine pu 20 75 (fb 22 2097151) HT_ ?_; refine pu 21 4 (fb 22 4194303) HT_ ?_; refine done_ (done_of HT_.out (by kernel_rfl)) ?_
             try go_wp2
             go_ret
             exact ⟨by first | rfl | (simp [errW_none, errW_some] <;> rfl) | (simp only [← ar, ← aK, ← av, ← aB]; first | rfl | (simp [errW_none, errW_some] <;> rfl)) | (simp [*, errW_none, errW_some] <;> rfl), iq62 a4.out, bq62 HB.out a4.out, kb HK.out⟩
            ·rw [if_neg aC] at H
             exact absurd H (by simp)
           ·rw [if_neg b5] at H
            exact absurd H (by simp)
          ·rw [if_neg b4] at H
           exact absurd H (by simp)
         ·rw [if_neg aL] at H
          exact absurd H (by simp)
        ·rw [if_neg b2] at H
         exact absurd H (by simp)
       ·rw [if_neg b1] at H
        exact absurd H (by simp)
      ·rw [if_neg b0] at H
       exact absurd H (by simp)
     ·rw [if_neg aI] at H
      have bo : decide ((wrap64 (Int.tdiv (wrap64 (a3 * (wrap64 ((a1.size : Int) + 1)))) 256)) < (a1.size : Int)) = false := decide_eq_false aI; clear aI
      obtain ⟨aj, aw⟩ : ∃ j_ : Int, (wrap64 (Int.tdiv (wrap64 (a3 * (wrap64 ((a1.size : Int) + 1)))) 256)) = j_ := ⟨_, rfl⟩
      (try clear hji6w); (try clear hji12w); (try clear hji33w); (try clear hji43w); (try clear hji51w); (try clear al); (try clear an); (try clear ao); (try clear aq); (try clear ar)
      replace H : (if 0 ≤ (aj) then (if (aj) ≤ (a1.size : Int) then (if a1.size + (a1.extract ((aj) : Int).toNat a1.size).size ≤ 9223372036854775807 then (some (a1 ++ (a1.extract ((aj) : Int).toNat a1.size), ab)) else (none)) else (none)) else (none)) = some (r1, r2) := by first | (rw [aw] at H; exact H) | (simp only [aw] at H ⊢; exact H)
      (try rw [aw] at bo); (try rw [aw] at A3); (try rw [aw] at A4); have hji71w : (IntKind.i64.wrap (Int.tdiv (wrap64 (a3 * (wrap64 ((a1.size : Int) + 1)))) 256)) = aj := (i64_w _).trans aw
      by_cases b6 : 0 ≤ (aj)
      ·rw [if_pos b6] at H
       have c72b0 := eq_true b6; have c72b1 : decide (0 ≤ (aj)) = true := decide_eq_true b6; clear b6
       by_cases b7 : (aj) ≤ (a1.size : Int)
       ·rw [if_pos b7] at H
        have c73b0 := eq_true b7; have c73b1 : decide ((aj) ≤ (a1.size : Int)) = true := decide_eq_true b7; clear b7
        by_cases aM : a1.size + (a1.extract ((aj) : Int).toNat a1.size).size ≤ 9223372036854775807
        ·rw [if_pos aM] at H
         try have c74n : a1.size + (a1.size - ((aj) : Int).toNat) ≤ 9223372036854775807 := (by have h_ := aM; have g0_ : (aj) ≤ (a1.size : Int) := (by first | assumption | exact of_eq_true (by assumption) | exact of_decide_eq_true (by assumption)); (try simp only [ByteArray.size_append] at h_); (try simp only [ByteArray.size_extract] at h_); omega)
         try have c74p := eq_true c74n
         try have c74q := decide_eq_true c74n
         try have c74r := eq_false (Nat.not_lt.2 c74n)
         (try clear c74n); have c74b0 := eq_true aM; have c74b1 : decide (a1.size + (a1.extract ((aj) : Int).toNat a1.size).size ≤ 9223372036854775807) = true := decide_eq_true aM
         try have c74b2 : (9223372036854775807 < a1.size + (a1.extract ((aj) : Int).toNat a1.size).size) = False := eq_false (Nat.not_lt.2 aM)
         simp only [Option.some.injEq, Prod.mk.injEq] at H; obtain ⟨rfl, rfl⟩ := H
         go_enter Try.func18, Try.ntmps18
         go_wp2_with (first | ((with_reducible refine gc 17 rfl ?_); refine gl (some 7) _ (#[.pointer (some ⟨g, 0, none⟩), .int .i64 256]) Try.func17 ?_; (with_reducible refine (spec_l1Rd_pick.calls k g s0_0 s0_1 256 a3 ae w0 _ ?side1 ?side2 A3.out).mono ?_); (case side1 => exact iq62 a4.out); (case side2 => exact bq62 HB.out a4.out); rintro e w75 ⟨rfl, hi, hb, hk⟩; refine ⟨_, rfl, ?_⟩; refine Ya3 (KeepBut.trans (kb HK.out) hk (.inl rfl)) (hb) (hi) ?_; clear HK HB a4; intro HK HB a4; (try clear hb); (try clear hb2); (try clear hk); (try clear hi)) | ((with_reducible refine gc 17 rfl ?_); refine gl (some 14) _ (#[.pointer (some ⟨g, 0, none⟩), .int .i64 5]) Try.func17 ?_; (with_reducible refine (spec_l1Rd_pick.calls k g s0_0 ae 5 aa ab w0 _ ?side1 ?side2 A4.out).mono ?_); (case side1 => exact iq62 a4.out); (case side2 => exact bq62 HB.out a4.out); rintro e w76 ⟨rfl, hi, hb, hk⟩; refine ⟨_, rfl, ?_⟩; refine Ya3 (KeepBut.trans (kb HK.out) hk (.inl rfl)) (hb) (hi) ?_; clear HK HB a4; intro HK HB a4; (try clear hb); (try clear hb2); (try clear hk); (try clear hi)))
         go_ret
         exact ⟨by first | rfl | (simp [errW_none, errW_some] <;> rfl) | (simp only [← aw]; first | rfl | (simp [errW_none, errW_some] <;> rfl)) | (simp [*, errW_none, errW_some] <;> rfl), iq62 a4.out, bq62 HB.out a4.out, kb HK.out⟩
        ·rw [if_neg aM] at H
         exact absurd H (by simp)
       ·rw [if_neg b7] at H
        exact absurd H (by simp)
      ·rw [if_neg b6] at H
       exact absurd H (by simp)
    ·rw [if_neg aA] at H
     have bH : (aa == 3) = false := beq_eq_false_iff_ne.mpr aA; have bI : (aa != 3) = true := bne_iff_ne.mpr aA
     obtain ⟨ak, aN⟩ : ∃ j_ : Int, (wrap64 (Int.tdiv (wrap64 (a3 * (wrap64 ((a1.size : Int) + 1)))) 256)) = j_ := ⟨_, rfl⟩
     (try clear hji6w); (try clear hji12w); (try clear hji33w); (try clear hji43w); (try clear hji51w); (try clear hji71w); (try clear al); (try clear an); (try clear ao); (try clear aq); (try clear ar); (try clear aw)
     replace H : (if 0 ≤ (ak) then (if (ak) ≤ (a1.size : Int) then (if a1.size + (a1.extract ((ak) : Int).toNat a1.size).size ≤ 9223372036854775807 then (some (a1 ++ (a1.extract ((ak) : Int).toNat a1.size), ab)) else (none)) else (none)) else (none)) = some (r1, r2) := by first | (rw [aN] at H; exact H) | (simp only [aN] at H ⊢; exact H)
     (try rw [aN] at A3); (try rw [aN] at A4); have hji77w : (IntKind.i64.wrap (Int.tdiv (wrap64 (a3 * (wrap64 ((a1.size : Int) + 1)))) 256)) = ak := (i64_w _).trans aN
     by_cases b8 : 0 ≤ (ak)
     ·rw [if_pos b8] at H
      have c78b0 := eq_true b8; have c78b1 : decide (0 ≤ (ak)) = true := decide_eq_true b8; clear b8
      by_cases b9 : (ak) ≤ (a1.size : Int)
      ·rw [if_pos b9] at H
       have c79b0 := eq_true b9; have c79b1 : decide ((ak) ≤ (a1.size : Int)) = true := decide_eq_true b9; clear b9
       by_cases aO : a1.size + (a1.extract ((ak) : Int).toNat a1.size).size ≤ 9223372036854775807
       ·rw [if_pos aO] at H
        try have c80n : a1.size + (a1.size - ((ak) : Int).toNat) ≤ 9223372036854775807 := (by have h_ := aO; have g0_ : (ak) ≤ (a1.size : Int) := (by first | assumption | exact of_eq_true (by assumption) | exact of_decide_eq_true (by assumption)); (try simp only [ByteArray.size_append] at h_); (try simp only [ByteArray.size_extract] at h_); omega)
        try have c80p := eq_true c80n
        try have c80q := decide_eq_true c80n
        try have c80r := eq_false (Nat.not_lt.2 c80n)
        (try clear c80n); have c80b0 := eq_true aO; have c80b1 : decide (a1.size + (a1.extract ((ak) : Int).toNat a1.size).size ≤ 9223372036854775807) = true := decide_eq_true aO
        try have c80b2 : (9223372036854775807 < a1.size + (a1.extract ((ak) : Int).toNat a1.size).size) = False := eq_false (Nat.not_lt.2 aO)
        simp only [Option.some.injEq, Prod.mk.injEq] at H; obtain ⟨rfl, rfl⟩ := H
        go_enter Try.func18, Try.ntmps18
        go_wp2_with (first | ((with_reducible refine gc 17 rfl ?_); refine gl (some 7) _ (#[.pointer (some ⟨g, 0, none⟩), .int .i64 256]) Try.func17 ?_; (with_reducible refine (spec_l1Rd_pick.calls k g s0_0 s0_1 256 a3 ae w0 _ ?side1 ?side2 A3.out).mono ?_); (case side1 => exact iq62 a4.out); (case side2 => exact bq62 HB.out a4.out); rintro e w81 ⟨rfl, hi, hb, hk⟩; refine ⟨_, rfl, ?_⟩; refine Ya3 (KeepBut.trans (kb HK.out) hk (.inl rfl)) (hb) (hi) ?_; clear HK HB a4; intro HK HB a4; (try clear hb); (try clear hb2); (try clear hk); (try clear hi)) | ((with_reducible refine gc 17 rfl ?_); refine gl (some 14) _ (#[.pointer (some ⟨g, 0, none⟩), .int .i64 5]) Try.func17 ?_; (with_reducible refine (spec_l1Rd_pick.calls k g s0_0 ae 5 aa ab w0 _ ?side1 ?side2 A4.out).mono ?_); (case side1 => exact iq62 a4.out); (case side2 => exact bq62 HB.out a4.out); rintro e w82 ⟨rfl, hi, hb, hk⟩; refine ⟨_, rfl, ?_⟩; refine Ya3 (KeepBut.trans (kb HK.out) hk (.inl rfl)) (hb) (hi) ?_; clear HK HB a4; intro HK HB a4; (try clear hb); (try clear hb2); (try clear hk); (try clear hi)))
        go_ret
        exact ⟨by first | rfl | (simp [errW_none, errW_some] <;> rfl) | (simp only [← aN]; first | rfl | (simp [errW_none, errW_some] <;> rfl)) | (simp [*, errW_none, errW_some] <;> rfl), iq62 a4.out, bq62 HB.out a4.out, kb HK.out⟩
       ·rw [if_neg aO] at H
        exact absurd H (by simp)
      ·rw [if_neg b9] at H
       exact absurd H (by simp)
     ·rw [if_neg b8] at H
      exact absurd H (by simp)

end Go.Proofs.Ytknagppkeodggaa.P


namespace Go.Proofs.Ytknagppkeodggaa.P
open Go.RowKit Go.Proofs.YtknagppkeodggaaW.PrintWords Go.Proofs.YtknagppkeodggaaW.PrintLast Go.Proofs.YtknagppkeodggaaW.PrintMore
attribute [local go_sem] max2_int min2_int max_two min_two max_three min_three max_four min_four
set_option linter.unusedVariables false
set_option linter.unusedSimpArgs false

/-! ### spec_l3Draw: function 15 -/
mutual
def spec_l3Draw.j0 : Nat → ByteArray → List Int → Int → Int → ByteArray → Bool → Option (Int × ByteArray × List ByteArray × Bool × Int)
 | 0, _, _, _, _, _, _ => none
 | k + 1, x4, ay, aH, aI, aJ, aK => (spec_Feed.f k aI aJ ([] : List ByteArray) aK x4).bind fun bt225 => ((spec_l1Rd_pick.f k ay aH 12).bind fun bt231 => (if bt231.1 = 0 then ((spec_l1Rd_pick.f k ay bt231.2 2).bind fun bt233 => (spec_l3Draw.l0 k (wrap64 (500 - bt233.1)) ay bt233.2 bt225.1 bt225.2.1 bt225.2.2.1 bt225.2.2.2)) else (some (bt225.1, bt225.2.1, bt225.2.2.1, bt225.2.2.2, bt231.2))))
def spec_l3Draw.l0 : Nat → Int → List Int → Int → Int → ByteArray → List ByteArray → Bool → Option (Int × ByteArray × List ByteArray × Bool × Int)
 | 0, _, _, _, _, _, _, _ => none
 | k + 1, x5, ay, aH, aI, aJ, aM, aK => if (aM.length : Int) < x5 then (if aM.length < 8796093022208 then (spec_l3Draw.l0 k x5 ay aH aI aJ (aM ++ [(⟨#[102]⟩ : ByteArray)]) aK) else (none)) else (some (aI, aJ, aM, aK, aH))
end
def spec_l3Draw.f (k : Nat) (s0_0 : List Int) (s0_1 : Int) : Option (Int × ByteArray × List ByteArray × Bool × Int) := (spec_l1Width.f k s0_0 s0_1).bind fun bt213 => ((spec_l3Payloads.f k s0_0 bt213.2).bind fun bt216 => ((spec_Encode.f k bt216.1 bt213.1).bind fun ab => ((spec_l1Rd_pick.f k s0_0 bt216.2 2).bind fun bt221 => (if bt221.1 = 0 then ((spec_l1Bend.f k s0_0 bt221.2 ab).bind fun bt223 => (spec_l3Draw.j0 k bt223.1 s0_0 bt223.2 bt213.1 (⟨#[]⟩ : ByteArray) false)) else (spec_l3Draw.j0 k ab s0_0 bt221.2 bt213.1 (⟨#[]⟩ : ByteArray) false)))))
theorem spec_l3Draw.mono_l : ∀ k, (∀ y0 y1 y2 y3 y4 y5, LeO (spec_l3Draw.j0 k y0 y1 y2 y3 y4 y5) (spec_l3Draw.j0 (k + 1) y0 y1 y2 y3 y4 y5)) ∧ (∀ y0 y1 y2 y3 y4 y5 y6, LeO (spec_l3Draw.l0 k y0 y1 y2 y3 y4 y5 y6) (spec_l3Draw.l0 (k + 1) y0 y1 y2 y3 y4 y5 y6))
 | 0 => ⟨fun _ _ _ _ _ _ r h => by simp [spec_l3Draw.j0] at h, fun _ _ _ _ _ _ _ r h => by simp [spec_l3Draw.l0] at h⟩
 | k + 1 => by
  obtain ⟨ih0, ih1⟩ := spec_l3Draw.mono_l k; refine ⟨?_, ?_⟩
  ·intro y0 y1 y2 y3 y4 y5
   unfold spec_l3Draw.j0
   repeat' first
   | (with_reducible exact ih0 _ _ _ _ _ _)
   | (with_reducible exact ih1 _ _ _ _ _ _ _)
   | (with_reducible exact spec_Encode.mono _ _ _)
   | (with_reducible exact spec_Feed.mono _ _ _ _ _ _)
   | (with_reducible exact spec_l1Bend.mono _ _ _ _)
   | (with_reducible exact spec_l1Rd_pick.mono _ _ _ _)
   | (with_reducible exact spec_l1Width.mono _ _ _)
   | (with_reducible exact spec_l3Payloads.mono _ _ _)
   | (with_reducible exact LeO.refl _)
   | (with_reducible exact LeO.none _)
   | (with_reducible refine LeO.ite ?_ ?_)
   | (with_reducible refine LeO.bind ?_ (fun _ => ?_))
   | exact ih0 _ _ _ _ _ _
   | exact ih1 _ _ _ _ _ _ _
   | exact spec_Encode.mono _ _ _
   | exact spec_Feed.mono _ _ _ _ _ _
   | exact spec_l1Bend.mono _ _ _ _
   | exact spec_l1Rd_pick.mono _ _ _ _
   | exact spec_l1Width.mono _ _ _
   | exact spec_l3Payloads.mono _ _ _
   | exact LeO.none _
   | refine LeO.ite ?_ ?_
   | refine LeO.bind ?_ (fun _ => ?_)
  ·intro y0 y1 y2 y3 y4 y5 y6
   unfold spec_l3Draw.l0
   repeat' first
   | (with_reducible exact ih0 _ _ _ _ _ _)
   | (with_reducible exact ih1 _ _ _ _ _ _ _)
   | (with_reducible exact spec_Encode.mono _ _ _)
   | (with_reducible exact spec_Feed.mono _ _ _ _ _ _)
   | (with_reducible exact spec_l1Bend.mono _ _ _ _)
   | (with_reducible exact spec_l1Rd_pick.mono _ _ _ _)
   | (with_reducible exact spec_l1Width.mono _ _ _)
   | (with_reducible exact spec_l3Payloads.mono _ _ _)
   | (with_reducible exact LeO.refl _)
   | (with_reducible exact LeO.none _)
   | (with_reducible refine LeO.ite ?_ ?_)
   | (with_reducible refine LeO.bind ?_ (fun _ => ?_))
   | exact ih0 _ _ _ _ _ _
   | exact ih1 _ _ _ _ _ _ _
   | exact spec_Encode.mono _ _ _
   | exact spec_Feed.mono _ _ _ _ _ _
   | exact spec_l1Bend.mono _ _ _ _
   | exact spec_l1Rd_pick.mono _ _ _ _
   | exact spec_l1Width.mono _ _ _
   | exact spec_l3Payloads.mono _ _ _
   | exact LeO.none _
   | refine LeO.ite ?_ ?_
   | refine LeO.bind ?_ (fun _ => ?_)
theorem spec_l3Draw.mono : ∀ a0 a1 k, LeO (spec_l3Draw.f k a0 a1) (spec_l3Draw.f (k + 1) a0 a1) := by
 intro a0 a1 k; obtain ⟨ih0, ih1⟩ := spec_l3Draw.mono_l k
 unfold spec_l3Draw.f
 repeat' first
   | (with_reducible exact ih0 _ _ _ _ _ _)
   | (with_reducible exact ih1 _ _ _ _ _ _ _)
   | (with_reducible exact spec_Encode.mono _ _ _)
   | (with_reducible exact spec_Feed.mono _ _ _ _ _ _)
   | (with_reducible exact spec_l1Bend.mono _ _ _ _)
   | (with_reducible exact spec_l1Rd_pick.mono _ _ _ _)
   | (with_reducible exact spec_l1Width.mono _ _ _)
   | (with_reducible exact spec_l3Payloads.mono _ _ _)
   | (with_reducible exact LeO.refl _)
   | (with_reducible exact LeO.none _)
   | (with_reducible refine LeO.ite ?_ ?_)
   | (with_reducible refine LeO.bind ?_ (fun _ => ?_))
   | exact ih0 _ _ _ _ _ _
   | exact ih1 _ _ _ _ _ _ _
   | exact spec_Encode.mono _ _ _
   | exact spec_Feed.mono _ _ _ _ _ _
   | exact spec_l1Bend.mono _ _ _ _
   | exact spec_l1Rd_pick.mono _ _ _ _
   | exact spec_l1Width.mono _ _ _
   | exact spec_l3Payloads.mono _ _ _
   | exact LeO.none _
   | refine LeO.ite ?_ ?_
   | refine LeO.bind ?_ (fun _ => ?_)
set_option maxHeartbeats 8000000 in
set_option maxRecDepth 100000 in
theorem spec_l3Draw.calls (k : Nat) (g : Nat) (s0_0 : List Int) (s0_1 : Int) (r1 : Int) (r2 : ByteArray) (r3 : List ByteArray) (r4 : Bool) (r5 : Int) (w0 w : World) (hI : IsS62 w0 w g s0_0 s0_1) (hB : Below w0.heap.size w0 w) (h : spec_l3Draw.f k s0_0 s0_1 = some (r1, r2, r3, r4, r5)) :
  Calls Try.prog 15 #[.pointer (some ⟨g, 0, none⟩)] w fun e w' => ∃ v2_ : Value, e = .returned (.agg #[.int .i64 r1, .string r2, v2_, .bool r4]) ∧ Kd.R Kd.string 9 w' w.heap.size (fun _ => True) v2_ r3 ∧ IsS62 w0 w' g s0_0 r5 ∧ Below w0.heap.size w0 w' ∧ KeepBut w w' g none := by
 have hu25 := Try.underlying25; have a3 := Aside0.mk hI; have HK := Aside0.mk (KeepBut.refl w g none); have HL := Aside0.mk hB.size; clear hI; have HW0 := Aside0.mk hB.size; have HB := Aside0.mk hB; clear hB; have H : ((spec_l1Width.f k s0_0 s0_1).bind fun bt213 => ((spec_l3Payloads.f k s0_0 bt213.2).bind fun bt216 => ((spec_Encode.f k bt216.1 bt213.1).bind fun ab => ((spec_l1Rd_pick.f k s0_0 bt216.2 2).bind fun bt221 => (if bt221.1 = 0 then ((spec_l1Bend.f k s0_0 bt221.2 ab).bind fun bt223 => (spec_l3Draw.j0 k bt223.1 s0_0 bt223.2 bt213.1 (⟨#[]⟩ : ByteArray) false)) else (spec_l3Draw.j0 k ab s0_0 bt221.2 bt213.1 (⟨#[]⟩ : ByteArray) false)))))) = some (r1, r2, r3, r4, r5) := h; clear h; replace H := Option.bind_eq_some_iff.mp H; obtain ⟨⟨a6, aw⟩, aN, H⟩ := H; replace H : ((spec_l3Payloads.f k s0_0 aw).bind fun bt216 => ((spec_Encode.f k bt216.1 a6).bind fun ab => ((spec_l1Rd_pick.f k s0_0 bt216.2 2).bind fun bt221 => (if bt221.1 = 0 then ((spec_l1Bend.f k s0_0 bt221.2 ab).bind fun bt223 => (spec_l3Draw.j0 k bt223.1 s0_0 bt223.2 a6 (⟨#[]⟩ : ByteArray) false)) else (spec_l3Draw.j0 k ab s0_0 bt221.2 a6 (⟨#[]⟩ : ByteArray) false))))) = some (r1, r2, r3, r4, r5) := H; have A2 := Aside0.mk aN; clear aN; replace H := Option.bind_eq_some_iff.mp H; obtain ⟨⟨aQ, aR⟩, A30, H⟩ := H; replace H : ((spec_Encode.f k aQ a6).bind fun ab => ((spec_l1Rd_pick.f k s0_0 aR 2).bind fun bt221 => (if bt221.1 = 0 then ((spec_l1Bend.f k s0_0 bt221.2 ab).bind fun bt223 => (spec_l3Draw.j0 k bt223.1 s0_0 bt223.2 a6 (⟨#[]⟩ : ByteArray) false)) else (spec_l3Draw.j0 k ab s0_0 bt221.2 a6 (⟨#[]⟩ : ByteArray) false)))) = some (r1, r2, r3, r4, r5) := H; have A3 := Aside0.mk A30; clear A30; replace H := Option.bind_eq_some_iff.mp H; obtain ⟨ab, A40, H⟩ := H; replace H : ((spec_l1Rd_pick.f k s0_0 aR 2).bind fun bt221 => (if bt221.1 = 0 then ((spec_l1Bend.f k s0_0 bt221.2 ab).bind fun bt223 => (spec_l3Draw.j0 k bt223.1 s0_0 bt223.2 a6 (⟨#[]⟩ : ByteArray) false)) else (spec_l3Draw.j0 k ab s0_0 bt221.2 a6 (⟨#[]⟩ : ByteArray) false))) = some (r1, r2, r3, r4, r5) := H; have A4 := Aside0.mk A40; clear A40; replace H := Option.bind_eq_some_iff.mp H; obtain ⟨⟨aq, az⟩, A50, H⟩ := H; replace H : (if aq = 0 then ((spec_l1Bend.f k s0_0 az ab).bind fun bt223 => (spec_l3Draw.j0 k bt223.1 s0_0 bt223.2 a6 (⟨#[]⟩ : ByteArray) false)) else (spec_l3Draw.j0 k ab s0_0 az a6 (⟨#[]⟩ : ByteArray) false)) = some (r1, r2, r3, r4, r5) := H; have A5 := Aside0.mk A50; clear A50; have b0 := Aside0.mk H; clear H
 go_enter Try.func15, Try.ntmps15
 try go_wp2_with (first | ((with_reducible refine gd 2 rfl ?_); refine bx 2 25 (#[.int .i64 0, .string (⟨#[]⟩ : ByteArray), .slice none 0 0, .bool false]) ?_; intro a7 hg w7 hbox hb; refine Ya8 (IsS62.below (iq62 a3.out) hb) (KeepBut.trans (kb HK.out) (KeepBut.of_below hb g none) (.inl rfl)) (below_step (bq62 HB.out a3.out) hb) (hbox) ((by rw [hg]; exact (keep_size (w := w) (g := g) (row := none) (kb HK.out)) : w.heap.size ≤ a7)) ((Nat.le_trans HW0.out (by rw [hg]; exact (keep_size (w := w) (g := g) (row := none) (kb HK.out)) : w.heap.size ≤ a7) : w0.heap.size ≤ a7)) ((by rw [hg]; exact Nat.ne_of_lt (IsS62.lt (show IsS62 w0 _ g s0_0 s0_1 from iq62 a3.out)) : g ≠ a7)) ((by rw [hg]; exact Nat.ne_of_gt (IsS62.lt (show IsS62 w0 _ g s0_0 s0_1 from iq62 a3.out)) : a7 ≠ g)) ?_; clear a3 HK HB; intro a3 HK HB a5 GW212 GE212 bd ai; clear hb hbox hg) | ((with_reducible refine gc 27 rfl ?_); refine gl (some 7) _ (#[.pointer (some ⟨g, 0, none⟩)]) Try.func27 ?_; (with_reducible refine (spec_l1Width.calls k g s0_0 s0_1 a6 aw w0 _ ?side1 ?side2 A2.out).mono ?_); (case side1 => exact iq62 a3.out); (case side2 => exact bq62 HB.out a3.out); rintro e w8 ⟨rfl, hi, hb, hk⟩; refine ⟨_, rfl, ?_⟩; refine Ya4 (kx hk a5 ai) (KeepBut.trans (kb HK.out) hk (.inl rfl)) (hb) (hi) ?_; clear a5 HK HB a3; intro a5 HK HB a3; (try clear hb); (try clear hb2); (try clear hk); (try clear hi)) | ((with_reducible refine gd 3 rfl ?_); refine bx 3 25 (#[.int .i64 0, .string (⟨#[]⟩ : ByteArray), .slice none 0 0, .bool false]) ?_; intro a4 hg w9 hbox hb; refine Ya11 (IsS62.below (iq62 a3.out) hb) (bb a5 hb) (KeepBut.trans (kb HK.out) (KeepBut.of_below hb g none) (.inl rfl)) (below_step (bq62 HB.out a3.out) hb) (hbox) ((by rw [hg]; exact (keep_size (w := w) (g := g) (row := none) (kb HK.out)) : w.heap.size ≤ a4)) ((Nat.le_trans HW0.out (by rw [hg]; exact (keep_size (w := w) (g := g) (row := none) (kb HK.out)) : w.heap.size ≤ a4) : w0.heap.size ≤ a4)) (bl hg a5) (br hg a5) ((by rw [hg]; exact Nat.ne_of_lt (IsS62.lt (show IsS62 w0 _ g s0_0 aw from iq62 a3.out)) : g ≠ a4)) ((by rw [hg]; exact Nat.ne_of_gt (IsS62.lt (show IsS62 w0 _ g s0_0 aw from iq62 a3.out)) : a4 ≠ g)) ?_; clear a3 a5 HK HB; intro a3 a5 HK HB a2 GW215 GE215 aj aA aB ah; clear hb hbox hg; have hnb10 := aA.out; have hnc10 := aj.out; have hnb11 := ah.out; have hnc11 := aB.out; have bg : w9.cell? ⟨a4, 0, none⟩ = some (.int .i64 0) := bc a2 0; have bh : w9.cell? ⟨a4, 1, none⟩ = some (.string (⟨#[]⟩ : ByteArray)) := bc a2 1; have bi : w9.cell? ⟨a4, 2, none⟩ = some (.slice none 0 0) := bc a2 2; have bj : w9.cell? ⟨a4, 3, none⟩ = some (.bool false) := bc a2 3; have bm := blk_frozen a2.out 0; have bn := blk_frozen a2.out 1; have bo := blk_frozen a2.out 2; have bq := blk_frozen a2.out 3))
 have b1 : Aside0 (((((w9.setCell ⟨a4, 0, none⟩ (.int .i64 a6)).setCell ⟨a4, 1, none⟩ (.string (⟨#[]⟩ : ByteArray))).setCell ⟨a4, 2, none⟩ (.slice none 0 0)).setCell ⟨a4, 3, none⟩ (.bool false)).heap[a7]? = some (.cells #[.int .i64 0, .string (⟨#[]⟩ : ByteArray), .slice none 0 0, .bool false] 25 (0, 0))) := ⟨bkf a5.out aj.out⟩
 have b2 : Aside0 (((((w9.setCell ⟨a4, 0, none⟩ (.int .i64 a6)).setCell ⟨a4, 1, none⟩ (.string (⟨#[]⟩ : ByteArray))).setCell ⟨a4, 2, none⟩ (.slice none 0 0)).setCell ⟨a4, 3, none⟩ (.bool false)).heap[a4]? = some (.cells #[.int .i64 a6, .string (⟨#[]⟩ : ByteArray), .slice none 0 0, .bool false] 25 (0, 0))) := ⟨bp a2.out⟩
 have b3 : Aside0 (IsS62 w0 ((((w9.setCell ⟨a4, 0, none⟩ (.int .i64 a6)).setCell ⟨a4, 1, none⟩ (.string (⟨#[]⟩ : ByteArray))).setCell ⟨a4, 2, none⟩ (.slice none 0 0)).setCell ⟨a4, 3, none⟩ (.bool false)) g s0_0 aw) := ⟨iq62 a3.out⟩
 have b4 : Aside0 (KeepBut w ((((w9.setCell ⟨a4, 0, none⟩ (.int .i64 a6)).setCell ⟨a4, 1, none⟩ (.string (⟨#[]⟩ : ByteArray))).setCell ⟨a4, 2, none⟩ (.slice none 0 0)).setCell ⟨a4, 3, none⟩ (.bool false)) g none) := ⟨kb HK.out⟩
 have b5 : Aside0 (Below w0.heap.size w0 ((((w9.setCell ⟨a4, 0, none⟩ (.int .i64 a6)).setCell ⟨a4, 1, none⟩ (.string (⟨#[]⟩ : ByteArray))).setCell ⟨a4, 2, none⟩ (.slice none 0 0)).setCell ⟨a4, 3, none⟩ (.bool false))) := ⟨bq62 HB.out a3.out⟩
 (try clear a5); (try clear a2); (try clear a3); (try clear HK); (try clear HB); generalize ((((w9.setCell ⟨a4, 0, none⟩ (.int .i64 a6)).setCell ⟨a4, 1, none⟩ (.string (⟨#[]⟩ : ByteArray))).setCell ⟨a4, 2, none⟩ (.slice none 0 0)).setCell ⟨a4, 3, none⟩ (.bool false)) = w13 at b1 b2 b3 b4 b5 ⊢; have a5 := b1; have a2 := b2; have a3 := b3; have HK := b4; have HB := b5; clear b1 b2 b3 b4 b5; refine Ya5 (blk_drew a5.out) (blk_drew a2.out) (IsS62.drew a3.out) (keep_drew HK.out) (below_drew1 HB.out) ?_; clear a5 a2 a3 HK HB; intro a5 a2 a3 HK HB; refine start_ (n := 6) (S := fun w' => w'.cell? ⟨a4, 0, none⟩ = some (.int .i64 a6) ∧ w'.cell? ⟨a4, 1, none⟩ = some (.string (⟨#[]⟩ : ByteArray)) ∧ w'.cell? ⟨a4, 2, none⟩ = some (.slice none 0 0) ∧ w'.cell? ⟨a4, 3, none⟩ = some (.bool false)) (ds := []) (fb 6 0) (by kernel_rfl) rfl rfl ⟨bc a2 0, bc a2 1, bc a2 2, bc a2 3⟩ (fun hHeld => ?_); generalize w13.drew = w14 at a5 a2 a3 HK HB hHeld ⊢; refine pure_ (i := 0) (N := some 9) (v := ?_) (a' := ?_) (fb 6 1) rfl rfl (by kernel_rfl) (fun _ _ _ h => h) (Or.inl ⟨by rfl, ?_⟩) ?_ ?_; rotate_left
 ·intro w'; go_simp; (with_reducible rfl)
 rotate_left
 ·simp only [Act.put, List.setIfInBounds_toArray, List.set_cons_zero, List.set_cons_succ, i64_w, i32_w]; rfl
 refine pure_ (i := 2) (N := some 11) (v := ?_) (a' := ?_) (fb 6 5) rfl rfl (by kernel_rfl) (fun _ _ _ h => h) (Or.inl ⟨by rfl, ?_⟩) ?_ ?_; rotate_left
 ·intro w'; go_simp; (with_reducible rfl)
 rotate_left
 ·simp only [Act.put, List.setIfInBounds_toArray, List.set_cons_zero, List.set_cons_succ, i64_w, i32_w]; rfl
 refine take_ (i := 3) (N := some 12) (v := ?_) (a' := ?_) (fb 6 13) rfl rfl (by kernel_rfl) (fun _ _ _ h => h) (Or.inl ⟨by rfl, ?_⟩) hHeld ?_ ?_; rotate_left
 ·rintro w' ⟨s0, s1, s2, s3⟩; go_simp; (with_reducible rfl)
 rotate_left
 ·simp only [Act.put, List.setIfInBounds_toArray, List.set_cons_zero, List.set_cons_succ, i64_w, i32_w]; rfl
 refine one_ (i := 1) (N := some 10) (fb 6 15) rfl rfl (by kernel_rfl) (by decide) (fun K hK => ?_); refine gs _ (#[.pointer (some ⟨g, 0, none⟩)]) Try.func16 ?_; (with_reducible refine (spec_l3Payloads.calls k g s0_0 aw aQ aR w0 _ ?side1 ?side2 A3.out).mono ?_); (case side1 => exact iq62 a3.out); (case side2 => exact bq62 HB.out a3.out); rintro e w15 ⟨v217, rfl, ho0, hi, hb, hk⟩; refine ⟨_, rfl, ?_⟩; refine Ya6 (kx hk a5 ai) (kx hk a2 ah) (Kd.R_lower ho0 (keep_size (w := w) (g := g) (row := none) (kb HK.out))) (KeepBut.trans (kb HK.out) hk (.inl rfl)) (hb) (hi) ?_; clear a5 a2 HK HB a3; intro a5 a2 ag HK HB a3; (try clear hb); (try clear hb2); (try clear hk); (try clear hi); (try clear ho0); obtain ⟨bK, bL, bu⟩ := Kd.R_slice ag.out; (first | subst bu | (injection bu with f1_ f2_ f3_; have f4_ := f1_.symm; have f5_ := f3_.symm; clear f1_ f2_ f3_; subst f4_; subst f5_)); refine hK.out _ _ ⟨bc a2 0, bc a2 1, bc a2 2, bc a2 3⟩ (fun hHeld => ?_); clear hK K; refine nm 10 ?_; refine one_ (i := 4) (N := some 13) (fb 6 31) rfl rfl (by kernel_rfl) (by decide) (fun K hK => ?_); refine gs _ (#[.slice bK aQ.length bL, .int .i64 a6]) Try.func12 ?_; (with_reducible refine (spec_Encode.calls k _ _ aQ a6 ab _ ?side1 ?side2 A4.out).mono ?_); (case side1 => repeat (first | exact (Kd.R_reads' ag.out).2.2 | (with_reducible refine Kd.C_alloc ?_ _) | (with_reducible refine Kd.C_drewN ?_ _) | (with_reducible refine Kd.C_drew ?_))); (case side2 => exact (Kd.R_reads' ag.out).2.1); rintro e w17 ⟨rfl, hb⟩; refine ⟨_, rfl, ?_⟩; refine Ya6 (Kd.R_below (kr ag.out) hb) (IsS62.below (iq62 a3.out) hb) (bb a5 hb) (bb a2 hb) (KeepBut.trans (kb HK.out) (KeepBut.of_below hb g none) (.inl rfl)) (below_step (bq62 HB.out a3.out) hb) ?_; clear ag a3 a5 a2 HK HB; intro ag a3 a5 a2 HK HB; (try clear hb); (try clear hb2); (try clear hk); (try clear hi); refine hK.out _ _ ⟨bc a2 0, bc a2 1, bc a2 2, bc a2 3⟩ (fun hHeld => ?_); clear hK K; refine nm 13 ?_; refine pure_ (i := 5) (N := some 4) (v := ?_) (a' := ?_) (fb 6 63) rfl rfl (by kernel_rfl) (fun _ _ _ h => h) (Or.inl ⟨by rfl, ?_⟩) ?_ ?_; rotate_left
 ·intro w'; go_simp; (with_reducible rfl)
 rotate_left
 ·simp only [Act.put, List.setIfInBounds_toArray, List.set_cons_zero, List.set_cons_succ, i64_w, i32_w]; rfl
 refine done_ (by kernel_rfl) ?_
 go_upto_if 16 with (first | ((with_reducible refine gc 17 rfl ?_); refine gl (some 15) _ (#[.pointer (some ⟨g, 0, none⟩), .int .i64 2]) Try.func17 ?_; (with_reducible refine (spec_l1Rd_pick.calls k g s0_0 aR 2 aq az w0 _ ?side1 ?side2 A5.out).mono ?_); (case side1 => exact iq62 a3.out); (case side2 => exact bq62 HB.out a3.out); rintro e w18 ⟨rfl, hi, hb, hk⟩; refine ⟨_, rfl, ?_⟩; refine Ya6 (kx hk a5 ai) (kx hk a2 ah) (ra62 (iq62 a3.out) (kr ag.out) hk) (KeepBut.trans (kb HK.out) hk (.inl rfl)) (hb) (hi) ?_; clear a5 a2 ag HK HB a3; intro a5 a2 ag HK HB a3; (try clear hb); (try clear hb2); (try clear hk); (try clear hi)))
 (try simp only [Act.put, List.setIfInBounds_toArray, List.set_cons_zero, List.set_cons_succ])
 go_cut [4] (fun v4 wc => ∃ (kq : Nat) (ar : ByteArray) (am : Int), v4 = .string ar ∧ Aside0 (spec_l3Draw.j0 kq ar s0_0 am a6 (⟨#[]⟩ : ByteArray) false = some (r1, r2, r3, r4, r5)) ∧ Aside0 (kq ≤ k) ∧ Aside0 (wc.heap[a7]? = some (.cells #[.int .i64 0, .string (⟨#[]⟩ : ByteArray), (.slice none 0 0), .bool false] 25 (0, 0))) ∧ Aside0 (wc.heap[a4]? = some (.cells #[.int .i64 a6, .string (⟨#[]⟩ : ByteArray), (.slice none 0 0), .bool false] 25 (0, 0))) ∧ Aside0 (IsS62 w0 wc g s0_0 am) ∧ Aside0 (KeepBut w wc g none) ∧ Aside0 (Below w0.heap.size w0 wc))
 case first =>
  have H := b0.out; clear b0
  by_cases ak : aq = 0
  ·rw [if_pos ak] at H
   have au : (aq == 0) = true := beq_iff_eq.mpr ak; have b6 : (aq != 0) = false := bne_eq_false_iff_eq.mpr ak; clear ak; (first | rw [au] | (simp only [i64_w, i32_w]; rw [au]) | skip); replace H := Option.bind_eq_some_iff.mp H; obtain ⟨⟨b7, b8⟩, bv, H⟩ := H; replace H : (spec_l3Draw.j0 k b7 s0_0 b8 a6 (⟨#[]⟩ : ByteArray) false) = some (r1, r2, r3, r4, r5) := H; have aN := Aside0.mk bv; clear bv; have H' := Aside0.mk H; clear H
   go_wp2_with (first | ((with_reducible refine gc 18 rfl ?_); refine gl (some 19) _ (#[.pointer (some ⟨g, 0, none⟩), .string ab]) Try.func18 ?_; (with_reducible refine (spec_l1Bend.calls k g s0_0 az ab b7 b8 w0 _ ?side1 ?side2 aN.out).mono ?_); (case side1 => exact iq62 a3.out); (case side2 => exact bq62 HB.out a3.out); rintro e w21 ⟨rfl, hi, hb, hk⟩; refine ⟨_, rfl, ?_⟩; refine Ya6 (kx hk a5 ai) (kx hk a2 ah) (ra62 (iq62 a3.out) (kr ag.out) hk) (KeepBut.trans (kb HK.out) hk (.inl rfl)) (hb) (hi) ?_; clear a5 a2 ag HK HB a3; intro a5 a2 ag HK HB a3; (try clear hb); (try clear hb2); (try clear hk); (try clear hi)))
   go_meet
   case rel => exact ⟨_, (b7), (b8), Ye1, H', ⟨by first | omega | exact Nat.le_refl _⟩, ⟨bk a5.out⟩, ⟨bk a2.out⟩, ⟨iq62 a3.out⟩, ⟨kb HK.out⟩, ⟨bq62 HB.out a3.out⟩⟩
  ·rw [if_neg ak] at H
   have au : (aq == 0) = false := beq_eq_false_iff_ne.mpr ak; have b6 : (aq != 0) = true := bne_iff_ne.mpr ak; (first | rw [au] | (simp only [i64_w, i32_w]; rw [au]) | skip); have H' := Aside0.mk H; clear H
   go_wp2
   go_meet
   case rel => exact ⟨_, (ab), (az), Ye1, H', ⟨by first | omega | exact Nat.le_refl _⟩, ⟨bk a5.out⟩, ⟨bk a2.out⟩, ⟨iq62 a3.out⟩, ⟨kb HK.out⟩, ⟨bq62 HB.out a3.out⟩⟩
 case rest =>
  clear b0; (try clear c1); (try clear c2); (try clear p2); (try clear c10); (try clear c11); (try clear c12); (try clear c15); (try clear c16); (try clear c17); (try clear c18); (try clear ak); (try clear au); (try clear b6); (try clear bg); (try clear bh); (try clear bi); (try clear bj); (try clear bm); (try clear bn); (try clear bo); (try clear bq); obtain ⟨kq, ar, am, rfl, HA, HJ5, a5, a2, a3, HK, HB⟩ := hcut
  cases kq with
  | zero => exact absurd HA.out (by simp [spec_l3Draw.j0])
  | succ af =>
   have H := HA.out; clear HA; simp only [spec_l3Draw.j0] at H; replace H := Option.bind_eq_some_iff.mp H; obtain ⟨⟨a8, a9, ac, aa⟩, bw, H⟩ := H; replace H : ((spec_l1Rd_pick.f af s0_0 am 12).bind fun bt231 => (if bt231.1 = 0 then ((spec_l1Rd_pick.f af s0_0 bt231.2 2).bind fun bt233 => (spec_l3Draw.l0 af (wrap64 (500 - bt233.1)) s0_0 bt233.2 a8 a9 ac aa)) else (some (a8, a9, ac, aa, bt231.2)))) = some (r1, r2, r3, r4, r5) := H; have A22 := Aside0.mk bw; clear bw; replace H := Option.bind_eq_some_iff.mp H; obtain ⟨⟨an, aC⟩, bz, H⟩ := H; replace H : (if an = 0 then ((spec_l1Rd_pick.f af s0_0 aC 2).bind fun bt233 => (spec_l3Draw.l0 af (wrap64 (500 - bt233.1)) s0_0 bt233.2 a8 a9 ac aa)) else (some (a8, a9, ac, aa, aC))) = some (r1, r2, r3, r4, r5) := H; have A23 := Aside0.mk bz; clear bz
   by_cases ao : an = 0
   ·rw [if_pos ao] at H
    have bA : (an == 0) = true := beq_iff_eq.mpr ao; have bB : (an != 0) = false := bne_eq_false_iff_eq.mpr ao; clear ao; replace H := Option.bind_eq_some_iff.mp H; obtain ⟨⟨av, aD⟩, bC, H⟩ := H; replace H : (spec_l3Draw.l0 af (wrap64 (500 - av)) s0_0 aD a8 a9 ac aa) = some (r1, r2, r3, r4, r5) := H; have A25 := Aside0.mk bC; clear bC; have H' := Aside0.mk H; clear H; have hnb26 := aA.out; have hnc26 := aj.out; have hnb27 := ah.out; have hnc27 := aB.out; have bM : wc.cell? ⟨a4, 0, none⟩ = some (.int .i64 a6) := bc a2 0; have bN : wc.cell? ⟨a4, 1, none⟩ = some (.string (⟨#[]⟩ : ByteArray)) := bc a2 1; have bO : wc.cell? ⟨a4, 2, none⟩ = some (.slice none 0 0) := bc a2 2; have bP : wc.cell? ⟨a4, 3, none⟩ = some (.bool false) := bc a2 3; have bQ := blk_frozen a2.out 0; have bR := blk_frozen a2.out 1; have bS := blk_frozen a2.out 2; have bT := blk_frozen a2.out 3
    go_wp2_with (first | ((with_reducible refine gc 7 rfl ?_); refine gl (some 22) _ (#[.agg #[.int .i64 a6, .string (⟨#[]⟩ : ByteArray), .slice none 0 0, .bool false], .string ar]) Try.func7 ?_; (refine (spec_Feed.calls af a6 (⟨#[]⟩ : ByteArray) _ _ ([] : List ByteArray) false ar a8 a9 ac aa _ ?side1 ?side2 A22.out).mono ?_); (case side1 => exact Kd.C_nil _ _); (case side2 => exact Nat.le_refl _); rintro e aT ⟨bU, rfl, ho0, hb⟩; refine ⟨_, rfl, ?_⟩; refine Ya6 (Kd.R_lower ho0 (keep_size (w := w) (g := g) (row := none) (kb HK.out))) (bb a5 hb) (bb a2 hb) (IsS62.below (iq62 a3.out) hb) (KeepBut.trans (kb HK.out) (KeepBut.of_below hb g none) (.inl rfl)) (below_step (bq62 HB.out a3.out) hb) ?_; clear a5 a2 a3 HK HB; intro ad a5 a2 a3 HK HB; (try clear hb); (try clear hb2); (try clear hk); (try clear hi); (try clear ho0); have bV : aT.cell? ⟨a4, 0, none⟩ = some (.int .i64 a6) := bc a2 0; have bW : aT.cell? ⟨a4, 1, none⟩ = some (.string (⟨#[]⟩ : ByteArray)) := bc a2 1; have bX : aT.cell? ⟨a4, 2, none⟩ = some (.slice none 0 0) := bc a2 2; have bY : aT.cell? ⟨a4, 3, none⟩ = some (.bool false) := bc a2 3; have bZ := blk_frozen a2.out 0; have c0 := blk_frozen a2.out 1; have ca := blk_frozen a2.out 2; have cc := blk_frozen a2.out 3; obtain ⟨bD, bE, cd⟩ := Kd.R_slice ad.out; subst cd) | ((with_reducible refine gc 17 rfl ?_); refine gl (some 24) _ (#[.pointer (some ⟨g, 0, none⟩), .int .i64 12]) Try.func17 ?_; (with_reducible refine (spec_l1Rd_pick.calls af g s0_0 am 12 an aC w0 _ ?side1 ?side2 A23.out).mono ?_); (case side1 => exact iq62 a3.out); (case side2 => exact bq62 HB.out a3.out); rintro e w32 ⟨rfl, hi, hb, hk⟩; refine ⟨_, rfl, ?_⟩; refine Ya6 (kxf hk a5 aj ai) (KeepBut.blk hk (g' := a4) (o := .cells #[.int .i64 a8, .string a9, .slice bD ac.length bE, .bool aa] 25 (0, 0)) (bp a2.out) ah.out (by simp)) (Kd.R_mono (Kd.R_keep (IsS62.apart (show IsS62 w0 _ g s0_0 am from iq62 a3.out) (rf ad a2) (by decide)) hk (fun _ h => h.2)) (fun _ h => h.1)) (KeepBut.trans (kb HK.out) hk (.inl rfl)) (hb) (hi) ?_; clear a5 a2 ad HK HB a3; intro a5 a2 ad HK HB a3; (try clear hb); (try clear hb2); (try clear hk); (try clear hi)) | ((with_reducible refine gc 17 rfl ?_); refine gl (some 27) _ (#[.pointer (some ⟨g, 0, none⟩), .int .i64 2]) Try.func17 ?_; (with_reducible refine (spec_l1Rd_pick.calls af g s0_0 aC 2 av aD w0 _ ?side1 ?side2 A25.out).mono ?_); (case side1 => exact iq62 a3.out); (case side2 => exact bq62 HB.out a3.out); rintro e w33 ⟨rfl, hi, hb, hk⟩; refine ⟨_, rfl, ?_⟩; refine Ya6 (kx hk a5 ai) (kx hk a2 ah) (ra62 (iq62 a3.out) (kr ad.out) hk) (KeepBut.trans (kb HK.out) hk (.inl rfl)) (hb) (hi) ?_; clear a5 a2 ad HK HB a3; intro a5 a2 ad HK HB a3; (try clear hb); (try clear hb2); (try clear hk); (try clear hi)))
    go_loopg [] af (fun kq w' => ∃ (ae : List ByteArray) (aE : Value), Aside0 (spec_l3Draw.l0 kq (wrap64 (500 - av)) s0_0 aD a8 a9 ae aa = some (r1, r2, r3, r4, r5)) ∧ Aside0 (kq ≤ af) ∧ Aside0 (Kd.R Kd.string 9 w' w.heap.size (fun _ => True) aE ae) ∧ Aside0 (w'.heap[a7]? = some (.cells #[.int .i64 0, .string (⟨#[]⟩ : ByteArray), (.slice none 0 0), .bool false] 25 (0, 0))) ∧ Aside0 (w'.heap[a4]? = some (.cells #[.int .i64 a8, .string a9, aE, .bool aa] 25 (0, 0))) ∧ Aside0 (IsS62 w0 w' g s0_0 aD) ∧ Aside0 (KeepBut w w' g none) ∧ Aside0 (Below w0.heap.size w0 w'))
    case atStart => exact ⟨(ac), (.slice bD ac.length bE), H', ⟨Nat.le_refl _⟩, ⟨kr ad.out⟩, ⟨bk a5.out⟩, ⟨bk a2.out⟩, ⟨iq62 a3.out⟩, ⟨kb HK.out⟩, ⟨bq62 HB.out a3.out⟩⟩
    case round =>
     clear H'; (try clear c1); (try clear c2); (try clear p2); (try clear p6); (try clear c7); (try clear c10); (try clear c11); (try clear c12); (try clear c15); (try clear c16); (try clear c17); (try clear c18); (try clear ak); (try clear au); (try clear b6); (try clear ao); (try clear bA); (try clear bB); (try clear c26); (try clear c27); (try clear bg); (try clear bh); (try clear bi); (try clear bj); (try clear bM); (try clear bN); (try clear bO); (try clear bP); (try clear bV); (try clear bW); (try clear bX); (try clear bY); (try clear bm); (try clear bn); (try clear bo); (try clear bq); (try clear bQ); (try clear bR); (try clear bS); (try clear bT); (try clear bZ); (try clear c0); (try clear ca); (try clear cc); (try clear p2); obtain ⟨ae, aE, HA, HK2, al, a5, a2, a3, HK, HB⟩ := hrel
     cases gk with
     | zero => exact absurd HA.out (by simp [spec_l3Draw.l0])
     | succ k2 =>
      have H := HA.out; clear HA; simp only [spec_l3Draw.l0] at H
      by_cases ax : (ae.length : Int) < (wrap64 (500 - av))
      ·rw [if_pos ax] at H
       have ce : decide ((ae.length : Int) < (wrap64 (500 - av))) = true := decide_eq_true ax; clear ax
       by_cases aU : ae.length < 8796093022208
       ·rw [if_pos aU] at H
        have cf := Aside0.mk aU; clear aU
        obtain ⟨aV, aG⟩ : ∃ y_ : List ByteArray, y_ = (ae ++ [(⟨#[102]⟩ : ByteArray)]) := ⟨_, rfl⟩
        replace H : (spec_l3Draw.l0 k2 (wrap64 (500 - av)) s0_0 aD a8 a9 aV aa) = some (r1, r2, r3, r4, r5) := by first | (rw [aG]; with_reducible exact H) | (have H2_ := (Option.bind_some _ _).symm.trans H; rw [aG]; with_reducible exact H2_) | (have H2_ := (Option.bind_some _ _).symm.trans H; with_reducible exact H2_) | with_reducible exact H | (rw [aG]; exact H) | exact H
        have cg := Aside0.mk aG; clear aG; have H' := Aside0.mk H; clear H; have hnb36 := aA.out; have hnc36 := aj.out; have hnb37 := ah.out; have hnc37 := aB.out; have cl : wr.cell? ⟨a4, 0, none⟩ = some (.int .i64 a8) := bc a2 0; have cm : wr.cell? ⟨a4, 1, none⟩ = some (.string a9) := bc a2 1; have cn : wr.cell? ⟨a4, 2, none⟩ = some (aE) := bc a2 2; have co : wr.cell? ⟨a4, 3, none⟩ = some (.bool aa) := bc a2 3; have cp := blk_frozen a2.out 0; have cq := blk_frozen a2.out 1; have cr := blk_frozen a2.out 2; have cs := blk_frozen a2.out 3; obtain ⟨b9, ba, ch⟩ := Kd.R_slice al.out; subst ch
        go_wp2_with (first | ((with_reducible refine gate_builtin (b := .append) (xs := #[.tmp 35, .tmp 36]) rfl ?_); at_builtin; refine Kd.R_append Kd.string w.heap.size rfl (.tmp 35) (.tmp 36) 23 9 (.string ⟨#[]⟩) 16 rfl Try.underlying23 info9 rfl (by decide) (by omega) (.slice b9 ae.length ba) ae (⟨#[102]⟩ : ByteArray) [.string (⟨#[102]⟩ : ByteArray)] (fun _ => True) (fun _ => False) rfl rfl ?aP (fun _ hk => hk.elim) ?aF ?aO (Below.refl _ _) ?aS ?aL ?_; (case aP => exact rfl); (case aF => exact (fun _ _ => trivial)); (case aO => exact (kr al.out)); (case aS => exact (keep_size (w := w) (g := g) (row := none) (kb HK.out))); (case aL => have := cf.out; omega); intro v236 aW ho hb hg hat; rw [← cg.out] at ho; refine Ya6 (blk_grown (g := a7) (o := .cells #[.int .i64 0, .string (⟨#[]⟩ : ByteArray), .slice none 0 0, .bool false] 25 (0, 0)) (bk a5.out) hg (Kd.R_ne al.out a5.out (by decide))) (blk_grown (g := a4) (o := .cells #[.int .i64 a8, .string a9, .slice b9 ae.length ba, .bool aa] 25 (0, 0)) (bk a2.out) hg (Kd.R_ne al.out a2.out (by decide))) (IsS62.grown (iq62 a3.out) hg (IsS62.own_ne a3.out al.out (by decide))) (below_weaken (bq62 HB.out a3.out) HL.out hb) (KeepBut.trans (kb HK.out) (KeepBut.of_grown hg g) (Kd.R_base2 al.out)) (ho) ?_; clear a5 a2 a3 HB HK al; intro a5 a2 a3 HB HK bF; clear ho hb hg hat; obtain ⟨bG, bH, ci⟩ := Kd.R_slice bF.out; subst ci; have ct : aW.cell? ⟨a4, 0, none⟩ = some (.int .i64 a8) := bc a2 0; have cu : aW.cell? ⟨a4, 1, none⟩ = some (.string a9) := bc a2 1; have cv : aW.cell? ⟨a4, 2, none⟩ = some (.slice b9 ae.length ba) := bc a2 2; have cw : aW.cell? ⟨a4, 3, none⟩ = some (.bool aa) := bc a2 3; have cx := blk_frozen a2.out 0; have cy := blk_frozen a2.out 1; have cz := blk_frozen a2.out 2; have cA := blk_frozen a2.out 3))
        go_roundg k2
        case measure => have := HJ5.out; have := HK2.out; omega
        case rel => exact ⟨(aV), (.slice bG aV.length bH), H', ⟨by have := HJ5.out; have := HK2.out; omega⟩, ⟨by (with_reducible repeat (first | apply Kd.R_alloc | apply Kd.R_drewN | apply Kd.R_drew)); exact Kd.R_mono (Kd.R_far (p := ⟨a4, 2, none⟩) (Kd.R_types bF.out a2.out (by decide)) (fun _ hk => hk.2) (.slice bG aV.length bH)) (fun _ hk => trivial)⟩, ⟨bkf a5.out aj.out⟩, ⟨bp a2.out⟩, ⟨iq62 a3.out⟩, ⟨kb HK.out⟩, ⟨bq62 HB.out a3.out⟩⟩
       ·rw [if_neg aU] at H
        exact absurd H (by simp)
      ·rw [if_neg ax] at H
       have ce : decide ((ae.length : Int) < (wrap64 (500 - av))) = false := decide_eq_false ax; clear ax; simp only [Option.some.injEq, Prod.mk.injEq] at H; obtain ⟨rfl, rfl, rfl, rfl, rfl⟩ := H; have hnb43 := aA.out; have hnc43 := aj.out; have hnb44 := ah.out; have hnc44 := aB.out; have cB : wr.cell? ⟨a4, 0, none⟩ = some (.int .i64 a8) := bc a2 0; have cC : wr.cell? ⟨a4, 1, none⟩ = some (.string a9) := bc a2 1; have cD : wr.cell? ⟨a4, 2, none⟩ = some (aE) := bc a2 2; have cE : wr.cell? ⟨a4, 3, none⟩ = some (.bool aa) := bc a2 3; have cF := blk_frozen a2.out 0; have cG := blk_frozen a2.out 1; have cH := blk_frozen a2.out 2; have cI := blk_frozen a2.out 3; obtain ⟨bI, bJ, cj⟩ := Kd.R_slice al.out; subst cj; have hnb47 := ai.out; have hnc47 := bd.out; have cJ : wr.cell? ⟨a7, 0, none⟩ = some (.int .i64 0) := bc a5 0; have cK : wr.cell? ⟨a7, 1, none⟩ = some (.string (⟨#[]⟩ : ByteArray)) := bc a5 1; have cL : wr.cell? ⟨a7, 2, none⟩ = some (.slice none 0 0) := bc a5 2; have cM : wr.cell? ⟨a7, 3, none⟩ = some (.bool false) := bc a5 3; have cN := blk_frozen a5.out 0; have cO := blk_frozen a5.out 1; have cP := blk_frozen a5.out 2; have cQ := blk_frozen a5.out 3
       go_wp2
       refine bodyPost_ret (results_cell_row rfl _ _ a7 25 #[.int .i64 a8, .string a9, .slice bI ae.length bJ, .bool aa] (0, 0) _ rfl (bp a5.out) Try.underlying25 rfl (by kernel_rfl)) rfl ?_; exact ⟨_, Ye2, by (with_reducible repeat (first | apply Kd.R_alloc | apply Kd.R_drewN | apply Kd.R_drew)); exact Kd.R_mono (Kd.R_far (p := ⟨a7, 3, none⟩) (Kd.R_far (p := ⟨a7, 2, none⟩) (Kd.R_far (p := ⟨a7, 1, none⟩) (Kd.R_far (p := ⟨a7, 0, none⟩) (Kd.R_types al.out a5.out (by decide)) (fun _ hk => hk.2) (.int .i64 a8)) (fun _ hk => hk.2) (.string a9)) (fun _ hk => hk.2) (.slice bI ae.length bJ)) (fun _ hk => hk.2) (.bool aa)) (fun _ hk => trivial), iq62 a3.out, bq62 HB.out a3.out, kb HK.out⟩
   ·rw [if_neg ao] at H
    have bA : (an == 0) = false := beq_eq_false_iff_ne.mpr ao; have bB : (an != 0) = true := bne_iff_ne.mpr ao; simp only [Option.some.injEq, Prod.mk.injEq] at H; obtain ⟨rfl, rfl, rfl, rfl, rfl⟩ := H; have hnb49 := aA.out; have hnc49 := aj.out; have hnb50 := ah.out; have hnc50 := aB.out; have cR : wc.cell? ⟨a4, 0, none⟩ = some (.int .i64 a6) := bc a2 0; have cS : wc.cell? ⟨a4, 1, none⟩ = some (.string (⟨#[]⟩ : ByteArray)) := bc a2 1; have cT : wc.cell? ⟨a4, 2, none⟩ = some (.slice none 0 0) := bc a2 2; have cU : wc.cell? ⟨a4, 3, none⟩ = some (.bool false) := bc a2 3; have cV := blk_frozen a2.out 0; have cW := blk_frozen a2.out 1; have cX := blk_frozen a2.out 2; have cY := blk_frozen a2.out 3
    go_wp2_with (first | ((with_reducible refine gc 7 rfl ?_); refine gl (some 22) _ (#[.agg #[.int .i64 a6, .string (⟨#[]⟩ : ByteArray), .slice none 0 0, .bool false], .string ar]) Try.func7 ?_; (refine (spec_Feed.calls af a6 (⟨#[]⟩ : ByteArray) _ _ ([] : List ByteArray) false ar a8 a9 ac aa _ ?side1 ?side2 A22.out).mono ?_); (case side1 => exact Kd.C_nil _ _); (case side2 => exact Nat.le_refl _); rintro e aX ⟨bU, rfl, ho0, hb⟩; refine ⟨_, rfl, ?_⟩; refine Ya6 (Kd.R_lower ho0 (keep_size (w := w) (g := g) (row := none) (kb HK.out))) (bb a5 hb) (bb a2 hb) (IsS62.below (iq62 a3.out) hb) (KeepBut.trans (kb HK.out) (KeepBut.of_below hb g none) (.inl rfl)) (below_step (bq62 HB.out a3.out) hb) ?_; clear a5 a2 a3 HK HB; intro ad a5 a2 a3 HK HB; (try clear hb); (try clear hb2); (try clear hk); (try clear hi); (try clear ho0); have cZ : aX.cell? ⟨a4, 0, none⟩ = some (.int .i64 a6) := bc a2 0; have d0 : aX.cell? ⟨a4, 1, none⟩ = some (.string (⟨#[]⟩ : ByteArray)) := bc a2 1; have d1 : aX.cell? ⟨a4, 2, none⟩ = some (.slice none 0 0) := bc a2 2; have d2 : aX.cell? ⟨a4, 3, none⟩ = some (.bool false) := bc a2 3; have d3 := blk_frozen a2.out 0; have d4 := blk_frozen a2.out 1; have d5 := blk_frozen a2.out 2; have d6 := blk_frozen a2.out 3; obtain ⟨aY, aZ, ck⟩ := Kd.R_slice ad.out; subst ck) | ((with_reducible refine gc 17 rfl ?_); refine gl (some 24) _ (#[.pointer (some ⟨g, 0, none⟩), .int .i64 12]) Try.func17 ?_; (with_reducible refine (spec_l1Rd_pick.calls af g s0_0 am 12 an aC w0 _ ?side1 ?side2 A23.out).mono ?_); (case side1 => exact iq62 a3.out); (case side2 => exact bq62 HB.out a3.out); rintro e ap ⟨rfl, hi, hb, hk⟩; refine ⟨_, rfl, ?_⟩; refine Ya6 (kxf hk a5 aj ai) (KeepBut.blk hk (g' := a4) (o := .cells #[.int .i64 a8, .string a9, .slice aY ac.length aZ, .bool aa] 25 (0, 0)) (bp a2.out) ah.out (by simp)) (Kd.R_mono (Kd.R_keep (IsS62.apart (show IsS62 w0 _ g s0_0 am from iq62 a3.out) (rf ad a2) (by decide)) hk (fun _ h => h.2)) (fun _ h => h.1)) (KeepBut.trans (kb HK.out) hk (.inl rfl)) (hb) (hi) ?_; clear a5 a2 ad HK HB a3; intro a5 a2 ad HK HB a3; (try clear hb); (try clear hb2); (try clear hk); (try clear hi); have d7 : ap.cell? ⟨a4, 0, none⟩ = some (.int .i64 a8) := bc a2 0; have d8 : ap.cell? ⟨a4, 1, none⟩ = some (.string a9) := bc a2 1; have d9 : ap.cell? ⟨a4, 2, none⟩ = some (.slice aY ac.length aZ) := bc a2 2; have da : ap.cell? ⟨a4, 3, none⟩ = some (.bool aa) := bc a2 3; have db := blk_frozen a2.out 0; have dc := blk_frozen a2.out 1; have dd := blk_frozen a2.out 2; have de := blk_frozen a2.out 3; have hnb57 := ai.out; have hnc57 := bd.out; have df : ap.cell? ⟨a7, 0, none⟩ = some (.int .i64 0) := bc a5 0; have dg : ap.cell? ⟨a7, 1, none⟩ = some (.string (⟨#[]⟩ : ByteArray)) := bc a5 1; have dh : ap.cell? ⟨a7, 2, none⟩ = some (.slice none 0 0) := bc a5 2; have di : ap.cell? ⟨a7, 3, none⟩ = some (.bool false) := bc a5 3; have dj := blk_frozen a5.out 0; have dk := blk_frozen a5.out 1; have dl := blk_frozen a5.out 2; have dm := blk_frozen a5.out 3))
    refine bodyPost_ret (results_cell_row rfl _ _ a7 25 #[.int .i64 a8, .string a9, .slice aY ac.length aZ, .bool aa] (0, 0) _ rfl (bp a5.out) Try.underlying25 rfl (by kernel_rfl)) rfl ?_; exact ⟨_, Ye2, by (with_reducible repeat (first | apply Kd.R_alloc | apply Kd.R_drewN | apply Kd.R_drew)); exact Kd.R_mono (Kd.R_far (p := ⟨a7, 3, none⟩) (Kd.R_far (p := ⟨a7, 2, none⟩) (Kd.R_far (p := ⟨a7, 1, none⟩) (Kd.R_far (p := ⟨a7, 0, none⟩) (Kd.R_types ad.out a5.out (by decide)) (fun _ hk => hk.2) (.int .i64 a8)) (fun _ hk => hk.2) (.string a9)) (fun _ hk => hk.2) (.slice aY ac.length aZ)) (fun _ hk => hk.2) (.bool aa)) (fun _ hk => trivial), iq62 a3.out, bq62 HB.out a3.out, kb HK.out⟩

end Go.Proofs.Ytknagppkeodggaa.P

