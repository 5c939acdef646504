-- Printed for this claim by a small program of this session (kprint.py), which drives the kit's print program.
import Derived.Test.YtgaibeckblmbbaaP0
import Derived.Test.YtgaibeckblmbbaaPSpecL1Open
import Derived.Test.YtgaibeckblmbbaaPSpecL1RdPick
namespace Go.Proofs.Ytgaibeckblmbbaa.P
open Go.RowKit Go.Proofs.YtgaibeckblmbbaaW.PrintWords Go.Proofs.YtgaibeckblmbbaaW.PrintLast Go.Proofs.YtgaibeckblmbbaaW.PrintMore
attribute [local go_sem] max2_int min2_int max_two min_two max_three min_three max_four min_four
set_option linter.unusedVariables false
set_option linter.unusedSimpArgs false

/-! ### spec_DrawClash: function 18 -/
mutual
def spec_DrawClash.l0 : Nat → List ByteArray → Int → Int → List Int → Int → Option (List ByteArray × Int)
  | 0, _, _, _, _, _ => none
  | k + 1, x5, x6, x7, x175000, x175001 => if x7 < x6 then ((spec_l1Rd_pick.f k x175000 x175001 26).bind fun bt180 => ((spec_l1Rd_pick.f k x175000 bt180.2 26).bind fun bt182 => ((spec_l1Rd_pick.f k x175000 bt182.2 26).bind fun bt184 => ((some (([(wrap64 (97 + bt180.1)) % 256, (wrap64 (97 + (Int.tmod (wrap64 (bt182.1 + x7)) 26))) % 256, (wrap64 (97 + (Int.tmod (wrap64 (bt184.1 + (wrap64 (x7 * x7)))) 26))) % 256] : List Int) : List Int)).bind fun y186 => ((spec_l1Rd_pick.f k x175000 bt184.2 3).bind fun bt189 => (if 0 ≤ (wrap64 (1 + (Int.tmod (wrap64 (x7 + bt189.1)) 3))) then (if (wrap64 (1 + (Int.tmod (wrap64 (x7 + bt189.1)) 3))) ≤ (y186.length : Int) then (if x5.length < 8796093022208 then (spec_DrawClash.l0 k (x5 ++ [strOfNums (y186.take ((wrap64 (1 + (Int.tmod (wrap64 (x7 + bt189.1)) 3))) : Int).toNat)]) x6 (wrap64 (x7 + 1)) x175000 bt189.2) else (none)) else (none)) else (none))))))) else ((spec_l1Rd_pick.f k x175000 x175001 24).bind fun bt198 => (if bt198.1 = 0 then (spec_DrawClash.l1 k x5 x175000 bt198.2) else (if bt198.1 = 1 then ((some (([0, 9] : List Int) : List Int)).bind fun y211 => ((spec_l1Rd_pick.f k x175000 bt198.2 2).bind fun bt214 => (if 0 ≤ bt214.1 then (if bt214.1 < (y211.length : Int) then (some (x5, rd y211 bt214.1)) else (none)) else (none)))) else ((some (([1, 1, 1, 2, 8] : List Int) : List Int)).bind fun y217 => ((spec_l1Rd_pick.f k x175000 bt198.2 5).bind fun bt220 => (if 0 ≤ bt220.1 then (if bt220.1 < (y217.length : Int) then (some (x5, rd y217 bt220.1)) else (none)) else (none)))))))
def spec_DrawClash.l1 : Nat → List ByteArray → List Int → Int → Option (List ByteArray × Int)
  | 0, _, _, _ => none
  | k + 1, x5, x175000, x175001 => (spec_l1Rd_pick.f k x175000 x175001 2).bind fun bt200 => (if (x5.length : Int) < (wrap64 (3000 + bt200.1)) then (if x5.length < 8796093022208 then (spec_DrawClash.l1 k (x5 ++ [(⟨#[115, 97, 109, 101]⟩ : ByteArray)]) x175000 bt200.2) else (none)) else ((some (([1, 1, 1, 2, 8] : List Int) : List Int)).bind fun y205 => ((spec_l1Rd_pick.f k x175000 bt200.2 5).bind fun bt208 => (if 0 ≤ bt208.1 then (if bt208.1 < (y205.length : Int) then (some (x5, rd y205 bt208.1)) else (none)) else (none)))))
end
def spec_DrawClash.f (k : Nat) (l0 : List Int) : Option (List ByteArray × Int) := (spec_l1Open.f l0).bind fun bt172 => ((spec_l1Rd_pick.f k bt172.1 bt172.2 40).bind fun bt178 => (spec_DrawClash.l0 k (([] : List ByteArray)) (wrap64 (10 + bt178.1)) 0 bt172.1 bt178.2))
theorem spec_DrawClash.mono_l : ∀ k, (∀ y0 y1 y2 y3 y4, LeO (spec_DrawClash.l0 k y0 y1 y2 y3 y4) (spec_DrawClash.l0 (k + 1) y0 y1 y2 y3 y4)) ∧ (∀ y0 y1 y2, LeO (spec_DrawClash.l1 k y0 y1 y2) (spec_DrawClash.l1 (k + 1) y0 y1 y2))
  | 0 => ⟨fun _ _ _ _ _ r h => by simp [spec_DrawClash.l0] at h, fun _ _ _ r h => by simp [spec_DrawClash.l1] at h⟩
  | k + 1 => by
    obtain ⟨ih0, ih1⟩ := spec_DrawClash.mono_l k
    refine ⟨?_, ?_⟩
    · intro y0 y1 y2 y3 y4
      unfold spec_DrawClash.l0
      repeat' first
      | (with_reducible exact ih0 _ _ _ _ _)
      | (with_reducible exact ih1 _ _ _)
      | (with_reducible exact spec_l1Rd_pick.mono _ _ _ _)
      | (with_reducible exact LeO.refl _)
      | (with_reducible exact LeO.none _)
      | (with_reducible refine LeO.ite ?_ ?_)
      | (with_reducible refine LeO.bind ?_ (fun _ => ?_))
      | exact ih0 _ _ _ _ _
      | exact ih1 _ _ _
      | exact spec_l1Rd_pick.mono _ _ _ _
      | exact LeO.none _
      | refine LeO.ite ?_ ?_
      | refine LeO.bind ?_ (fun _ => ?_)
    · intro y0 y1 y2
      unfold spec_DrawClash.l1
      repeat' first
      | (with_reducible exact ih0 _ _ _ _ _)
      | (with_reducible exact ih1 _ _ _)
      | (with_reducible exact spec_l1Rd_pick.mono _ _ _ _)
      | (with_reducible exact LeO.refl _)
      | (with_reducible exact LeO.none _)
      | (with_reducible refine LeO.ite ?_ ?_)
      | (with_reducible refine LeO.bind ?_ (fun _ => ?_))
      | exact ih0 _ _ _ _ _
      | exact ih1 _ _ _
      | exact spec_l1Rd_pick.mono _ _ _ _
      | exact LeO.none _
      | refine LeO.ite ?_ ?_
      | refine LeO.bind ?_ (fun _ => ?_)
theorem spec_DrawClash.mono : ∀ a0 k, LeO (spec_DrawClash.f k a0) (spec_DrawClash.f (k + 1) a0) := by
  intro a0 k
  obtain ⟨ih0, ih1⟩ := spec_DrawClash.mono_l k
  unfold spec_DrawClash.f
  repeat' first
      | (with_reducible exact ih0 _ _ _ _ _)
      | (with_reducible exact ih1 _ _ _)
      | (with_reducible exact spec_l1Rd_pick.mono _ _ _ _)
      | (with_reducible exact LeO.refl _)
      | (with_reducible exact LeO.none _)
      | (with_reducible refine LeO.ite ?_ ?_)
      | (with_reducible refine LeO.bind ?_ (fun _ => ?_))
      | exact ih0 _ _ _ _ _
      | exact ih1 _ _ _
      | exact spec_l1Rd_pick.mono _ _ _ _
      | exact LeO.none _
      | refine LeO.ite ?_ ?_
      | refine LeO.bind ?_ (fun _ => ?_)
def spec_DrawClash.T13 : Bool × List (List Nat × List Nat) := (true, [([], []), ([], []), ([], []), ([2], [2]), ([1, 3], [1, 3]), ([4], [4]), ([0, 3, 0], [0]), ([5, 6, 0, 1, 2, 3, 4, 5, 6], [5])])
def spec_DrawClash.B13 : List Nat := [0, 0, 0, 4, 14, 30, 13, 127]
theorem spec_DrawClash.tab13 : rtab .any (opsOf Try.f18 13) = spec_DrawClash.T13 := by kernel_rfl
theorem spec_DrawClash.bits13 : waitsOk spec_DrawClash.T13.2 spec_DrawClash.B13 = true := by kernel_rfl
def spec_DrawClash.T14 : Bool × List (List Nat × List Nat) := (true, [([], []), ([], []), ([], []), ([2], [2]), ([1, 3], [1, 3]), ([4], [4]), ([0, 3, 0], [0]), ([5, 6, 0, 1, 2, 3, 4, 5, 6], [5])])
def spec_DrawClash.B14 : List Nat := [0, 0, 0, 4, 14, 30, 13, 127]
theorem spec_DrawClash.tab14 : rtab .any (opsOf Try.f18 14) = spec_DrawClash.T14 := by kernel_rfl
theorem spec_DrawClash.bits14 : waitsOk spec_DrawClash.T14.2 spec_DrawClash.B14 = true := by kernel_rfl
set_option maxHeartbeats 8000000 in
set_option maxRecDepth 100000 in
theorem spec_DrawClash.calls (k : Nat) (A0 : Option Addr) (c0 : Nat) (l0 : List Int) (r1 : List ByteArray) (r2 : Int) (w : World) (hr0 : Kd.C (Kd.int .u8) w A0 l0.length l0) (hc0 : l0.length ≤ c0) (h : spec_DrawClash.f k l0 = some (r1, r2)) :
    Calls Try.prog 18 #[.slice A0 l0.length c0] w fun e w' => ∃ v0_ : Value, e = .returned (.tuple #[v0_, .int .i64 r2]) ∧ Kd.R Kd.string 9 w' w.heap.size (fun _ => True) v0_ r1 ∧ Below w.heap.size w w' := by
  have HR0 := Aside0.mk hr0
  have HC0 := Aside0.mk hc0
  clear hr0 hc0
  have HB := Aside0.mk (Below.refl w.heap.size w)
  have H : ((spec_l1Open.f l0).bind fun bt172 => ((spec_l1Rd_pick.f k bt172.1 bt172.2 40).bind fun bt178 => (spec_DrawClash.l0 k (([] : List ByteArray)) (wrap64 (10 + bt178.1)) 0 bt172.1 bt178.2))) = some (r1, r2) := h
  clear h
  replace H := Option.bind_eq_some_iff.mp H
  obtain ⟨⟨t172, t173⟩, A20, H⟩ := H
  replace H : ((spec_l1Rd_pick.f k t172 t173 40).bind fun bt178 => (spec_DrawClash.l0 k (([] : List ByteArray)) (wrap64 (10 + bt178.1)) 0 t172 bt178.2)) = some (r1, r2) := H
  have A2 := Aside0.mk A20
  clear A20
  obtain ⟨y175, hy175⟩ : ∃ y_ : List ByteArray, y_ = (([] : List ByteArray)) := ⟨_, rfl⟩
  replace H : ((spec_l1Rd_pick.f k t172 t173 40).bind fun bt178 => (spec_DrawClash.l0 k y175 (wrap64 (10 + bt178.1)) 0 t172 bt178.2)) = some (r1, r2) := by first | (rw [hy175]; with_reducible exact H) | (have H2_ := (Option.bind_some _ _).symm.trans H; rw [hy175]; with_reducible exact H2_) | (have H2_ := (Option.bind_some _ _).symm.trans H; with_reducible exact H2_) | with_reducible exact H | (rw [hy175]; exact H) | exact H
  have Ny175 := Aside0.mk hy175
  clear hy175
  replace H := Option.bind_eq_some_iff.mp H
  obtain ⟨⟨t178, t179⟩, A30, H⟩ := H
  replace H : (spec_DrawClash.l0 k y175 (wrap64 (10 + t178)) 0 t172 t179) = some (r1, r2) := H
  have A3 := Aside0.mk A30
  clear A30
  have H' := Aside0.mk H
  clear H
  go_enter Try.func18, Try.ntmps18
  go_wp2_with (first | ((with_reducible refine gate_callee (f := 38) rfl ?_); refine goesL_ (some 9) rfl rfl Try.func38 (by kernel_rfl) rfl #[.slice A0 l0.length c0] rfl (by (try simp only [List.map_toArray, List.map_cons, List.map_nil]); first | done | rfl | (simp only [List.length_drop, List.length_take]; rfl)) ?_; (with_reducible refine (spec_l1Open.calls _ _ l0 t172 t173 w _ ?side1 ?side2 ?side3 A2.out).mono ?_); (case side1 => repeat (first | (with_reducible first | exact HB.out | apply below_alloc | apply pw_below_drewN | apply below_drew1) | exact HB.out)); (case side2 => exact HR0.out); (case side3 => exact HC0.out); rintro e w4 ⟨g174, rfl, hi, hb, hb2⟩; refine ⟨_, rfl, ?_⟩; have n0_ := Aside0.mk (hb); have n1_ := Aside0.mk (hi); clear HB; have HB := n0_; have HI174 := n1_; clear n0_ n1_; (try clear hb); (try clear hb2); (try clear hk); (try clear hi)) | ((with_reducible refine gate_dst (N := 10) rfl ?_); refine Kd.R_lit Kd.string _ 9 ?hg (N := 10) ?hd (xs := ([] : List ByteArray)) (inner := []) (ok := fun _ => True) (okp := fun _ => True) ?hr ?hp (fun _ hk => hk) trivial (Below.refl _ _) (Nat.le_refl _) (by simp) ?_; (case hd => rfl); (case hg => rfl); (case hr => first | (go_simp; done) | (go_simp; rfl)); (case hp => exact (Reps.none _ _)); intro v176 w5 ho6 hb hg_ hnew_; clear hg_ hnew_; (first | rw [← Ny175.out] at ho6 | (simp only [Int.reduceToNat] at ho6; rw [← Ny175.out] at ho6)); have n0_ := Aside0.mk (Kd.R_lower ho6 (below_size (by repeat (first | (with_reducible first | exact HB.out | apply below_alloc | apply pw_below_drewN | apply below_drew1 | refine below_set ?_ (IsS96.ge HI174.out)) | exact HB.out)))); have n1_ := Aside0.mk (IsS96.below (by repeat (first | (with_reducible first | exact HI174.out | apply IsS96.alloc | apply IsS96.drewN | apply IsS96.drew | apply IsS96.set_1) | exact HI174.out)) hb); have n2_ := Aside0.mk (below_step (by repeat (first | (with_reducible first | exact HB.out | apply below_alloc | apply pw_below_drewN | apply below_drew1 | refine below_set ?_ (IsS96.ge HI174.out)) | exact HB.out)) hb); clear HI174; clear HB; have HO177 := n0_; have HI174 := n1_; have HB := n2_; clear n0_ n1_ n2_; clear hb ho6) | ((with_reducible refine gate_callee (f := 39) rfl ?_); refine goesL_ (some 12) rfl rfl Try.func39 (by kernel_rfl) rfl #[.pointer (some ⟨g174, 0, none⟩), .int .i64 40] rfl (by (try simp only [List.map_toArray, List.map_cons, List.map_nil]); first | done | rfl | (simp only [List.length_drop, List.length_take]; rfl)) ?_; (with_reducible refine (spec_l1Rd_pick.calls k g174 t172 t173 40 t178 t179 w _ ?side1 ?side2 A3.out).mono ?_); (case side1 => repeat (first | (with_reducible first | exact HI174.out | apply IsS96.alloc | apply IsS96.drewN | apply IsS96.drew | apply IsS96.set_1) | exact HI174.out)); (case side2 => repeat (first | (with_reducible first | exact HB.out | apply below_alloc | apply pw_below_drewN | apply below_drew1 | refine below_set ?_ (IsS96.ge HI174.out)) | exact HB.out)); rintro e w7 ⟨rfl, hi, hb, hk⟩; refine ⟨_, rfl, ?_⟩; have n0_ := Aside0.mk (Kd.R_mono (Kd.R_keep (IsS96.apart (show IsS96 w _ g174 t172 t173 from by repeat (first | (with_reducible first | exact HI174.out | apply IsS96.alloc | apply IsS96.drewN | apply IsS96.drew | apply IsS96.set_1) | exact HI174.out)) (by (with_reducible repeat (first | apply Kd.R_alloc | apply Kd.R_drewN | apply Kd.R_drew)); exact HO177.out) (by decide)) hk (fun _ h => h.2)) (fun _ h => h.1)); have n1_ := Aside0.mk (hb); have n2_ := Aside0.mk (hi); clear HO177; clear HB; clear HI174; have HO177 := n0_; have HB := n1_; have HI174 := n2_; clear n0_ n1_ n2_; (try clear hb); (try clear hb2); (try clear hk); (try clear hi)))
  go_loopg [5, 7] k (fun kq v5 v7 w' => ∃ (x5_1 : List ByteArray) (x7_1 : Int) (x175001_1 : Int), v7 = .int .i64 x7_1 ∧ Aside0 (spec_DrawClash.l0 kq x5_1 (wrap64 (10 + t178)) x7_1 t172 x175001_1 = some (r1, r2)) ∧ Aside0 (kq ≤ k) ∧ Aside0 (Kd.R Kd.string 9 w' w.heap.size (fun _ => True) v5 x5_1) ∧ Aside0 (IsS96 w w' g174 t172 x175001_1) ∧ Aside0 (Below w.heap.size w w'))
  case atStart => exact ⟨(y175), (0), (t179), (by first | rfl | (simp; done) | (simp [*]; done)), H', ⟨Nat.le_refl _⟩, ⟨by (with_reducible repeat (first | apply Kd.R_alloc | apply Kd.R_drewN | apply Kd.R_drew)); exact HO177.out⟩, ⟨by repeat (first | (with_reducible first | exact HI174.out | apply IsS96.alloc | apply IsS96.drewN | apply IsS96.drew | apply IsS96.set_1) | exact HI174.out)⟩, ⟨by repeat (first | (with_reducible first | exact HB.out | apply below_alloc | apply pw_below_drewN | apply below_drew1 | refine below_set ?_ (IsS96.ge HI174.out)) | exact HB.out)⟩⟩
  case round =>
    clear H'
    try clear c1
    try clear p2
    try clear c3
    try clear p6
    obtain ⟨x5_1, x7_1, x175001_1, rfl, HA, HK1, HO_5, HI174, HB⟩ := hrel
    cases gk with
    | zero => exact absurd HA.out (by simp [spec_DrawClash.l0])
    | succ k1 =>
      have H := HA.out
      clear HA
      simp only [spec_DrawClash.l0] at H
      by_cases c8 : x7_1 < (wrap64 (10 + t178))
      · rw [if_pos c8] at H
        have c8b0 : decide (x7_1 < (wrap64 (10 + t178))) = true := decide_eq_true c8
        clear c8
        replace H := Option.bind_eq_some_iff.mp H
        obtain ⟨⟨t180, t181⟩, A90, H⟩ := H
        replace H : ((spec_l1Rd_pick.f k1 t172 t181 26).bind fun bt182 => ((spec_l1Rd_pick.f k1 t172 bt182.2 26).bind fun bt184 => ((some (([(wrap64 (97 + t180)) % 256, (wrap64 (97 + (Int.tmod (wrap64 (bt182.1 + x7_1)) 26))) % 256, (wrap64 (97 + (Int.tmod (wrap64 (bt184.1 + (wrap64 (x7_1 * x7_1)))) 26))) % 256] : List Int) : List Int)).bind fun y186 => ((spec_l1Rd_pick.f k1 t172 bt184.2 3).bind fun bt189 => (if 0 ≤ (wrap64 (1 + (Int.tmod (wrap64 (x7_1 + bt189.1)) 3))) then (if (wrap64 (1 + (Int.tmod (wrap64 (x7_1 + bt189.1)) 3))) ≤ (y186.length : Int) then (if x5_1.length < 8796093022208 then (spec_DrawClash.l0 k1 (x5_1 ++ [strOfNums (y186.take ((wrap64 (1 + (Int.tmod (wrap64 (x7_1 + bt189.1)) 3))) : Int).toNat)]) (wrap64 (10 + t178)) (wrap64 (x7_1 + 1)) t172 bt189.2) else (none)) else (none)) else (none)))))) = some (r1, r2) := H
        have A9 := Aside0.mk A90
        clear A90
        replace H := Option.bind_eq_some_iff.mp H
        obtain ⟨⟨t182, t183⟩, A100, H⟩ := H
        replace H : ((spec_l1Rd_pick.f k1 t172 t183 26).bind fun bt184 => ((some (([(wrap64 (97 + t180)) % 256, (wrap64 (97 + (Int.tmod (wrap64 (t182 + x7_1)) 26))) % 256, (wrap64 (97 + (Int.tmod (wrap64 (bt184.1 + (wrap64 (x7_1 * x7_1)))) 26))) % 256] : List Int) : List Int)).bind fun y186 => ((spec_l1Rd_pick.f k1 t172 bt184.2 3).bind fun bt189 => (if 0 ≤ (wrap64 (1 + (Int.tmod (wrap64 (x7_1 + bt189.1)) 3))) then (if (wrap64 (1 + (Int.tmod (wrap64 (x7_1 + bt189.1)) 3))) ≤ (y186.length : Int) then (if x5_1.length < 8796093022208 then (spec_DrawClash.l0 k1 (x5_1 ++ [strOfNums (y186.take ((wrap64 (1 + (Int.tmod (wrap64 (x7_1 + bt189.1)) 3))) : Int).toNat)]) (wrap64 (10 + t178)) (wrap64 (x7_1 + 1)) t172 bt189.2) else (none)) else (none)) else (none))))) = some (r1, r2) := H
        have A10 := Aside0.mk A100
        clear A100
        replace H := Option.bind_eq_some_iff.mp H
        obtain ⟨⟨t184, t185⟩, A110, H⟩ := H
        replace H : ((some (([(wrap64 (97 + t180)) % 256, (wrap64 (97 + (Int.tmod (wrap64 (t182 + x7_1)) 26))) % 256, (wrap64 (97 + (Int.tmod (wrap64 (t184 + (wrap64 (x7_1 * x7_1)))) 26))) % 256] : List Int) : List Int)).bind fun y186 => ((spec_l1Rd_pick.f k1 t172 t185 3).bind fun bt189 => (if 0 ≤ (wrap64 (1 + (Int.tmod (wrap64 (x7_1 + bt189.1)) 3))) then (if (wrap64 (1 + (Int.tmod (wrap64 (x7_1 + bt189.1)) 3))) ≤ (y186.length : Int) then (if x5_1.length < 8796093022208 then (spec_DrawClash.l0 k1 (x5_1 ++ [strOfNums (y186.take ((wrap64 (1 + (Int.tmod (wrap64 (x7_1 + bt189.1)) 3))) : Int).toNat)]) (wrap64 (10 + t178)) (wrap64 (x7_1 + 1)) t172 bt189.2) else (none)) else (none)) else (none)))) = some (r1, r2) := H
        have A11 := Aside0.mk A110
        clear A110
        obtain ⟨y186, hy186⟩ : ∃ y_ : List Int, y_ = (([(wrap64 (97 + t180)) % 256, (wrap64 (97 + (Int.tmod (wrap64 (t182 + x7_1)) 26))) % 256, (wrap64 (97 + (Int.tmod (wrap64 (t184 + (wrap64 (x7_1 * x7_1)))) 26))) % 256] : List Int)) := ⟨_, rfl⟩
        replace H : ((spec_l1Rd_pick.f k1 t172 t185 3).bind fun bt189 => (if 0 ≤ (wrap64 (1 + (Int.tmod (wrap64 (x7_1 + bt189.1)) 3))) then (if (wrap64 (1 + (Int.tmod (wrap64 (x7_1 + bt189.1)) 3))) ≤ (y186.length : Int) then (if x5_1.length < 8796093022208 then (spec_DrawClash.l0 k1 (x5_1 ++ [strOfNums (y186.take ((wrap64 (1 + (Int.tmod (wrap64 (x7_1 + bt189.1)) 3))) : Int).toNat)]) (wrap64 (10 + t178)) (wrap64 (x7_1 + 1)) t172 bt189.2) else (none)) else (none)) else (none))) = some (r1, r2) := by first | (rw [hy186]; with_reducible exact H) | (have H2_ := (Option.bind_some _ _).symm.trans H; rw [hy186]; with_reducible exact H2_) | (have H2_ := (Option.bind_some _ _).symm.trans H; with_reducible exact H2_) | with_reducible exact H | (rw [hy186]; exact H) | exact H
        have Ny186 := Aside0.mk hy186
        clear hy186
        replace H := Option.bind_eq_some_iff.mp H
        obtain ⟨⟨t189, t190⟩, A120, H⟩ := H
        replace H : (if 0 ≤ (wrap64 (1 + (Int.tmod (wrap64 (x7_1 + t189)) 3))) then (if (wrap64 (1 + (Int.tmod (wrap64 (x7_1 + t189)) 3))) ≤ (y186.length : Int) then (if x5_1.length < 8796093022208 then (spec_DrawClash.l0 k1 (x5_1 ++ [strOfNums (y186.take ((wrap64 (1 + (Int.tmod (wrap64 (x7_1 + t189)) 3))) : Int).toNat)]) (wrap64 (10 + t178)) (wrap64 (x7_1 + 1)) t172 t190) else (none)) else (none)) else (none)) = some (r1, r2) := H
        have A12 := Aside0.mk A120
        clear A120
        obtain ⟨ji13, hji13⟩ : ∃ j_ : Int, (wrap64 (1 + (Int.tmod (wrap64 (x7_1 + t189)) 3))) = j_ := ⟨_, rfl⟩
        replace H : (if 0 ≤ (ji13) then (if (ji13) ≤ (y186.length : Int) then (if x5_1.length < 8796093022208 then (spec_DrawClash.l0 k1 (x5_1 ++ [strOfNums (y186.take ((ji13) : Int).toNat)]) (wrap64 (10 + t178)) (wrap64 (x7_1 + 1)) t172 t190) else (none)) else (none)) else (none)) = some (r1, r2) := by first | (rw [hji13] at H; exact H) | (simp only [hji13] at H ⊢; exact H)
        (try rw [hji13] at A9)
        (try rw [hji13] at A10)
        (try rw [hji13] at A11)
        (try rw [hji13] at A12)
        have hji13w : (IntKind.i64.wrap (1 + (Int.tmod (wrap64 (x7_1 + t189)) 3))) = ji13 := (i64_w _).trans hji13
        by_cases c14 : 0 ≤ (ji13)
        · rw [if_pos c14] at H
          have c14b0 := eq_true c14
          have c14b1 : decide (0 ≤ (ji13)) = true := decide_eq_true c14
          clear c14
          by_cases c15 : (ji13) ≤ (y186.length : Int)
          · rw [if_pos c15] at H
            have c15b0 := eq_true c15
            have c15b1 : decide ((ji13) ≤ (y186.length : Int)) = true := decide_eq_true c15
            clear c15
            obtain ⟨y191, hy191⟩ : ∃ y_ : List Int, y_ = (y186.take ((ji13) : Int).toNat) := ⟨_, rfl⟩
            replace H : (if x5_1.length < 8796093022208 then (spec_DrawClash.l0 k1 (x5_1 ++ [strOfNums y191]) (wrap64 (10 + t178)) (wrap64 (x7_1 + 1)) t172 t190) else (none)) = some (r1, r2) := by first | (rw [hy191]; with_reducible exact H) | (have H2_ := (Option.bind_some _ _).symm.trans H; rw [hy191]; with_reducible exact H2_) | (have H2_ := (Option.bind_some _ _).symm.trans H; with_reducible exact H2_) | with_reducible exact H | (rw [hy191]; exact H) | exact H
            have Ny191 := Aside0.mk hy191
            clear hy191
            by_cases c16 : x5_1.length < 8796093022208
            · rw [if_pos c16] at H
              have LMc16 := Aside0.mk c16
              clear c16
              obtain ⟨y195, hy195⟩ : ∃ y_ : List ByteArray, y_ = (x5_1 ++ [strOfNums y191]) := ⟨_, rfl⟩
              replace H : (spec_DrawClash.l0 k1 y195 (wrap64 (10 + t178)) (wrap64 (x7_1 + 1)) t172 t190) = some (r1, r2) := by first | (rw [hy195]; with_reducible exact H) | (have H2_ := (Option.bind_some _ _).symm.trans H; rw [hy195]; with_reducible exact H2_) | (have H2_ := (Option.bind_some _ _).symm.trans H; with_reducible exact H2_) | with_reducible exact H | (rw [hy195]; exact H) | exact H
              have Ny195 := Aside0.mk hy195
              clear hy195
              have H' := Aside0.mk H
              clear H
              go_wp2_with (first | ((with_reducible refine gate_callee (f := 39) rfl ?_); refine goesL_ (some 21) rfl rfl Try.func39 (by kernel_rfl) rfl #[.pointer (some ⟨g174, 0, none⟩), .int .i64 26] rfl (by (try simp only [List.map_toArray, List.map_cons, List.map_nil]); first | done | rfl | (simp only [List.length_drop, List.length_take]; rfl)) ?_; (with_reducible refine (spec_l1Rd_pick.calls k1 g174 t172 x175001_1 26 t180 t181 w _ ?side1 ?side2 A9.out).mono ?_); (case side1 => repeat (first | (with_reducible first | exact HI174.out | apply IsS96.alloc | apply IsS96.drewN | apply IsS96.drew | apply IsS96.set_1) | exact HI174.out)); (case side2 => repeat (first | (with_reducible first | exact HB.out | apply below_alloc | apply pw_below_drewN | apply below_drew1 | refine below_set ?_ (IsS96.ge HI174.out)) | exact HB.out)); rintro e w17 ⟨rfl, hi, hb, hk⟩; refine ⟨_, rfl, ?_⟩; have n0_ := Aside0.mk (Kd.R_mono (Kd.R_keep (IsS96.apart (show IsS96 w _ g174 t172 x175001_1 from by repeat (first | (with_reducible first | exact HI174.out | apply IsS96.alloc | apply IsS96.drewN | apply IsS96.drew | apply IsS96.set_1) | exact HI174.out)) (by (with_reducible repeat (first | apply Kd.R_alloc | apply Kd.R_drewN | apply Kd.R_drew)); exact HO_5.out) (by decide)) hk (fun _ h => h.2)) (fun _ h => h.1)); have n1_ := Aside0.mk (hb); have n2_ := Aside0.mk (hi); clear HO_5; clear HB; clear HI174; have HO_5 := n0_; have HB := n1_; have HI174 := n2_; clear n0_ n1_ n2_; (try clear hb); (try clear hb2); (try clear hk); (try clear hi)) | ((with_reducible refine gate_callee (f := 39) rfl ?_); refine goesL_ (some 25) rfl rfl Try.func39 (by kernel_rfl) rfl #[.pointer (some ⟨g174, 0, none⟩), .int .i64 26] rfl (by (try simp only [List.map_toArray, List.map_cons, List.map_nil]); first | done | rfl | (simp only [List.length_drop, List.length_take]; rfl)) ?_; (with_reducible refine (spec_l1Rd_pick.calls k1 g174 t172 t181 26 t182 t183 w _ ?side1 ?side2 A10.out).mono ?_); (case side1 => repeat (first | (with_reducible first | exact HI174.out | apply IsS96.alloc | apply IsS96.drewN | apply IsS96.drew | apply IsS96.set_1) | exact HI174.out)); (case side2 => repeat (first | (with_reducible first | exact HB.out | apply below_alloc | apply pw_below_drewN | apply below_drew1 | refine below_set ?_ (IsS96.ge HI174.out)) | exact HB.out)); rintro e w18 ⟨rfl, hi, hb, hk⟩; refine ⟨_, rfl, ?_⟩; have n0_ := Aside0.mk (Kd.R_mono (Kd.R_keep (IsS96.apart (show IsS96 w _ g174 t172 t181 from by repeat (first | (with_reducible first | exact HI174.out | apply IsS96.alloc | apply IsS96.drewN | apply IsS96.drew | apply IsS96.set_1) | exact HI174.out)) (by (with_reducible repeat (first | apply Kd.R_alloc | apply Kd.R_drewN | apply Kd.R_drew)); exact HO_5.out) (by decide)) hk (fun _ h => h.2)) (fun _ h => h.1)); have n1_ := Aside0.mk (hb); have n2_ := Aside0.mk (hi); clear HO_5; clear HB; clear HI174; have HO_5 := n0_; have HB := n1_; have HI174 := n2_; clear n0_ n1_ n2_; (try clear hb); (try clear hb2); (try clear hk); (try clear hi)) | ((with_reducible refine gate_callee (f := 39) rfl ?_); refine goesL_ (some 32) rfl rfl Try.func39 (by kernel_rfl) rfl #[.pointer (some ⟨g174, 0, none⟩), .int .i64 26] rfl (by (try simp only [List.map_toArray, List.map_cons, List.map_nil]); first | done | rfl | (simp only [List.length_drop, List.length_take]; rfl)) ?_; (with_reducible refine (spec_l1Rd_pick.calls k1 g174 t172 t183 26 t184 t185 w _ ?side1 ?side2 A11.out).mono ?_); (case side1 => repeat (first | (with_reducible first | exact HI174.out | apply IsS96.alloc | apply IsS96.drewN | apply IsS96.drew | apply IsS96.set_1) | exact HI174.out)); (case side2 => repeat (first | (with_reducible first | exact HB.out | apply below_alloc | apply pw_below_drewN | apply below_drew1 | refine below_set ?_ (IsS96.ge HI174.out)) | exact HB.out)); rintro e w19 ⟨rfl, hi, hb, hk⟩; refine ⟨_, rfl, ?_⟩; have n0_ := Aside0.mk (Kd.R_mono (Kd.R_keep (IsS96.apart (show IsS96 w _ g174 t172 t183 from by repeat (first | (with_reducible first | exact HI174.out | apply IsS96.alloc | apply IsS96.drewN | apply IsS96.drew | apply IsS96.set_1) | exact HI174.out)) (by (with_reducible repeat (first | apply Kd.R_alloc | apply Kd.R_drewN | apply Kd.R_drew)); exact HO_5.out) (by decide)) hk (fun _ h => h.2)) (fun _ h => h.1)); have n1_ := Aside0.mk (hb); have n2_ := Aside0.mk (hi); clear HO_5; clear HB; clear HI174; have HO_5 := n0_; have HB := n1_; have HI174 := n2_; clear n0_ n1_ n2_; (try clear hb); (try clear hb2); (try clear hk); (try clear hi)) | ((with_reducible refine gate_dst (N := 40) rfl ?_); refine Kd.R_lit (Kd.int .u8) _ 5 ?hg (N := 40) ?hd (xs := ([(wrap64 (97 + t180)) % 256, (wrap64 (97 + (Int.tmod (wrap64 (t182 + x7_1)) 26))) % 256, (wrap64 (97 + (Int.tmod (wrap64 (t184 + (wrap64 (x7_1 * x7_1)))) 26))) % 256] : List Int)) (inner := [.int .u8 ((wrap64 (97 + t180)) % 256), .int .u8 ((wrap64 (97 + (Int.tmod (wrap64 (t182 + x7_1)) 26))) % 256), .int .u8 ((wrap64 (97 + (Int.tmod (wrap64 (t184 + (wrap64 (x7_1 * x7_1)))) 26))) % 256)]) (ok := fun _ => True) (okp := fun _ => True) ?hr ?hp (fun _ hk => hk) trivial (Below.refl _ _) (Nat.le_refl _) (by simp) ?_; (case hd => rfl); (case hg => rfl); (case hr => first | (go_simp; done) | (go_simp; rfl)); (case hp => exact (Reps.one (show Kd.M (Kd.int .u8) _ _ _ ((wrap64 (97 + t180)) % 256) [.int .u8 ((wrap64 (97 + t180)) % 256)] from rfl) (Reps.one (show Kd.M (Kd.int .u8) _ _ _ ((wrap64 (97 + (Int.tmod (wrap64 (t182 + x7_1)) 26))) % 256) [.int .u8 ((wrap64 (97 + (Int.tmod (wrap64 (t182 + x7_1)) 26))) % 256)] from rfl) (Reps.one (show Kd.M (Kd.int .u8) _ _ _ ((wrap64 (97 + (Int.tmod (wrap64 (t184 + (wrap64 (x7_1 * x7_1)))) 26))) % 256) [.int .u8 ((wrap64 (97 + (Int.tmod (wrap64 (t184 + (wrap64 (x7_1 * x7_1)))) 26))) % 256)] from rfl) (Reps.none _ _))))); intro v187 w20 ho21 hb hg_ hnew_; clear hg_ hnew_; (first | rw [← Ny186.out] at ho21 | (simp only [Int.reduceToNat] at ho21; rw [← Ny186.out] at ho21)); have n0_ := Aside0.mk (Kd.R_below (by (with_reducible repeat (first | apply Kd.R_alloc | apply Kd.R_drewN | apply Kd.R_drew)); exact HO_5.out) hb); have n1_ := Aside0.mk (Kd.R_lower ho21 (below_size (by repeat (first | (with_reducible first | exact HB.out | apply below_alloc | apply pw_below_drewN | apply below_drew1 | refine below_set ?_ (IsS96.ge HI174.out)) | exact HB.out)))); have n2_ := Aside0.mk (IsS96.below (by repeat (first | (with_reducible first | exact HI174.out | apply IsS96.alloc | apply IsS96.drewN | apply IsS96.drew | apply IsS96.set_1) | exact HI174.out)) hb); have n3_ := Aside0.mk (below_step (by repeat (first | (with_reducible first | exact HB.out | apply below_alloc | apply pw_below_drewN | apply below_drew1 | refine below_set ?_ (IsS96.ge HI174.out)) | exact HB.out)) hb); clear HO_5; clear HI174; clear HB; have HO_5 := n0_; have HO188 := n1_; have HI174 := n2_; have HB := n3_; clear n0_ n1_ n2_ n3_; clear hb ho21) | ((with_reducible refine gate_callee (f := 39) rfl ?_); refine goesL_ (some 43) rfl rfl Try.func39 (by kernel_rfl) rfl #[.pointer (some ⟨g174, 0, none⟩), .int .i64 3] rfl (by (try simp only [List.map_toArray, List.map_cons, List.map_nil]); first | done | rfl | (simp only [List.length_drop, List.length_take]; rfl)) ?_; (with_reducible refine (spec_l1Rd_pick.calls k1 g174 t172 t185 3 t189 t190 w _ ?side1 ?side2 A12.out).mono ?_); (case side1 => repeat (first | (with_reducible first | exact HI174.out | apply IsS96.alloc | apply IsS96.drewN | apply IsS96.drew | apply IsS96.set_1) | exact HI174.out)); (case side2 => repeat (first | (with_reducible first | exact HB.out | apply below_alloc | apply pw_below_drewN | apply below_drew1 | refine below_set ?_ (IsS96.ge HI174.out)) | exact HB.out)); rintro e w22 ⟨rfl, hi, hb, hk⟩; refine ⟨_, rfl, ?_⟩; have n0_ := Aside0.mk (Kd.R_mono (Kd.R_keep (IsS96.apart (show IsS96 w _ g174 t172 t185 from by repeat (first | (with_reducible first | exact HI174.out | apply IsS96.alloc | apply IsS96.drewN | apply IsS96.drew | apply IsS96.set_1) | exact HI174.out)) (by (with_reducible repeat (first | apply Kd.R_alloc | apply Kd.R_drewN | apply Kd.R_drew)); exact HO_5.out) (by decide)) hk (fun _ h => h.2)) (fun _ h => h.1)); have n1_ := Aside0.mk (Kd.R_mono (Kd.R_keep (IsS96.apart (show IsS96 w _ g174 t172 t185 from by repeat (first | (with_reducible first | exact HI174.out | apply IsS96.alloc | apply IsS96.drewN | apply IsS96.drew | apply IsS96.set_1) | exact HI174.out)) (by (with_reducible repeat (first | apply Kd.R_alloc | apply Kd.R_drewN | apply Kd.R_drew)); exact HO188.out) (by decide)) hk (fun _ h => h.2)) (fun _ h => h.1)); have n2_ := Aside0.mk (hb); have n3_ := Aside0.mk (hi); clear HO_5; clear HO188; clear HB; clear HI174; have HO_5 := n0_; have HO188 := n1_; have HB := n2_; have HI174 := n3_; clear n0_ n1_ n2_ n3_; (try clear hb); (try clear hb2); (try clear hk); (try clear hi); obtain ⟨Ao24, co24, eo24⟩ := Kd.R_slice HO188.out; subst eo24; have q23 : ((ji13) : Int) ≤ ((y186.length : Int) : Int) := of_decide_eq_true (by first | (with_reducible assumption) | assumption); obtain ⟨i023, hi023, _, hsz23, _⟩ := info_parts info5; have hroom23 : y186.length ≤ co24 := (Kd.R_reads' HO188.out).2.1; have hC23 : Kd.C (Kd.int .u8) _ Ao24 y186.length y186 := (Kd.R_reads' HO188.out).2.2; have hcut23 := cut_to (P := Try.prog) 32 5 .i64 Try.underlying32 hi023 Ao24 y186.length co24 (ji13) (of_decide_eq_true (by first | (with_reducible assumption) | assumption)) q23 hroom23; have hr23 := Kd.C_take (m := ((ji13) : Int).toNat) hC23 (by omega); have hy23 : y191.length = ((ji13) : Int).toNat := (by rw [Ny191.out, List.length_take]; omega); rw [← Ny191.out] at hr23; rw [← hy23] at hcut23; have HR194 := Aside0.mk hr23; have HC194 := Aside0.mk (show y191.length ≤ co24 from by omega); clear hr23 hC23 hroom23 hi023 hsz23; have KY23 := Aside0.mk hy23; clear hy23; have KL23 := Aside0.mk (show ((ji13) : Int).toNat ≤ y186.length from by omega); replace q23 := eq_true q23; have hcv25 := Kd.C_string (P := Try.prog) (A := Ao24) (c := co24) Try.underlying32 Try.underlying5 Try.underlying9 (by repeat (first | (with_reducible exact HR194.out) | (with_reducible refine Kd.C_alloc ?_ _) | (with_reducible refine Kd.C_drewN ?_ _) | (with_reducible refine Kd.C_drew ?_) | exact HR194.out))) | ((with_reducible refine gate_builtin (b := .append) (xs := #[.tmp 19, .tmp 49]) rfl ?_); at_builtin; refine Kd.R_append Kd.string (w0 := w) w.heap.size rfl (.tmp 19) (.tmp 49) 25 9 (.string ⟨#[]⟩) 16 rfl Try.underlying25 info9 rfl (by decide) (by omega) u5 x5_1 (strOfNums y191) [.string (strOfNums y191)] (fun _ => True) (fun _ => False) rfl rfl ?aP (fun _ hk => hk.elim) ?aF ?aO ?aB ?aS ?aL ?_; (case aP => exact rfl); (case aB => exact (by repeat (first | (with_reducible first | exact HB.out | apply below_alloc | apply pw_below_drewN | apply below_drew1 | refine below_set ?_ (IsS96.ge HI174.out)) | exact HB.out))); (case aF => exact (fun _ _ => trivial)); (case aO => exact (by (with_reducible repeat (first | apply Kd.R_alloc | apply Kd.R_drewN | apply Kd.R_drew)); exact HO_5.out)); (case aS => exact (below_size (by repeat (first | (with_reducible first | exact HB.out | apply below_alloc | apply pw_below_drewN | apply below_drew1 | refine below_set ?_ (IsS96.ge HI174.out)) | exact HB.out)))); (case aL => have := LMc16.out; omega); intro v196 w26 ho hb hg hat; rw [← Ny195.out] at ho; have n0_ := Aside0.mk (IsS96.grown (by repeat (first | (with_reducible first | exact HI174.out | apply IsS96.alloc | apply IsS96.drewN | apply IsS96.drew | apply IsS96.set_1) | exact HI174.out)) hg (IsS96.own_ne HI174.out HO_5.out (by decide))); have n1_ := Aside0.mk (Kd.R_over' (by (with_reducible repeat (first | apply Kd.R_alloc | apply Kd.R_drewN | apply Kd.R_drew)); exact HO188.out) (Kd.R_typed (by (with_reducible repeat (first | apply Kd.R_alloc | apply Kd.R_drewN | apply Kd.R_drew)); exact HO_5.out)) (by decide) hg); have n2_ := Aside0.mk (hb); have n3_ := Aside0.mk ((show Kd.C (Kd.int .u8) w26 Ao24 y191.length y191 from by rw [Ny191.out]; exact Kd.C_take (m := ((ji13) : Int).toNat) ((Kd.R_reads' (Kd.R_over' (by (with_reducible repeat (first | apply Kd.R_alloc | apply Kd.R_drewN | apply Kd.R_drew)); exact HO188.out) (Kd.R_typed (by (with_reducible repeat (first | apply Kd.R_alloc | apply Kd.R_drewN | apply Kd.R_drew)); exact HO_5.out)) (by decide) hg)).2.2) KL23.out)); have n4_ := Aside0.mk (ho); clear HI174; clear HO188; clear HB; clear HR194; clear HO_5; have HI174 := n0_; have HO188 := n1_; have HB := n2_; have HR194 := n3_; have HO197 := n4_; clear n0_ n1_ n2_ n3_ n4_; clear ho hb hg hat))
              go_roundg k1
              case measure => have := HK1.out; omega
              case rel => exact ⟨(y195), (wrap64 (x7_1 + 1)), (t190), (by first | rfl | (simp; done) | (simp [*]; done)), H', ⟨by have := HK1.out; omega⟩, ⟨by (with_reducible repeat (first | apply Kd.R_alloc | apply Kd.R_drewN | apply Kd.R_drew)); exact HO197.out⟩, ⟨by repeat (first | (with_reducible first | exact HI174.out | apply IsS96.alloc | apply IsS96.drewN | apply IsS96.drew | apply IsS96.set_1) | exact HI174.out)⟩, ⟨by repeat (first | (with_reducible first | exact HB.out | apply below_alloc | apply pw_below_drewN | apply below_drew1 | refine below_set ?_ (IsS96.ge HI174.out)) | exact HB.out)⟩⟩
            · rw [if_neg c16] at H
              exact absurd H (by simp)
          · rw [if_neg c15] at H
            exact absurd H (by simp)
        · rw [if_neg c14] at H
          exact absurd H (by simp)
      · rw [if_neg c8] at H
        have c8b0 : decide (x7_1 < (wrap64 (10 + t178))) = false := decide_eq_false c8
        clear c8
        replace H := Option.bind_eq_some_iff.mp H
        obtain ⟨⟨t198, t199⟩, A270, H⟩ := H
        replace H : (if t198 = 0 then (spec_DrawClash.l1 k1 x5_1 t172 t199) else (if t198 = 1 then ((some (([0, 9] : List Int) : List Int)).bind fun y211 => ((spec_l1Rd_pick.f k1 t172 t199 2).bind fun bt214 => (if 0 ≤ bt214.1 then (if bt214.1 < (y211.length : Int) then (some (x5_1, rd y211 bt214.1)) else (none)) else (none)))) else ((some (([1, 1, 1, 2, 8] : List Int) : List Int)).bind fun y217 => ((spec_l1Rd_pick.f k1 t172 t199 5).bind fun bt220 => (if 0 ≤ bt220.1 then (if bt220.1 < (y217.length : Int) then (some (x5_1, rd y217 bt220.1)) else (none)) else (none)))))) = some (r1, r2) := H
        have A27 := Aside0.mk A270
        clear A270
        by_cases c28 : t198 = 0
        · rw [if_pos c28] at H
          have c28b0 : (t198 == 0) = true := beq_iff_eq.mpr c28
          have c28b1 : (t198 != 0) = false := bne_eq_false_iff_eq.mpr c28
          clear c28
          have H' := Aside0.mk H
          clear H
          go_wp2_with (first | ((with_reducible refine gate_callee (f := 39) rfl ?_); refine goesL_ (some 52) rfl rfl Try.func39 (by kernel_rfl) rfl #[.pointer (some ⟨g174, 0, none⟩), .int .i64 24] rfl (by (try simp only [List.map_toArray, List.map_cons, List.map_nil]); first | done | rfl | (simp only [List.length_drop, List.length_take]; rfl)) ?_; (with_reducible refine (spec_l1Rd_pick.calls k1 g174 t172 x175001_1 24 t198 t199 w _ ?side1 ?side2 A27.out).mono ?_); (case side1 => repeat (first | (with_reducible first | exact HI174.out | apply IsS96.alloc | apply IsS96.drewN | apply IsS96.drew | apply IsS96.set_1) | exact HI174.out)); (case side2 => repeat (first | (with_reducible first | exact HB.out | apply below_alloc | apply pw_below_drewN | apply below_drew1 | refine below_set ?_ (IsS96.ge HI174.out)) | exact HB.out)); rintro e w29 ⟨rfl, hi, hb, hk⟩; refine ⟨_, rfl, ?_⟩; have n0_ := Aside0.mk (Kd.R_mono (Kd.R_keep (IsS96.apart (show IsS96 w _ g174 t172 x175001_1 from by repeat (first | (with_reducible first | exact HI174.out | apply IsS96.alloc | apply IsS96.drewN | apply IsS96.drew | apply IsS96.set_1) | exact HI174.out)) (by (with_reducible repeat (first | apply Kd.R_alloc | apply Kd.R_drewN | apply Kd.R_drew)); exact HO_5.out) (by decide)) hk (fun _ h => h.2)) (fun _ h => h.1)); have n1_ := Aside0.mk (hb); have n2_ := Aside0.mk (hi); clear HO_5; clear HB; clear HI174; have HO_5 := n0_; have HB := n1_; have HI174 := n2_; clear n0_ n1_ n2_; (try clear hb); (try clear hb2); (try clear hk); (try clear hi)))
          go_loopg [5] k1 (fun kq v5 w' => ∃ (x5_2 : List ByteArray) (x175001_2 : Int), Aside0 (spec_DrawClash.l1 kq x5_2 t172 x175001_2 = some (r1, r2)) ∧ Aside0 (kq ≤ k1) ∧ Aside0 (Kd.R Kd.string 9 w' w.heap.size (fun _ => True) v5 x5_2) ∧ Aside0 (IsS96 w w' g174 t172 x175001_2) ∧ Aside0 (Below w.heap.size w w'))
          case atStart => exact ⟨(x5_1), (t199), H', ⟨Nat.le_refl _⟩, ⟨by (with_reducible repeat (first | apply Kd.R_alloc | apply Kd.R_drewN | apply Kd.R_drew)); exact HO_5.out⟩, ⟨by repeat (first | (with_reducible first | exact HI174.out | apply IsS96.alloc | apply IsS96.drewN | apply IsS96.drew | apply IsS96.set_1) | exact HI174.out)⟩, ⟨by repeat (first | (with_reducible first | exact HB.out | apply below_alloc | apply pw_below_drewN | apply below_drew1 | refine below_set ?_ (IsS96.ge HI174.out)) | exact HB.out)⟩⟩
          case round =>
            clear H'
            try clear c1
            try clear c2
            try clear p2
            try clear q2
            try clear hcv2
            try clear c3
            try clear p6
            try clear c8
            try clear c8b0
            try clear c14
            try clear c14b0
            try clear c14b1
            try clear c15
            try clear c15b0
            try clear c15b1
            try clear c16
            try clear c18
            try clear q23
            try clear hcv25
            try clear c28
            try clear c28b0
            try clear c28b1
            try clear p2
            try clear p6
            try clear q23
            obtain ⟨x5_2, x175001_2, HA, HK2, HO_5, HI174, HB⟩ := hrel
            cases gk with
            | zero => exact absurd HA.out (by simp [spec_DrawClash.l1])
            | succ k2 =>
              have H := HA.out
              clear HA
              simp only [spec_DrawClash.l1] at H
              replace H := Option.bind_eq_some_iff.mp H
              obtain ⟨⟨t200, t201⟩, A300, H⟩ := H
              replace H : (if (x5_2.length : Int) < (wrap64 (3000 + t200)) then (if x5_2.length < 8796093022208 then (spec_DrawClash.l1 k2 (x5_2 ++ [(⟨#[115, 97, 109, 101]⟩ : ByteArray)]) t172 t201) else (none)) else ((some (([1, 1, 1, 2, 8] : List Int) : List Int)).bind fun y205 => ((spec_l1Rd_pick.f k2 t172 t201 5).bind fun bt208 => (if 0 ≤ bt208.1 then (if bt208.1 < (y205.length : Int) then (some (x5_2, rd y205 bt208.1)) else (none)) else (none))))) = some (r1, r2) := H
              have A30 := Aside0.mk A300
              clear A300
              by_cases c31 : (x5_2.length : Int) < (wrap64 (3000 + t200))
              · rw [if_pos c31] at H
                have c31b0 : decide ((x5_2.length : Int) < (wrap64 (3000 + t200))) = true := decide_eq_true c31
                clear c31
                by_cases c32 : x5_2.length < 8796093022208
                · rw [if_pos c32] at H
                  have LMc32 := Aside0.mk c32
                  clear c32
                  obtain ⟨y202, hy202⟩ : ∃ y_ : List ByteArray, y_ = (x5_2 ++ [(⟨#[115, 97, 109, 101]⟩ : ByteArray)]) := ⟨_, rfl⟩
                  replace H : (spec_DrawClash.l1 k2 y202 t172 t201) = some (r1, r2) := by first | (rw [hy202]; with_reducible exact H) | (have H2_ := (Option.bind_some _ _).symm.trans H; rw [hy202]; with_reducible exact H2_) | (have H2_ := (Option.bind_some _ _).symm.trans H; with_reducible exact H2_) | with_reducible exact H | (rw [hy202]; exact H) | exact H
                  have Ny202 := Aside0.mk hy202
                  clear hy202
                  have H' := Aside0.mk H
                  clear H
                  obtain ⟨Ao33, co33, eo33⟩ := Kd.R_slice HO_5.out
                  subst eo33
                  go_wp2_with (first | ((with_reducible refine gate_callee (f := 39) rfl ?_); refine goesL_ (some 58) rfl rfl Try.func39 (by kernel_rfl) rfl #[.pointer (some ⟨g174, 0, none⟩), .int .i64 2] rfl (by (try simp only [List.map_toArray, List.map_cons, List.map_nil]); first | done | rfl | (simp only [List.length_drop, List.length_take]; rfl)) ?_; (with_reducible refine (spec_l1Rd_pick.calls k2 g174 t172 x175001_2 2 t200 t201 w _ ?side1 ?side2 A30.out).mono ?_); (case side1 => repeat (first | (with_reducible first | exact HI174.out | apply IsS96.alloc | apply IsS96.drewN | apply IsS96.drew | apply IsS96.set_1) | exact HI174.out)); (case side2 => repeat (first | (with_reducible first | exact HB.out | apply below_alloc | apply pw_below_drewN | apply below_drew1 | refine below_set ?_ (IsS96.ge HI174.out)) | exact HB.out)); rintro e w34 ⟨rfl, hi, hb, hk⟩; refine ⟨_, rfl, ?_⟩; have n0_ := Aside0.mk (Kd.R_mono (Kd.R_keep (IsS96.apart (show IsS96 w _ g174 t172 x175001_2 from by repeat (first | (with_reducible first | exact HI174.out | apply IsS96.alloc | apply IsS96.drewN | apply IsS96.drew | apply IsS96.set_1) | exact HI174.out)) (by (with_reducible repeat (first | apply Kd.R_alloc | apply Kd.R_drewN | apply Kd.R_drew)); exact HO_5.out) (by decide)) hk (fun _ h => h.2)) (fun _ h => h.1)); have n1_ := Aside0.mk (hb); have n2_ := Aside0.mk (hi); clear HO_5; clear HB; clear HI174; have HO_5 := n0_; have HB := n1_; have HI174 := n2_; clear n0_ n1_ n2_; (try clear hb); (try clear hb2); (try clear hk); (try clear hi)) | ((with_reducible refine gate_builtin (b := .append) (xs := #[.tmp 61, .tmp 62]) rfl ?_); at_builtin; refine Kd.R_append Kd.string (w0 := w) w.heap.size rfl (.tmp 61) (.tmp 62) 25 9 (.string ⟨#[]⟩) 16 rfl Try.underlying25 info9 rfl (by decide) (by omega) (.slice Ao33 x5_2.length co33) x5_2 (⟨#[115, 97, 109, 101]⟩ : ByteArray) [.string (⟨#[115, 97, 109, 101]⟩ : ByteArray)] (fun _ => True) (fun _ => False) rfl rfl ?aP (fun _ hk => hk.elim) ?aF ?aO ?aB ?aS ?aL ?_; (case aP => exact rfl); (case aB => exact (by repeat (first | (with_reducible first | exact HB.out | apply below_alloc | apply pw_below_drewN | apply below_drew1 | refine below_set ?_ (IsS96.ge HI174.out)) | exact HB.out))); (case aF => exact (fun _ _ => trivial)); (case aO => exact (by (with_reducible repeat (first | apply Kd.R_alloc | apply Kd.R_drewN | apply Kd.R_drew)); exact HO_5.out)); (case aS => exact (below_size (by repeat (first | (with_reducible first | exact HB.out | apply below_alloc | apply pw_below_drewN | apply below_drew1 | refine below_set ?_ (IsS96.ge HI174.out)) | exact HB.out)))); (case aL => have := LMc32.out; omega); intro v203 w35 ho hb hg hat; rw [← Ny202.out] at ho; have n0_ := Aside0.mk (IsS96.grown (by repeat (first | (with_reducible first | exact HI174.out | apply IsS96.alloc | apply IsS96.drewN | apply IsS96.drew | apply IsS96.set_1) | exact HI174.out)) hg (IsS96.own_ne HI174.out HO_5.out (by decide))); have n1_ := Aside0.mk (hb); have n2_ := Aside0.mk (ho); clear HI174; clear HB; clear HO_5; have HI174 := n0_; have HB := n1_; have HO204 := n2_; clear n0_ n1_ n2_; clear ho hb hg hat))
                  go_roundg k2
                  case measure => have := HK1.out; have := HK2.out; omega
                  case rel => exact ⟨(y202), (t201), H', ⟨by have := HK1.out; have := HK2.out; omega⟩, ⟨by (with_reducible repeat (first | apply Kd.R_alloc | apply Kd.R_drewN | apply Kd.R_drew)); exact HO204.out⟩, ⟨by repeat (first | (with_reducible first | exact HI174.out | apply IsS96.alloc | apply IsS96.drewN | apply IsS96.drew | apply IsS96.set_1) | exact HI174.out)⟩, ⟨by repeat (first | (with_reducible first | exact HB.out | apply below_alloc | apply pw_below_drewN | apply below_drew1 | refine below_set ?_ (IsS96.ge HI174.out)) | exact HB.out)⟩⟩
                · rw [if_neg c32] at H
                  exact absurd H (by simp)
              · rw [if_neg c31] at H
                have c31b0 : decide ((x5_2.length : Int) < (wrap64 (3000 + t200))) = false := decide_eq_false c31
                clear c31
                obtain ⟨y205, hy205⟩ : ∃ y_ : List Int, y_ = (([1, 1, 1, 2, 8] : List Int)) := ⟨_, rfl⟩
                replace H : ((spec_l1Rd_pick.f k2 t172 t201 5).bind fun bt208 => (if 0 ≤ bt208.1 then (if bt208.1 < (y205.length : Int) then (some (x5_2, rd y205 bt208.1)) else (none)) else (none))) = some (r1, r2) := by first | (rw [hy205]; with_reducible exact H) | (have H2_ := (Option.bind_some _ _).symm.trans H; rw [hy205]; with_reducible exact H2_) | (have H2_ := (Option.bind_some _ _).symm.trans H; with_reducible exact H2_) | with_reducible exact H | (rw [hy205]; exact H) | exact H
                have Ny205 := Aside0.mk hy205
                clear hy205
                replace H := Option.bind_eq_some_iff.mp H
                obtain ⟨⟨t208, t209⟩, A360, H⟩ := H
                replace H : (if 0 ≤ t208 then (if t208 < (y205.length : Int) then (some (x5_2, rd y205 t208)) else (none)) else (none)) = some (r1, r2) := H
                have A36 := Aside0.mk A360
                clear A360
                by_cases c37 : 0 ≤ t208
                · rw [if_pos c37] at H
                  have c37b0 : decide (0 ≤ t208) = true := decide_eq_true c37
                  clear c37
                  by_cases c38 : t208 < (y205.length : Int)
                  · rw [if_pos c38] at H
                    have c38b0 : decide (t208 < (y205.length : Int)) = true := decide_eq_true c38
                    clear c38
                    simp only [Option.some.injEq, Prod.mk.injEq] at H
                    obtain ⟨rfl, rfl⟩ := H
                    obtain ⟨Ao39, co39, eo39⟩ := Kd.R_slice HO_5.out
                    subst eo39
                    try go_wp2_with (first | ((with_reducible refine gate_callee (f := 39) rfl ?_); refine goesL_ (some 58) rfl rfl Try.func39 (by kernel_rfl) rfl #[.pointer (some ⟨g174, 0, none⟩), .int .i64 2] rfl (by (try simp only [List.map_toArray, List.map_cons, List.map_nil]); first | done | rfl | (simp only [List.length_drop, List.length_take]; rfl)) ?_; (with_reducible refine (spec_l1Rd_pick.calls k2 g174 t172 x175001_2 2 t200 t201 w _ ?side1 ?side2 A30.out).mono ?_); (case side1 => repeat (first | (with_reducible first | exact HI174.out | apply IsS96.alloc | apply IsS96.drewN | apply IsS96.drew | apply IsS96.set_1) | exact HI174.out)); (case side2 => repeat (first | (with_reducible first | exact HB.out | apply below_alloc | apply pw_below_drewN | apply below_drew1 | refine below_set ?_ (IsS96.ge HI174.out)) | exact HB.out)); rintro e w40 ⟨rfl, hi, hb, hk⟩; refine ⟨_, rfl, ?_⟩; have n0_ := Aside0.mk (Kd.R_mono (Kd.R_keep (IsS96.apart (show IsS96 w _ g174 t172 x175001_2 from by repeat (first | (with_reducible first | exact HI174.out | apply IsS96.alloc | apply IsS96.drewN | apply IsS96.drew | apply IsS96.set_1) | exact HI174.out)) (by (with_reducible repeat (first | apply Kd.R_alloc | apply Kd.R_drewN | apply Kd.R_drew)); exact HO_5.out) (by decide)) hk (fun _ h => h.2)) (fun _ h => h.1)); have n1_ := Aside0.mk (hb); have n2_ := Aside0.mk (hi); clear HO_5; clear HB; clear HI174; have HO_5 := n0_; have HB := n1_; have HI174 := n2_; clear n0_ n1_ n2_; (try clear hb); (try clear hb2); (try clear hk); (try clear hi)))
                    have pi210 : (0 ≤ (t208 : Int)) = True := eq_true (of_decide_eq_true (by first | (with_reducible assumption) | assumption))
                    have qi210 : (t208 < (y205.length : Int)) = True := eq_true (of_decide_eq_true (by first | (with_reducible assumption) | assumption))
                    have n0_ := Aside0.mk (Kd.R_drew HO_5.out)
                    have n1_ := Aside0.mk (IsS96.drew HI174.out)
                    have n2_ := Aside0.mk (below_drew1 HB.out)
                    clear HO_5
                    clear HI174
                    clear HB
                    have HO_5 := n0_
                    have HI174 := n1_
                    have HB := n2_
                    clear n0_ n1_ n2_
                    refine start_ (n := 8) (S := fun w' => True) (ds := []) #[false, false, false, false, false, false, false, false] (by kernel_rfl) rfl rfl trivial (fun hHeld => ?_); refine with_tabW spec_DrawClash.tab14 spec_DrawClash.bits14 (fun HT_ HW_ => ?_)
                    generalize w40.drew = w41 at HO_5 HI174 HB hHeld ⊢
                    refine pure_ (i := 0) (N := some 72) (v := ?_) (a' := ?_) #[true, false, false, false, false, false, false, false] rfl rfl (any_of HT_.out (by kernel_rfl)) (fun _ _ _ h => h) (Or.inl ⟨by rfl, ?_⟩) ?_ ?_
                    rotate_left
                    · intro w'
                      go_simp
                      with_reducible rfl
                    rotate_left
                    · simp only [Act.put, List.setIfInBounds_toArray, List.set_cons_zero, List.set_cons_succ, i64_w, i32_w]
                      rfl
                    refine pure_ (i := 2) (N := some 74) (v := ?_) (a' := ?_) #[true, false, true, false, false, false, false, false] rfl rfl (any_of HT_.out (by kernel_rfl)) (fun _ _ _ h => h) (Or.inl ⟨by rfl, ?_⟩) ?_ ?_
                    rotate_left
                    · intro w'
                      go_simp
                      with_reducible rfl
                    rotate_left
                    · simp only [Act.put, List.setIfInBounds_toArray, List.set_cons_zero, List.set_cons_succ, i64_w, i32_w]
                      rfl
                    refine inv_at [1, 3, 4, 5, 6, 7] (fun a0_ b a w' => ∃ (v206 : Value) (adz_v206 : Addr) (m4_ : Value), a = putSel a0_ b [(1, 73, v206), (3, 75, .int .i64 t208), (4, 76, m4_), (5, 77, .int .i64 (rd y205 t208)), (6, 2, .slice Ao39 x5_2.length co39), (7, 3, .int .i64 (rd y205 t208))] ∧ (Kd.R Kd.string 9 w' w.heap.size (fun _ => True) (.slice Ao39 x5_2.length co39) x5_2) ∧ (b 3 = false → IsS96 w w' g174 t172 t201) ∧ (Below w.heap.size w w') ∧ (b 1 = true → Kd.R (Kd.int .i64) 3 w' w.heap.size (fun _ => True) v206 y205) ∧ (b 1 = true → ∃ c_, (v206 : Value) = .slice (some adz_v206) y205.length c_) ∧ (b 3 = true → IsS96 w w' g174 t172 t209) ∧ (b 4 = true → (m4_ : Value) = .pointer (some (adz_v206.add (t208).toNat)))) HT_.out HW_.out (by kernel_rfl) (by kernel_rfl) ?_ ?_ ?_
                    · exact ⟨.bool false, ⟨0, 0, none⟩, .bool false, by simp only [putSel, Bool.false_eq_true, if_false], HO_5.out, fun _ => HI174.out, HB.out, fun h_ => absurd h_ (by decide), fun h_ => absurd h_ (by decide), fun h_ => absurd h_ (by decide), fun h_ => absurd h_ (by decide)⟩
                    · skip
                      clear HB HI174 HO_5
                      refine steps_cons ?_ ?_
                      · rintro b a w' ⟨v206, adz_v206, m4_, ha, Q_HO_5, Q_HI174, Q_HB, Q_HO207, Q_HA_HO207, Q_HI174_e3, Q_X4_⟩ hb_ hon hoff
                        refine ⟨_, rfl, fun K hK => ?_⟩
                        replace ha := Aside0.mk ha
                        have HO_5 := Aside0.mk Q_HO_5
                        have HB := Aside0.mk Q_HB
                        refine Kd.R_lit_step (Kd.int .i64) _ 3 ?hg (N := 73) ?hd (xs := ([1, 1, 1, 2, 8] : List Int)) (inner := [.int .i64 1, .int .i64 1, .int .i64 1, .int .i64 2, .int .i64 8]) (ok := fun _ => True) (okp := fun _ => True) ?hr ?hp (fun _ hk => hk) trivial (Below.refl _ _) (Nat.le_refl _) (by simp) ?_; (case hd => rfl); (case hg => rfl); (case hr => first | (go_simp; done) | (go_simp; rfl)); (case hp => exact (Reps.one (show Kd.M (Kd.int .i64) _ _ _ 1 [.int .i64 1] from rfl) (Reps.one (show Kd.M (Kd.int .i64) _ _ _ 1 [.int .i64 1] from rfl) (Reps.one (show Kd.M (Kd.int .i64) _ _ _ 1 [.int .i64 1] from rfl) (Reps.one (show Kd.M (Kd.int .i64) _ _ _ 2 [.int .i64 2] from rfl) (Reps.one (show Kd.M (Kd.int .i64) _ _ _ 8 [.int .i64 8] from rfl) (Reps.none _ _)))))))
                        intro v206 w42 ho43 hb hg_ hnew_
                        clear hg_ hnew_
                        (first | rw [← Ny205.out] at ho43 | (simp only [Int.reduceToNat] at ho43; rw [← Ny205.out] at ho43))
                        have n0_ := Aside0.mk (Kd.R_below (by (with_reducible repeat (first | apply Kd.R_alloc | apply Kd.R_drewN | apply Kd.R_drew)); exact HO_5.out) hb)
                        have n1_ := Aside0.mk (Kd.R_lower ho43 (below_size (by repeat (first | (with_reducible first | exact HB.out | apply below_alloc | apply pw_below_drewN | apply below_drew1) | exact HB.out))))
                        have n3_ := Aside0.mk (below_step (by repeat (first | (with_reducible first | exact HB.out | apply below_alloc | apply pw_below_drewN | apply below_drew1) | exact HB.out)) hb)
                        have z_HI174 := fun (h0_ : b 3 = false) => (show IsS96 w w42 g174 t172 t201 from by first | exact (IsS96.below (by repeat (first | (with_reducible first | exact (Q_HI174 h0_) | apply IsS96.alloc | apply IsS96.drewN | apply IsS96.drew | apply IsS96.set_1) | exact (Q_HI174 h0_))) hb))
                        have z_HI174_e3 := fun (h0_ : b 3 = true) => (show IsS96 w w42 g174 t172 t209 from by first | exact (IsS96.below (by repeat (first | (with_reducible first | exact (Q_HI174_e3 h0_) | apply IsS96.alloc | apply IsS96.drewN | apply IsS96.drew | apply IsS96.set_1) | exact (Q_HI174_e3 h0_))) hb))
                        clear HO_5
                        clear HB
                        have HO_5 := n0_
                        have HO207 := n1_
                        have HB := n3_
                        clear n0_ n1_ n3_
                        clear hb ho43
                        obtain ⟨Ao44, co44, eo44⟩ := Kd.R_slice HO207.out
                        subst eo44
                        obtain ⟨ado44, fo44, _⟩ := Kd.at_int (Kd.R_reads' HO207.out).2.2 0 (by decide) (by rw [Ny205.out]; simp)
                        cases fo44
                        refine hK.out _ _ ⟨.slice (some ado44) y205.length co44, ado44, m4_, (by rw [ha.out]; exact putSel_upk 0 hb_ rfl rfl rfl), (by (with_reducible repeat (first | apply Kd.R_alloc | apply Kd.R_drewN | apply Kd.R_drew)); exact HO_5.out), z_HI174, (by repeat (first | (with_reducible first | exact HB.out | apply below_alloc | apply pw_below_drewN | apply below_drew1) | exact HB.out)), fun _ => (by (with_reducible repeat (first | apply Kd.R_alloc | apply Kd.R_drewN | apply Kd.R_drew)); exact HO207.out), fun _ => ⟨_, rfl⟩, z_HI174_e3, fun h0_ => absurd ((hoff 4 (by kernel_rfl)).symm.trans h0_) (by decide)⟩
                      refine steps_cons ?_ ?_
                      · rintro b a w' ⟨v206, adz_v206, m4_, ha, Q_HO_5, Q_HI174, Q_HB, Q_HO207, Q_HA_HO207, Q_HI174_e3, Q_X4_⟩ hb_ hon hoff
                        refine ⟨_, rfl, fun K hK => ?_⟩
                        have e74 : a.tmps[74]? = some (.pointer (some ⟨g174, 0, none⟩)) := by rw [ha]; exact (putSel_off rfl).trans rfl
                        replace ha := Aside0.mk ha
                        have HO_5 := Aside0.mk Q_HO_5
                        have HI174 := Aside0.mk (Q_HI174 hb_)
                        have HB := Aside0.mk Q_HB
                        refine goes_ Try.func39 (by kernel_rfl) rfl #[.pointer (some ⟨g174, 0, none⟩), .int .i64 5] (by rfl) rfl rfl (by first | (simp only [List.map_toArray, List.map_cons, List.map_nil, Act.eval, Array.getD_eq_getD_getElem?, Option.getD_some, e74]; done) | (simp only [List.map_toArray, List.map_cons, List.map_nil, Act.eval, Array.getD_eq_getD_getElem?, Option.getD_some, e74]; rfl)) ?_
                        with_reducible refine (spec_l1Rd_pick.calls k2 g174 t172 t201 5 t208 t209 w _ ?side1 ?side2 A36.out).mono ?_
                        (case side1 => repeat (first | (with_reducible first | exact HI174.out | apply IsS96.alloc | apply IsS96.drewN | apply IsS96.drew | apply IsS96.set_1) | exact HI174.out))
                        (case side2 => repeat (first | (with_reducible first | exact HB.out | apply below_alloc | apply pw_below_drewN | apply below_drew1 | refine below_set ?_ (IsS96.ge HI174.out)) | exact HB.out))
                        rintro e w42 ⟨rfl, hi, hb, hk⟩
                        refine ⟨_, rfl, ?_⟩
                        have n0_ := Aside0.mk (Kd.R_mono (Kd.R_keep (IsS96.apart (show IsS96 w _ g174 t172 t201 from by repeat (first | (with_reducible first | exact HI174.out | apply IsS96.alloc | apply IsS96.drewN | apply IsS96.drew | apply IsS96.set_1) | exact HI174.out)) (by (with_reducible repeat (first | apply Kd.R_alloc | apply Kd.R_drewN | apply Kd.R_drew)); exact HO_5.out) (by decide)) hk (fun _ h => h.2)) (fun _ h => h.1))
                        have n1_ := Aside0.mk (hb)
                        have n2_ := Aside0.mk (hi)
                        have z_HO207 := fun (h0_ : b 1 = true) => (show Kd.R (Kd.int .i64) 3 w42 w.heap.size (fun _ => True) v206 y205 from by first | exact (Kd.R_mono (Kd.R_keep (IsS96.apart (show IsS96 w _ g174 t172 t201 from by repeat (first | (with_reducible first | exact HI174.out | apply IsS96.alloc | apply IsS96.drewN | apply IsS96.drew | apply IsS96.set_1) | exact HI174.out)) (by (with_reducible repeat (first | apply Kd.R_alloc | apply Kd.R_drewN | apply Kd.R_drew)); exact (Q_HO207 h0_)) (by decide)) hk (fun _ h => h.2)) (fun _ h => h.1)) | exact Kd.R_mono (Kd.R_mono (Kd.R_keep (IsS96.apart (show IsS96 w _ g174 t172 t201 from by repeat (first | (with_reducible first | exact HI174.out | apply IsS96.alloc | apply IsS96.drewN | apply IsS96.drew | apply IsS96.set_1) | exact HI174.out)) (by (with_reducible repeat (first | apply Kd.R_alloc | apply Kd.R_drewN | apply Kd.R_drew)); exact (Q_HO207 h0_)) (by decide)) hk (fun _ h => h.2)) (fun _ h => h.1)) (fun _ h_ => by first | trivial | exact h_ | exact h_.1))
                        clear HO_5
                        clear HB
                        clear HI174
                        have HO_5 := n0_
                        have HB := n1_
                        have HI174 := n2_
                        clear n0_ n1_ n2_
                        (try clear hb)
                        (try clear hb2)
                        (try clear hk)
                        (try clear hi)
                        refine hK.out _ _ ⟨v206, adz_v206, m4_, (by rw [ha.out]; exact putSel_upk 1 hb_ rfl rfl rfl), (by (with_reducible repeat (first | apply Kd.R_alloc | apply Kd.R_drewN | apply Kd.R_drew)); exact HO_5.out), fun h0_ => absurd ((up_self b 3).symm.trans h0_) (by decide), (by repeat (first | (with_reducible first | exact HB.out | apply below_alloc | apply pw_below_drewN | apply below_drew1 | refine below_set ?_ (IsS96.ge HI174.out)) | exact HB.out)), z_HO207, Q_HA_HO207, fun _ => (by repeat (first | (with_reducible first | exact HI174.out | apply IsS96.alloc | apply IsS96.drewN | apply IsS96.drew | apply IsS96.set_1) | exact HI174.out)), fun h0_ => absurd ((hoff 4 (by kernel_rfl)).symm.trans h0_) (by decide)⟩
                      refine steps_cons ?_ ?_
                      · rintro b a w' ⟨v206, adz_v206, m4_, ha, Q_HO_5, Q_HI174, Q_HB, Q_HO207, Q_HA_HO207, Q_HI174_e3, Q_X4_⟩ hb_ hon hoff
                        refine ⟨_, rfl, fun K hK => ?_⟩
                        have e73 : a.tmps[73]? = some (v206) := by rw [ha]; exact putSel_on (e := (1, 73, v206)) 0 rfl rfl (hon 1 (by kernel_rfl)) rfl
                        have e75 : a.tmps[75]? = some (.int .i64 t208) := by rw [ha]; exact putSel_on (e := (3, 75, .int .i64 t208)) 1 rfl rfl (hon 3 (by kernel_rfl)) rfl
                        replace ha := Aside0.mk ha
                        have HO_5 := Aside0.mk Q_HO_5
                        have HB := Aside0.mk Q_HB
                        have HO207 := Aside0.mk (Q_HO207 (hon 1 (by kernel_rfl)))
                        have HA_HO207 := Aside0.mk (Q_HA_HO207 (hon 1 (by kernel_rfl)))
                        have HI174 := Aside0.mk (Q_HI174_e3 (hon 3 (by kernel_rfl)))
                        obtain ⟨c_, hv_⟩ := HA_HO207.out
                        rw [hv_] at e73
                        refine value_ (w1 := w') (v := .pointer (some (adz_v206.add (t208).toNat))) (by rfl) rfl ?_ ?_
                        · go_simp
                          (try simp only [i64_w])
                          try rfl
                        refine hK.out _ _ ⟨v206, adz_v206, (.pointer (some (adz_v206.add (t208).toNat))), (by rw [ha.out]; exact putSel_upk 2 hb_ rfl rfl rfl), Q_HO_5, fun h0_ => absurd ((hon 3 (by kernel_rfl)).symm.trans h0_) (by decide), Q_HB, Q_HO207, Q_HA_HO207, Q_HI174_e3, fun _ => rfl⟩
                      refine steps_cons ?_ ?_
                      · rintro b a w' ⟨v206, adz_v206, m4_, ha, Q_HO_5, Q_HI174, Q_HB, Q_HO207, Q_HA_HO207, Q_HI174_e3, Q_X4_⟩ hb_ hon hoff
                        refine ⟨_, rfl, fun K hK => ?_⟩
                        have e76 : a.tmps[76]? = some (m4_) := by rw [ha]; exact putSel_on (e := (4, 76, m4_)) 2 rfl rfl (hon 4 (by kernel_rfl)) rfl
                        rw [Q_X4_ (hon 4 (by kernel_rfl))] at e76
                        replace ha := Aside0.mk ha
                        have HO_5 := Aside0.mk Q_HO_5
                        have HB := Aside0.mk Q_HB
                        have HO207 := Aside0.mk (Q_HO207 (hon 1 (by kernel_rfl)))
                        have HA_HO207 := Aside0.mk (Q_HA_HO207 (hon 1 (by kernel_rfl)))
                        have HI174 := Aside0.mk (Q_HI174_e3 (hon 3 (by kernel_rfl)))
                        obtain ⟨c_, hv_⟩ := HA_HO207.out
                        have hF_ := HO207.out
                        rw [hv_] at hF_
                        obtain ⟨ad_, ea_, hx_⟩ := Kd.at_int (Kd.R_reads' hF_).2.2 t208 (of_eq_true pi210) (of_eq_true qi210)
                        cases ea_
                        refine value_ (w1 := w') (v := .int .i64 (rd y205 t208)) (by rfl) rfl ?_ ?_
                        · go_simp
                          (try simp only [i64_w])
                          try rfl
                        refine hK.out _ _ ⟨v206, adz_v206, m4_, (by rw [ha.out]; exact putSel_upk 3 hb_ rfl rfl rfl), Q_HO_5, fun h0_ => absurd ((hon 3 (by kernel_rfl)).symm.trans h0_) (by decide), Q_HB, Q_HO207, Q_HA_HO207, Q_HI174_e3, Q_X4_⟩
                      refine steps_cons ?_ ?_
                      · rintro b a w' ⟨v206, adz_v206, m4_, ha, Q_HO_5, Q_HI174, Q_HB, Q_HO207, Q_HA_HO207, Q_HI174_e3, Q_X4_⟩ hb_ hon hoff
                        refine ⟨_, rfl, fun K hK => ?_⟩
                        have e72 : a.tmps[72]? = some (.slice Ao39 x5_2.length co39) := by rw [ha]; exact (putSel_off rfl).trans rfl
                        replace ha := Aside0.mk ha
                        have HO_5 := Aside0.mk Q_HO_5
                        have HB := Aside0.mk Q_HB
                        have HI174 := Aside0.mk (Q_HI174_e3 (hon 3 (by kernel_rfl)))
                        refine value_ (w1 := w') (v := .slice Ao39 x5_2.length co39) (by rfl) rfl ?_ ?_
                        · go_simp
                          (try simp only [i64_w])
                          try rfl
                        refine hK.out _ _ ⟨v206, adz_v206, m4_, (by rw [ha.out]; exact putSel_upk 4 hb_ rfl rfl rfl), Q_HO_5, fun h0_ => absurd ((hon 3 (by kernel_rfl)).symm.trans h0_) (by decide), Q_HB, Q_HO207, Q_HA_HO207, Q_HI174_e3, Q_X4_⟩
                      refine steps_cons ?_ ?_
                      · rintro b a w' ⟨v206, adz_v206, m4_, ha, Q_HO_5, Q_HI174, Q_HB, Q_HO207, Q_HA_HO207, Q_HI174_e3, Q_X4_⟩ hb_ hon hoff
                        refine ⟨_, rfl, fun K hK => ?_⟩
                        have e77 : a.tmps[77]? = some (.int .i64 (rd y205 t208)) := by rw [ha]; exact putSel_on (e := (5, 77, .int .i64 (rd y205 t208))) 3 rfl rfl (hon 5 (by kernel_rfl)) rfl
                        replace ha := Aside0.mk ha
                        have HO_5 := Aside0.mk Q_HO_5
                        have HB := Aside0.mk Q_HB
                        have HO207 := Aside0.mk (Q_HO207 (hon 1 (by kernel_rfl)))
                        have HA_HO207 := Aside0.mk (Q_HA_HO207 (hon 1 (by kernel_rfl)))
                        have HI174 := Aside0.mk (Q_HI174_e3 (hon 3 (by kernel_rfl)))
                        refine value_ (w1 := w') (v := .int .i64 (rd y205 t208)) (by rfl) rfl ?_ ?_
                        · go_simp
                          (try simp only [i64_w])
                          try rfl
                        refine hK.out _ _ ⟨v206, adz_v206, m4_, (by rw [ha.out]; exact putSel_upk 5 hb_ rfl rfl rfl), Q_HO_5, fun h0_ => absurd ((hon 3 (by kernel_rfl)).symm.trans h0_) (by decide), Q_HB, Q_HO207, Q_HA_HO207, Q_HI174_e3, Q_X4_⟩
                      exact steps_nil
                    rintro b a w46 hall ⟨v206, adz_v206, m4_, ha, Q_HO_5, Q_HI174, Q_HB, Q_HO207, Q_HA_HO207, Q_HI174_e3, Q_X4_⟩
                    clear HB HI174 HO_5
                    have hb1_ := hall 1 (by kernel_rfl)
                    have hb3_ := hall 3 (by kernel_rfl)
                    have hb4_ := hall 4 (by kernel_rfl)
                    have hb5_ := hall 5 (by kernel_rfl)
                    have hb6_ := hall 6 (by kernel_rfl)
                    have hb7_ := hall 7 (by kernel_rfl)
                    subst ha
                    obtain rfl := Q_X4_ hb4_
                    simp only [putSel, hb1_, hb3_, hb4_, hb5_, hb6_, hb7_, if_true, Act.put, List.setIfInBounds_toArray, List.set_cons_zero, List.set_cons_succ]
                    have HO_5 := Aside0.mk Q_HO_5
                    clear Q_HO_5
                    clear Q_HI174
                    have HB := Aside0.mk Q_HB
                    clear Q_HB
                    have HO207 := Aside0.mk (Q_HO207 hb1_)
                    clear Q_HO207
                    have HA_HO207 := Aside0.mk (Q_HA_HO207 hb1_)
                    clear Q_HA_HO207
                    have HI174 := Aside0.mk (Q_HI174_e3 hb3_)
                    clear Q_HI174_e3
                    clear hall hb1_ hb3_ hb4_ hb5_ hb6_ hb7_
                    obtain ⟨co47, eo47⟩ := HA_HO207.out
                    clear HA_HO207
                    subst eo47
                    try go_wp2
                    go_ret2
                    exact ⟨_, by first | rfl | (simp [errW_none, errW_some] <;> rfl) | (simp [*, errW_none, errW_some] <;> rfl), by (with_reducible repeat (first | apply Kd.R_alloc | apply Kd.R_drewN | apply Kd.R_drew)); exact HO_5.out, by repeat (first | (with_reducible first | exact HB.out | apply below_alloc | apply pw_below_drewN | apply below_drew1 | refine below_set ?_ (IsS96.ge HI174.out)) | exact HB.out)⟩
                  · rw [if_neg c38] at H
                    exact absurd H (by simp)
                · rw [if_neg c37] at H
                  exact absurd H (by simp)
        · rw [if_neg c28] at H
          have c28b0 : (t198 == 0) = false := beq_eq_false_iff_ne.mpr c28
          have c28b1 : (t198 != 0) = true := bne_iff_ne.mpr c28
          by_cases c48 : t198 = 1
          · rw [if_pos c48] at H
            have c48b0 : (t198 == 1) = true := beq_iff_eq.mpr c48
            have c48b1 : (t198 != 1) = false := bne_eq_false_iff_eq.mpr c48
            clear c48
            obtain ⟨y211, hy211⟩ : ∃ y_ : List Int, y_ = (([0, 9] : List Int)) := ⟨_, rfl⟩
            replace H : ((spec_l1Rd_pick.f k1 t172 t199 2).bind fun bt214 => (if 0 ≤ bt214.1 then (if bt214.1 < (y211.length : Int) then (some (x5_1, rd y211 bt214.1)) else (none)) else (none))) = some (r1, r2) := by first | (rw [hy211]; with_reducible exact H) | (have H2_ := (Option.bind_some _ _).symm.trans H; rw [hy211]; with_reducible exact H2_) | (have H2_ := (Option.bind_some _ _).symm.trans H; with_reducible exact H2_) | with_reducible exact H | (rw [hy211]; exact H) | exact H
            have Ny211 := Aside0.mk hy211
            clear hy211
            replace H := Option.bind_eq_some_iff.mp H
            obtain ⟨⟨t214, t215⟩, A490, H⟩ := H
            replace H : (if 0 ≤ t214 then (if t214 < (y211.length : Int) then (some (x5_1, rd y211 t214)) else (none)) else (none)) = some (r1, r2) := H
            have A49 := Aside0.mk A490
            clear A490
            by_cases c50 : 0 ≤ t214
            · rw [if_pos c50] at H
              have c50b0 : decide (0 ≤ t214) = true := decide_eq_true c50
              clear c50
              by_cases c51 : t214 < (y211.length : Int)
              · rw [if_pos c51] at H
                have c51b0 : decide (t214 < (y211.length : Int)) = true := decide_eq_true c51
                clear c51
                simp only [Option.some.injEq, Prod.mk.injEq] at H
                obtain ⟨rfl, rfl⟩ := H
                try go_wp2_with (first | ((with_reducible refine gate_callee (f := 39) rfl ?_); refine goesL_ (some 52) rfl rfl Try.func39 (by kernel_rfl) rfl #[.pointer (some ⟨g174, 0, none⟩), .int .i64 24] rfl (by (try simp only [List.map_toArray, List.map_cons, List.map_nil]); first | done | rfl | (simp only [List.length_drop, List.length_take]; rfl)) ?_; (with_reducible refine (spec_l1Rd_pick.calls k1 g174 t172 x175001_1 24 t198 t199 w _ ?side1 ?side2 A27.out).mono ?_); (case side1 => repeat (first | (with_reducible first | exact HI174.out | apply IsS96.alloc | apply IsS96.drewN | apply IsS96.drew | apply IsS96.set_1) | exact HI174.out)); (case side2 => repeat (first | (with_reducible first | exact HB.out | apply below_alloc | apply pw_below_drewN | apply below_drew1 | refine below_set ?_ (IsS96.ge HI174.out)) | exact HB.out)); rintro e w52 ⟨rfl, hi, hb, hk⟩; refine ⟨_, rfl, ?_⟩; have n0_ := Aside0.mk (Kd.R_mono (Kd.R_keep (IsS96.apart (show IsS96 w _ g174 t172 x175001_1 from by repeat (first | (with_reducible first | exact HI174.out | apply IsS96.alloc | apply IsS96.drewN | apply IsS96.drew | apply IsS96.set_1) | exact HI174.out)) (by (with_reducible repeat (first | apply Kd.R_alloc | apply Kd.R_drewN | apply Kd.R_drew)); exact HO_5.out) (by decide)) hk (fun _ h => h.2)) (fun _ h => h.1)); have n1_ := Aside0.mk (hb); have n2_ := Aside0.mk (hi); clear HO_5; clear HB; clear HI174; have HO_5 := n0_; have HB := n1_; have HI174 := n2_; clear n0_ n1_ n2_; (try clear hb); (try clear hb2); (try clear hk); (try clear hi)))
                have pi216 : (0 ≤ (t214 : Int)) = True := eq_true (of_decide_eq_true (by first | (with_reducible assumption) | assumption))
                have qi216 : (t214 < (y211.length : Int)) = True := eq_true (of_decide_eq_true (by first | (with_reducible assumption) | assumption))
                have n0_ := Aside0.mk (Kd.R_drew HO_5.out)
                have n1_ := Aside0.mk (IsS96.drew HI174.out)
                have n2_ := Aside0.mk (below_drew1 HB.out)
                clear HO_5
                clear HI174
                clear HB
                have HO_5 := n0_
                have HI174 := n1_
                have HB := n2_
                clear n0_ n1_ n2_
                refine start_ (n := 8) (S := fun w' => True) (ds := []) #[false, false, false, false, false, false, false, false] (by kernel_rfl) rfl rfl trivial (fun hHeld => ?_); refine with_tabW spec_DrawClash.tab13 spec_DrawClash.bits13 (fun HT_ HW_ => ?_)
                generalize w52.drew = w53 at HO_5 HI174 HB hHeld ⊢
                refine pure_ (i := 0) (N := some 66) (v := ?_) (a' := ?_) #[true, false, false, false, false, false, false, false] rfl rfl (any_of HT_.out (by kernel_rfl)) (fun _ _ _ h => h) (Or.inl ⟨by rfl, ?_⟩) ?_ ?_
                rotate_left
                · intro w'
                  go_simp
                  with_reducible rfl
                rotate_left
                · simp only [Act.put, List.setIfInBounds_toArray, List.set_cons_zero, List.set_cons_succ, i64_w, i32_w]
                  rfl
                refine pure_ (i := 2) (N := some 68) (v := ?_) (a' := ?_) #[true, false, true, false, false, false, false, false] rfl rfl (any_of HT_.out (by kernel_rfl)) (fun _ _ _ h => h) (Or.inl ⟨by rfl, ?_⟩) ?_ ?_
                rotate_left
                · intro w'
                  go_simp
                  with_reducible rfl
                rotate_left
                · simp only [Act.put, List.setIfInBounds_toArray, List.set_cons_zero, List.set_cons_succ, i64_w, i32_w]
                  rfl
                refine inv_at [1, 3, 4, 5, 6, 7] (fun a0_ b a w' => ∃ (v212 : Value) (adz_v212 : Addr) (m4_ : Value), a = putSel a0_ b [(1, 67, v212), (3, 69, .int .i64 t214), (4, 70, m4_), (5, 71, .int .i64 (rd y211 t214)), (6, 2, u5), (7, 3, .int .i64 (rd y211 t214))] ∧ (Kd.R Kd.string 9 w' w.heap.size (fun _ => True) u5 x5_1) ∧ (b 3 = false → IsS96 w w' g174 t172 t199) ∧ (Below w.heap.size w w') ∧ (b 1 = true → Kd.R (Kd.int .i64) 3 w' w.heap.size (fun _ => True) v212 y211) ∧ (b 1 = true → ∃ c_, (v212 : Value) = .slice (some adz_v212) y211.length c_) ∧ (b 3 = true → IsS96 w w' g174 t172 t215) ∧ (b 4 = true → (m4_ : Value) = .pointer (some (adz_v212.add (t214).toNat)))) HT_.out HW_.out (by kernel_rfl) (by kernel_rfl) ?_ ?_ ?_
                · exact ⟨.bool false, ⟨0, 0, none⟩, .bool false, by simp only [putSel, Bool.false_eq_true, if_false], HO_5.out, fun _ => HI174.out, HB.out, fun h_ => absurd h_ (by decide), fun h_ => absurd h_ (by decide), fun h_ => absurd h_ (by decide), fun h_ => absurd h_ (by decide)⟩
                · skip
                  clear HB HI174 HO_5
                  refine steps_cons ?_ ?_
                  · rintro b a w' ⟨v212, adz_v212, m4_, ha, Q_HO_5, Q_HI174, Q_HB, Q_HO213, Q_HA_HO213, Q_HI174_e3, Q_X4_⟩ hb_ hon hoff
                    refine ⟨_, rfl, fun K hK => ?_⟩
                    replace ha := Aside0.mk ha
                    have HO_5 := Aside0.mk Q_HO_5
                    have HB := Aside0.mk Q_HB
                    refine Kd.R_lit_step (Kd.int .i64) _ 3 ?hg (N := 67) ?hd (xs := ([0, 9] : List Int)) (inner := [.int .i64 0, .int .i64 9]) (ok := fun _ => True) (okp := fun _ => True) ?hr ?hp (fun _ hk => hk) trivial (Below.refl _ _) (Nat.le_refl _) (by simp) ?_; (case hd => rfl); (case hg => rfl); (case hr => first | (go_simp; done) | (go_simp; rfl)); (case hp => exact (Reps.one (show Kd.M (Kd.int .i64) _ _ _ 0 [.int .i64 0] from rfl) (Reps.one (show Kd.M (Kd.int .i64) _ _ _ 9 [.int .i64 9] from rfl) (Reps.none _ _))))
                    intro v212 w54 ho55 hb hg_ hnew_
                    clear hg_ hnew_
                    (first | rw [← Ny211.out] at ho55 | (simp only [Int.reduceToNat] at ho55; rw [← Ny211.out] at ho55))
                    have n0_ := Aside0.mk (Kd.R_below (by (with_reducible repeat (first | apply Kd.R_alloc | apply Kd.R_drewN | apply Kd.R_drew)); exact HO_5.out) hb)
                    have n1_ := Aside0.mk (Kd.R_lower ho55 (below_size (by repeat (first | (with_reducible first | exact HB.out | apply below_alloc | apply pw_below_drewN | apply below_drew1) | exact HB.out))))
                    have n3_ := Aside0.mk (below_step (by repeat (first | (with_reducible first | exact HB.out | apply below_alloc | apply pw_below_drewN | apply below_drew1) | exact HB.out)) hb)
                    have z_HI174 := fun (h0_ : b 3 = false) => (show IsS96 w w54 g174 t172 t199 from by first | exact (IsS96.below (by repeat (first | (with_reducible first | exact (Q_HI174 h0_) | apply IsS96.alloc | apply IsS96.drewN | apply IsS96.drew | apply IsS96.set_1) | exact (Q_HI174 h0_))) hb))
                    have z_HI174_e3 := fun (h0_ : b 3 = true) => (show IsS96 w w54 g174 t172 t215 from by first | exact (IsS96.below (by repeat (first | (with_reducible first | exact (Q_HI174_e3 h0_) | apply IsS96.alloc | apply IsS96.drewN | apply IsS96.drew | apply IsS96.set_1) | exact (Q_HI174_e3 h0_))) hb))
                    clear HO_5
                    clear HB
                    have HO_5 := n0_
                    have HO213 := n1_
                    have HB := n3_
                    clear n0_ n1_ n3_
                    clear hb ho55
                    obtain ⟨Ao56, co56, eo56⟩ := Kd.R_slice HO213.out
                    subst eo56
                    obtain ⟨ado56, fo56, _⟩ := Kd.at_int (Kd.R_reads' HO213.out).2.2 0 (by decide) (by rw [Ny211.out]; simp)
                    cases fo56
                    refine hK.out _ _ ⟨.slice (some ado56) y211.length co56, ado56, m4_, (by rw [ha.out]; exact putSel_upk 0 hb_ rfl rfl rfl), (by (with_reducible repeat (first | apply Kd.R_alloc | apply Kd.R_drewN | apply Kd.R_drew)); exact HO_5.out), z_HI174, (by repeat (first | (with_reducible first | exact HB.out | apply below_alloc | apply pw_below_drewN | apply below_drew1) | exact HB.out)), fun _ => (by (with_reducible repeat (first | apply Kd.R_alloc | apply Kd.R_drewN | apply Kd.R_drew)); exact HO213.out), fun _ => ⟨_, rfl⟩, z_HI174_e3, fun h0_ => absurd ((hoff 4 (by kernel_rfl)).symm.trans h0_) (by decide)⟩
                  refine steps_cons ?_ ?_
                  · rintro b a w' ⟨v212, adz_v212, m4_, ha, Q_HO_5, Q_HI174, Q_HB, Q_HO213, Q_HA_HO213, Q_HI174_e3, Q_X4_⟩ hb_ hon hoff
                    refine ⟨_, rfl, fun K hK => ?_⟩
                    have e68 : a.tmps[68]? = some (.pointer (some ⟨g174, 0, none⟩)) := by rw [ha]; exact (putSel_off rfl).trans rfl
                    replace ha := Aside0.mk ha
                    have HO_5 := Aside0.mk Q_HO_5
                    have HI174 := Aside0.mk (Q_HI174 hb_)
                    have HB := Aside0.mk Q_HB
                    refine goes_ Try.func39 (by kernel_rfl) rfl #[.pointer (some ⟨g174, 0, none⟩), .int .i64 2] (by rfl) rfl rfl (by first | (simp only [List.map_toArray, List.map_cons, List.map_nil, Act.eval, Array.getD_eq_getD_getElem?, Option.getD_some, e68]; done) | (simp only [List.map_toArray, List.map_cons, List.map_nil, Act.eval, Array.getD_eq_getD_getElem?, Option.getD_some, e68]; rfl)) ?_
                    with_reducible refine (spec_l1Rd_pick.calls k1 g174 t172 t199 2 t214 t215 w _ ?side1 ?side2 A49.out).mono ?_
                    (case side1 => repeat (first | (with_reducible first | exact HI174.out | apply IsS96.alloc | apply IsS96.drewN | apply IsS96.drew | apply IsS96.set_1) | exact HI174.out))
                    (case side2 => repeat (first | (with_reducible first | exact HB.out | apply below_alloc | apply pw_below_drewN | apply below_drew1 | refine below_set ?_ (IsS96.ge HI174.out)) | exact HB.out))
                    rintro e w54 ⟨rfl, hi, hb, hk⟩
                    refine ⟨_, rfl, ?_⟩
                    have n0_ := Aside0.mk (Kd.R_mono (Kd.R_keep (IsS96.apart (show IsS96 w _ g174 t172 t199 from by repeat (first | (with_reducible first | exact HI174.out | apply IsS96.alloc | apply IsS96.drewN | apply IsS96.drew | apply IsS96.set_1) | exact HI174.out)) (by (with_reducible repeat (first | apply Kd.R_alloc | apply Kd.R_drewN | apply Kd.R_drew)); exact HO_5.out) (by decide)) hk (fun _ h => h.2)) (fun _ h => h.1))
                    have n1_ := Aside0.mk (hb)
                    have n2_ := Aside0.mk (hi)
                    have z_HO213 := fun (h0_ : b 1 = true) => (show Kd.R (Kd.int .i64) 3 w54 w.heap.size (fun _ => True) v212 y211 from by first | exact (Kd.R_mono (Kd.R_keep (IsS96.apart (show IsS96 w _ g174 t172 t199 from by repeat (first | (with_reducible first | exact HI174.out | apply IsS96.alloc | apply IsS96.drewN | apply IsS96.drew | apply IsS96.set_1) | exact HI174.out)) (by (with_reducible repeat (first | apply Kd.R_alloc | apply Kd.R_drewN | apply Kd.R_drew)); exact (Q_HO213 h0_)) (by decide)) hk (fun _ h => h.2)) (fun _ h => h.1)) | exact Kd.R_mono (Kd.R_mono (Kd.R_keep (IsS96.apart (show IsS96 w _ g174 t172 t199 from by repeat (first | (with_reducible first | exact HI174.out | apply IsS96.alloc | apply IsS96.drewN | apply IsS96.drew | apply IsS96.set_1) | exact HI174.out)) (by (with_reducible repeat (first | apply Kd.R_alloc | apply Kd.R_drewN | apply Kd.R_drew)); exact (Q_HO213 h0_)) (by decide)) hk (fun _ h => h.2)) (fun _ h => h.1)) (fun _ h_ => by first | trivial | exact h_ | exact h_.1))
                    clear HO_5
                    clear HB
                    clear HI174
                    have HO_5 := n0_
                    have HB := n1_
                    have HI174 := n2_
                    clear n0_ n1_ n2_
                    (try clear hb)
                    (try clear hb2)
                    (try clear hk)
                    (try clear hi)
                    refine hK.out _ _ ⟨v212, adz_v212, m4_, (by rw [ha.out]; exact putSel_upk 1 hb_ rfl rfl rfl), (by (with_reducible repeat (first | apply Kd.R_alloc | apply Kd.R_drewN | apply Kd.R_drew)); exact HO_5.out), fun h0_ => absurd ((up_self b 3).symm.trans h0_) (by decide), (by repeat (first | (with_reducible first | exact HB.out | apply below_alloc | apply pw_below_drewN | apply below_drew1 | refine below_set ?_ (IsS96.ge HI174.out)) | exact HB.out)), z_HO213, Q_HA_HO213, fun _ => (by repeat (first | (with_reducible first | exact HI174.out | apply IsS96.alloc | apply IsS96.drewN | apply IsS96.drew | apply IsS96.set_1) | exact HI174.out)), fun h0_ => absurd ((hoff 4 (by kernel_rfl)).symm.trans h0_) (by decide)⟩
                  refine steps_cons ?_ ?_
                  · rintro b a w' ⟨v212, adz_v212, m4_, ha, Q_HO_5, Q_HI174, Q_HB, Q_HO213, Q_HA_HO213, Q_HI174_e3, Q_X4_⟩ hb_ hon hoff
                    refine ⟨_, rfl, fun K hK => ?_⟩
                    have e67 : a.tmps[67]? = some (v212) := by rw [ha]; exact putSel_on (e := (1, 67, v212)) 0 rfl rfl (hon 1 (by kernel_rfl)) rfl
                    have e69 : a.tmps[69]? = some (.int .i64 t214) := by rw [ha]; exact putSel_on (e := (3, 69, .int .i64 t214)) 1 rfl rfl (hon 3 (by kernel_rfl)) rfl
                    replace ha := Aside0.mk ha
                    have HO_5 := Aside0.mk Q_HO_5
                    have HB := Aside0.mk Q_HB
                    have HO213 := Aside0.mk (Q_HO213 (hon 1 (by kernel_rfl)))
                    have HA_HO213 := Aside0.mk (Q_HA_HO213 (hon 1 (by kernel_rfl)))
                    have HI174 := Aside0.mk (Q_HI174_e3 (hon 3 (by kernel_rfl)))
                    obtain ⟨c_, hv_⟩ := HA_HO213.out
                    rw [hv_] at e67
                    refine value_ (w1 := w') (v := .pointer (some (adz_v212.add (t214).toNat))) (by rfl) rfl ?_ ?_
                    · go_simp
                      (try simp only [i64_w])
                      try rfl
                    refine hK.out _ _ ⟨v212, adz_v212, (.pointer (some (adz_v212.add (t214).toNat))), (by rw [ha.out]; exact putSel_upk 2 hb_ rfl rfl rfl), Q_HO_5, fun h0_ => absurd ((hon 3 (by kernel_rfl)).symm.trans h0_) (by decide), Q_HB, Q_HO213, Q_HA_HO213, Q_HI174_e3, fun _ => rfl⟩
                  refine steps_cons ?_ ?_
                  · rintro b a w' ⟨v212, adz_v212, m4_, ha, Q_HO_5, Q_HI174, Q_HB, Q_HO213, Q_HA_HO213, Q_HI174_e3, Q_X4_⟩ hb_ hon hoff
                    refine ⟨_, rfl, fun K hK => ?_⟩
                    have e70 : a.tmps[70]? = some (m4_) := by rw [ha]; exact putSel_on (e := (4, 70, m4_)) 2 rfl rfl (hon 4 (by kernel_rfl)) rfl
                    rw [Q_X4_ (hon 4 (by kernel_rfl))] at e70
                    replace ha := Aside0.mk ha
                    have HO_5 := Aside0.mk Q_HO_5
                    have HB := Aside0.mk Q_HB
                    have HO213 := Aside0.mk (Q_HO213 (hon 1 (by kernel_rfl)))
                    have HA_HO213 := Aside0.mk (Q_HA_HO213 (hon 1 (by kernel_rfl)))
                    have HI174 := Aside0.mk (Q_HI174_e3 (hon 3 (by kernel_rfl)))
                    obtain ⟨c_, hv_⟩ := HA_HO213.out
                    have hF_ := HO213.out
                    rw [hv_] at hF_
                    obtain ⟨ad_, ea_, hx_⟩ := Kd.at_int (Kd.R_reads' hF_).2.2 t214 (of_eq_true pi216) (of_eq_true qi216)
                    cases ea_
                    refine value_ (w1 := w') (v := .int .i64 (rd y211 t214)) (by rfl) rfl ?_ ?_
                    · go_simp
                      (try simp only [i64_w])
                      try rfl
                    refine hK.out _ _ ⟨v212, adz_v212, m4_, (by rw [ha.out]; exact putSel_upk 3 hb_ rfl rfl rfl), Q_HO_5, fun h0_ => absurd ((hon 3 (by kernel_rfl)).symm.trans h0_) (by decide), Q_HB, Q_HO213, Q_HA_HO213, Q_HI174_e3, Q_X4_⟩
                  refine steps_cons ?_ ?_
                  · rintro b a w' ⟨v212, adz_v212, m4_, ha, Q_HO_5, Q_HI174, Q_HB, Q_HO213, Q_HA_HO213, Q_HI174_e3, Q_X4_⟩ hb_ hon hoff
                    refine ⟨_, rfl, fun K hK => ?_⟩
                    have e66 : a.tmps[66]? = some (u5) := by rw [ha]; exact (putSel_off rfl).trans rfl
                    replace ha := Aside0.mk ha
                    have HO_5 := Aside0.mk Q_HO_5
                    have HB := Aside0.mk Q_HB
                    have HI174 := Aside0.mk (Q_HI174_e3 (hon 3 (by kernel_rfl)))
                    refine value_ (w1 := w') (v := u5) (by rfl) rfl ?_ ?_
                    · go_simp
                      (try simp only [i64_w])
                      try rfl
                    refine hK.out _ _ ⟨v212, adz_v212, m4_, (by rw [ha.out]; exact putSel_upk 4 hb_ rfl rfl rfl), Q_HO_5, fun h0_ => absurd ((hon 3 (by kernel_rfl)).symm.trans h0_) (by decide), Q_HB, Q_HO213, Q_HA_HO213, Q_HI174_e3, Q_X4_⟩
                  refine steps_cons ?_ ?_
                  · rintro b a w' ⟨v212, adz_v212, m4_, ha, Q_HO_5, Q_HI174, Q_HB, Q_HO213, Q_HA_HO213, Q_HI174_e3, Q_X4_⟩ hb_ hon hoff
                    refine ⟨_, rfl, fun K hK => ?_⟩
                    have e71 : a.tmps[71]? = some (.int .i64 (rd y211 t214)) := by rw [ha]; exact putSel_on (e := (5, 71, .int .i64 (rd y211 t214))) 3 rfl rfl (hon 5 (by kernel_rfl)) rfl
                    replace ha := Aside0.mk ha
                    have HO_5 := Aside0.mk Q_HO_5
                    have HB := Aside0.mk Q_HB
                    have HO213 := Aside0.mk (Q_HO213 (hon 1 (by kernel_rfl)))
                    have HA_HO213 := Aside0.mk (Q_HA_HO213 (hon 1 (by kernel_rfl)))
                    have HI174 := Aside0.mk (Q_HI174_e3 (hon 3 (by kernel_rfl)))
                    refine value_ (w1 := w') (v := .int .i64 (rd y211 t214)) (by rfl) rfl ?_ ?_
                    · go_simp
                      (try simp only [i64_w])
                      try rfl
                    refine hK.out _ _ ⟨v212, adz_v212, m4_, (by rw [ha.out]; exact putSel_upk 5 hb_ rfl rfl rfl), Q_HO_5, fun h0_ => absurd ((hon 3 (by kernel_rfl)).symm.trans h0_) (by decide), Q_HB, Q_HO213, Q_HA_HO213, Q_HI174_e3, Q_X4_⟩
                  exact steps_nil
                rintro b a w58 hall ⟨v212, adz_v212, m4_, ha, Q_HO_5, Q_HI174, Q_HB, Q_HO213, Q_HA_HO213, Q_HI174_e3, Q_X4_⟩
                clear HB HI174 HO_5
                have hb1_ := hall 1 (by kernel_rfl)
                have hb3_ := hall 3 (by kernel_rfl)
                have hb4_ := hall 4 (by kernel_rfl)
                have hb5_ := hall 5 (by kernel_rfl)
                have hb6_ := hall 6 (by kernel_rfl)
                have hb7_ := hall 7 (by kernel_rfl)
                subst ha
                obtain rfl := Q_X4_ hb4_
                simp only [putSel, hb1_, hb3_, hb4_, hb5_, hb6_, hb7_, if_true, Act.put, List.setIfInBounds_toArray, List.set_cons_zero, List.set_cons_succ]
                have HO_5 := Aside0.mk Q_HO_5
                clear Q_HO_5
                clear Q_HI174
                have HB := Aside0.mk Q_HB
                clear Q_HB
                have HO213 := Aside0.mk (Q_HO213 hb1_)
                clear Q_HO213
                have HA_HO213 := Aside0.mk (Q_HA_HO213 hb1_)
                clear Q_HA_HO213
                have HI174 := Aside0.mk (Q_HI174_e3 hb3_)
                clear Q_HI174_e3
                clear hall hb1_ hb3_ hb4_ hb5_ hb6_ hb7_
                obtain ⟨co59, eo59⟩ := HA_HO213.out
                clear HA_HO213
                subst eo59
                try go_wp2
                go_ret2
                exact ⟨_, by first | rfl | (simp [errW_none, errW_some] <;> rfl) | (simp [*, errW_none, errW_some] <;> rfl), by (with_reducible repeat (first | apply Kd.R_alloc | apply Kd.R_drewN | apply Kd.R_drew)); exact HO_5.out, by repeat (first | (with_reducible first | exact HB.out | apply below_alloc | apply pw_below_drewN | apply below_drew1 | refine below_set ?_ (IsS96.ge HI174.out)) | exact HB.out)⟩
              · rw [if_neg c51] at H
                exact absurd H (by simp)
            · rw [if_neg c50] at H
              exact absurd H (by simp)
          · rw [if_neg c48] at H
            have c48b0 : (t198 == 1) = false := beq_eq_false_iff_ne.mpr c48
            have c48b1 : (t198 != 1) = true := bne_iff_ne.mpr c48
            obtain ⟨y217, hy217⟩ : ∃ y_ : List Int, y_ = (([1, 1, 1, 2, 8] : List Int)) := ⟨_, rfl⟩
            replace H : ((spec_l1Rd_pick.f k1 t172 t199 5).bind fun bt220 => (if 0 ≤ bt220.1 then (if bt220.1 < (y217.length : Int) then (some (x5_1, rd y217 bt220.1)) else (none)) else (none))) = some (r1, r2) := by first | (rw [hy217]; with_reducible exact H) | (have H2_ := (Option.bind_some _ _).symm.trans H; rw [hy217]; with_reducible exact H2_) | (have H2_ := (Option.bind_some _ _).symm.trans H; with_reducible exact H2_) | with_reducible exact H | (rw [hy217]; exact H) | exact H
            have Ny217 := Aside0.mk hy217
            clear hy217
            replace H := Option.bind_eq_some_iff.mp H
            obtain ⟨⟨t220, t221⟩, A600, H⟩ := H
            replace H : (if 0 ≤ t220 then (if t220 < (y217.length : Int) then (some (x5_1, rd y217 t220)) else (none)) else (none)) = some (r1, r2) := H
            have A60 := Aside0.mk A600
            clear A600
            by_cases c61 : 0 ≤ t220
            · rw [if_pos c61] at H
              have c61b0 : decide (0 ≤ t220) = true := decide_eq_true c61
              clear c61
              by_cases c62 : t220 < (y217.length : Int)
              · rw [if_pos c62] at H
                have c62b0 : decide (t220 < (y217.length : Int)) = true := decide_eq_true c62
                clear c62
                simp only [Option.some.injEq, Prod.mk.injEq] at H
                obtain ⟨rfl, rfl⟩ := H
                try go_wp2_with (first | ((with_reducible refine gate_callee (f := 39) rfl ?_); refine goesL_ (some 52) rfl rfl Try.func39 (by kernel_rfl) rfl #[.pointer (some ⟨g174, 0, none⟩), .int .i64 24] rfl (by (try simp only [List.map_toArray, List.map_cons, List.map_nil]); first | done | rfl | (simp only [List.length_drop, List.length_take]; rfl)) ?_; (with_reducible refine (spec_l1Rd_pick.calls k1 g174 t172 x175001_1 24 t198 t199 w _ ?side1 ?side2 A27.out).mono ?_); (case side1 => repeat (first | (with_reducible first | exact HI174.out | apply IsS96.alloc | apply IsS96.drewN | apply IsS96.drew | apply IsS96.set_1) | exact HI174.out)); (case side2 => repeat (first | (with_reducible first | exact HB.out | apply below_alloc | apply pw_below_drewN | apply below_drew1 | refine below_set ?_ (IsS96.ge HI174.out)) | exact HB.out)); rintro e w63 ⟨rfl, hi, hb, hk⟩; refine ⟨_, rfl, ?_⟩; have n0_ := Aside0.mk (Kd.R_mono (Kd.R_keep (IsS96.apart (show IsS96 w _ g174 t172 x175001_1 from by repeat (first | (with_reducible first | exact HI174.out | apply IsS96.alloc | apply IsS96.drewN | apply IsS96.drew | apply IsS96.set_1) | exact HI174.out)) (by (with_reducible repeat (first | apply Kd.R_alloc | apply Kd.R_drewN | apply Kd.R_drew)); exact HO_5.out) (by decide)) hk (fun _ h => h.2)) (fun _ h => h.1)); have n1_ := Aside0.mk (hb); have n2_ := Aside0.mk (hi); clear HO_5; clear HB; clear HI174; have HO_5 := n0_; have HB := n1_; have HI174 := n2_; clear n0_ n1_ n2_; (try clear hb); (try clear hb2); (try clear hk); (try clear hi)))
                have pi222 : (0 ≤ (t220 : Int)) = True := eq_true (of_decide_eq_true (by first | (with_reducible assumption) | assumption))
                have qi222 : (t220 < (y217.length : Int)) = True := eq_true (of_decide_eq_true (by first | (with_reducible assumption) | assumption))
                have n0_ := Aside0.mk (Kd.R_drew HO_5.out)
                have n1_ := Aside0.mk (IsS96.drew HI174.out)
                have n2_ := Aside0.mk (below_drew1 HB.out)
                clear HO_5
                clear HI174
                clear HB
                have HO_5 := n0_
                have HI174 := n1_
                have HB := n2_
                clear n0_ n1_ n2_
                refine start_ (n := 8) (S := fun w' => True) (ds := []) #[false, false, false, false, false, false, false, false] (by kernel_rfl) rfl rfl trivial (fun hHeld => ?_); refine with_tabW spec_DrawClash.tab14 spec_DrawClash.bits14 (fun HT_ HW_ => ?_)
                generalize w63.drew = w64 at HO_5 HI174 HB hHeld ⊢
                refine pure_ (i := 0) (N := some 72) (v := ?_) (a' := ?_) #[true, false, false, false, false, false, false, false] rfl rfl (any_of HT_.out (by kernel_rfl)) (fun _ _ _ h => h) (Or.inl ⟨by rfl, ?_⟩) ?_ ?_
                rotate_left
                · intro w'
                  go_simp
                  with_reducible rfl
                rotate_left
                · simp only [Act.put, List.setIfInBounds_toArray, List.set_cons_zero, List.set_cons_succ, i64_w, i32_w]
                  rfl
                refine pure_ (i := 2) (N := some 74) (v := ?_) (a' := ?_) #[true, false, true, false, false, false, false, false] rfl rfl (any_of HT_.out (by kernel_rfl)) (fun _ _ _ h => h) (Or.inl ⟨by rfl, ?_⟩) ?_ ?_
                rotate_left
                · intro w'
                  go_simp
                  with_reducible rfl
                rotate_left
                · simp only [Act.put, List.setIfInBounds_toArray, List.set_cons_zero, List.set_cons_succ, i64_w, i32_w]
                  rfl
                refine inv_at [1, 3, 4, 5, 6, 7] (fun a0_ b a w' => ∃ (v218 : Value) (adz_v218 : Addr) (m4_ : Value), a = putSel a0_ b [(1, 73, v218), (3, 75, .int .i64 t220), (4, 76, m4_), (5, 77, .int .i64 (rd y217 t220)), (6, 2, u5), (7, 3, .int .i64 (rd y217 t220))] ∧ (Kd.R Kd.string 9 w' w.heap.size (fun _ => True) u5 x5_1) ∧ (b 3 = false → IsS96 w w' g174 t172 t199) ∧ (Below w.heap.size w w') ∧ (b 1 = true → Kd.R (Kd.int .i64) 3 w' w.heap.size (fun _ => True) v218 y217) ∧ (b 1 = true → ∃ c_, (v218 : Value) = .slice (some adz_v218) y217.length c_) ∧ (b 3 = true → IsS96 w w' g174 t172 t221) ∧ (b 4 = true → (m4_ : Value) = .pointer (some (adz_v218.add (t220).toNat)))) HT_.out HW_.out (by kernel_rfl) (by kernel_rfl) ?_ ?_ ?_
                · exact ⟨.bool false, ⟨0, 0, none⟩, .bool false, by simp only [putSel, Bool.false_eq_true, if_false], HO_5.out, fun _ => HI174.out, HB.out, fun h_ => absurd h_ (by decide), fun h_ => absurd h_ (by decide), fun h_ => absurd h_ (by decide), fun h_ => absurd h_ (by decide)⟩
                · skip
                  clear HB HI174 HO_5
                  refine steps_cons ?_ ?_
                  · rintro b a w' ⟨v218, adz_v218, m4_, ha, Q_HO_5, Q_HI174, Q_HB, Q_HO219, Q_HA_HO219, Q_HI174_e3, Q_X4_⟩ hb_ hon hoff
                    refine ⟨_, rfl, fun K hK => ?_⟩
                    replace ha := Aside0.mk ha
                    have HO_5 := Aside0.mk Q_HO_5
                    have HB := Aside0.mk Q_HB
                    refine Kd.R_lit_step (Kd.int .i64) _ 3 ?hg (N := 73) ?hd (xs := ([1, 1, 1, 2, 8] : List Int)) (inner := [.int .i64 1, .int .i64 1, .int .i64 1, .int .i64 2, .int .i64 8]) (ok := fun _ => True) (okp := fun _ => True) ?hr ?hp (fun _ hk => hk) trivial (Below.refl _ _) (Nat.le_refl _) (by simp) ?_; (case hd => rfl); (case hg => rfl); (case hr => first | (go_simp; done) | (go_simp; rfl)); (case hp => exact (Reps.one (show Kd.M (Kd.int .i64) _ _ _ 1 [.int .i64 1] from rfl) (Reps.one (show Kd.M (Kd.int .i64) _ _ _ 1 [.int .i64 1] from rfl) (Reps.one (show Kd.M (Kd.int .i64) _ _ _ 1 [.int .i64 1] from rfl) (Reps.one (show Kd.M (Kd.int .i64) _ _ _ 2 [.int .i64 2] from rfl) (Reps.one (show Kd.M (Kd.int .i64) _ _ _ 8 [.int .i64 8] from rfl) (Reps.none _ _)))))))
                    intro v218 w65 ho66 hb hg_ hnew_
                    clear hg_ hnew_
                    (first | rw [← Ny217.out] at ho66 | (simp only [Int.reduceToNat] at ho66; rw [← Ny217.out] at ho66))
                    have n0_ := Aside0.mk (Kd.R_below (by (with_reducible repeat (first | apply Kd.R_alloc | apply Kd.R_drewN | apply Kd.R_drew)); exact HO_5.out) hb)
                    have n1_ := Aside0.mk (Kd.R_lower ho66 (below_size (by repeat (first | (with_reducible first | exact HB.out | apply below_alloc | apply pw_below_drewN | apply below_drew1) | exact HB.out))))
                    have n3_ := Aside0.mk (below_step (by repeat (first | (with_reducible first | exact HB.out | apply below_alloc | apply pw_below_drewN | apply below_drew1) | exact HB.out)) hb)
                    have z_HI174 := fun (h0_ : b 3 = false) => (show IsS96 w w65 g174 t172 t199 from by first | exact (IsS96.below (by repeat (first | (with_reducible first | exact (Q_HI174 h0_) | apply IsS96.alloc | apply IsS96.drewN | apply IsS96.drew | apply IsS96.set_1) | exact (Q_HI174 h0_))) hb))
                    have z_HI174_e3 := fun (h0_ : b 3 = true) => (show IsS96 w w65 g174 t172 t221 from by first | exact (IsS96.below (by repeat (first | (with_reducible first | exact (Q_HI174_e3 h0_) | apply IsS96.alloc | apply IsS96.drewN | apply IsS96.drew | apply IsS96.set_1) | exact (Q_HI174_e3 h0_))) hb))
                    clear HO_5
                    clear HB
                    have HO_5 := n0_
                    have HO219 := n1_
                    have HB := n3_
                    clear n0_ n1_ n3_
                    clear hb ho66
                    obtain ⟨Ao67, co67, eo67⟩ := Kd.R_slice HO219.out
                    subst eo67
                    obtain ⟨ado67, fo67, _⟩ := Kd.at_int (Kd.R_reads' HO219.out).2.2 0 (by decide) (by rw [Ny217.out]; simp)
                    cases fo67
                    refine hK.out _ _ ⟨.slice (some ado67) y217.length co67, ado67, m4_, (by rw [ha.out]; exact putSel_upk 0 hb_ rfl rfl rfl), (by (with_reducible repeat (first | apply Kd.R_alloc | apply Kd.R_drewN | apply Kd.R_drew)); exact HO_5.out), z_HI174, (by repeat (first | (with_reducible first | exact HB.out | apply below_alloc | apply pw_below_drewN | apply below_drew1) | exact HB.out)), fun _ => (by (with_reducible repeat (first | apply Kd.R_alloc | apply Kd.R_drewN | apply Kd.R_drew)); exact HO219.out), fun _ => ⟨_, rfl⟩, z_HI174_e3, fun h0_ => absurd ((hoff 4 (by kernel_rfl)).symm.trans h0_) (by decide)⟩
                  refine steps_cons ?_ ?_
                  · rintro b a w' ⟨v218, adz_v218, m4_, ha, Q_HO_5, Q_HI174, Q_HB, Q_HO219, Q_HA_HO219, Q_HI174_e3, Q_X4_⟩ hb_ hon hoff
                    refine ⟨_, rfl, fun K hK => ?_⟩
                    have e74 : a.tmps[74]? = some (.pointer (some ⟨g174, 0, none⟩)) := by rw [ha]; exact (putSel_off rfl).trans rfl
                    replace ha := Aside0.mk ha
                    have HO_5 := Aside0.mk Q_HO_5
                    have HI174 := Aside0.mk (Q_HI174 hb_)
                    have HB := Aside0.mk Q_HB
                    refine goes_ Try.func39 (by kernel_rfl) rfl #[.pointer (some ⟨g174, 0, none⟩), .int .i64 5] (by rfl) rfl rfl (by first | (simp only [List.map_toArray, List.map_cons, List.map_nil, Act.eval, Array.getD_eq_getD_getElem?, Option.getD_some, e74]; done) | (simp only [List.map_toArray, List.map_cons, List.map_nil, Act.eval, Array.getD_eq_getD_getElem?, Option.getD_some, e74]; rfl)) ?_
                    with_reducible refine (spec_l1Rd_pick.calls k1 g174 t172 t199 5 t220 t221 w _ ?side1 ?side2 A60.out).mono ?_
                    (case side1 => repeat (first | (with_reducible first | exact HI174.out | apply IsS96.alloc | apply IsS96.drewN | apply IsS96.drew | apply IsS96.set_1) | exact HI174.out))
                    (case side2 => repeat (first | (with_reducible first | exact HB.out | apply below_alloc | apply pw_below_drewN | apply below_drew1 | refine below_set ?_ (IsS96.ge HI174.out)) | exact HB.out))
                    rintro e w65 ⟨rfl, hi, hb, hk⟩
                    refine ⟨_, rfl, ?_⟩
                    have n0_ := Aside0.mk (Kd.R_mono (Kd.R_keep (IsS96.apart (show IsS96 w _ g174 t172 t199 from by repeat (first | (with_reducible first | exact HI174.out | apply IsS96.alloc | apply IsS96.drewN | apply IsS96.drew | apply IsS96.set_1) | exact HI174.out)) (by (with_reducible repeat (first | apply Kd.R_alloc | apply Kd.R_drewN | apply Kd.R_drew)); exact HO_5.out) (by decide)) hk (fun _ h => h.2)) (fun _ h => h.1))
                    have n1_ := Aside0.mk (hb)
                    have n2_ := Aside0.mk (hi)
                    have z_HO219 := fun (h0_ : b 1 = true) => (show Kd.R (Kd.int .i64) 3 w65 w.heap.size (fun _ => True) v218 y217 from by first | exact (Kd.R_mono (Kd.R_keep (IsS96.apart (show IsS96 w _ g174 t172 t199 from by repeat (first | (with_reducible first | exact HI174.out | apply IsS96.alloc | apply IsS96.drewN | apply IsS96.drew | apply IsS96.set_1) | exact HI174.out)) (by (with_reducible repeat (first | apply Kd.R_alloc | apply Kd.R_drewN | apply Kd.R_drew)); exact (Q_HO219 h0_)) (by decide)) hk (fun _ h => h.2)) (fun _ h => h.1)) | exact Kd.R_mono (Kd.R_mono (Kd.R_keep (IsS96.apart (show IsS96 w _ g174 t172 t199 from by repeat (first | (with_reducible first | exact HI174.out | apply IsS96.alloc | apply IsS96.drewN | apply IsS96.drew | apply IsS96.set_1) | exact HI174.out)) (by (with_reducible repeat (first | apply Kd.R_alloc | apply Kd.R_drewN | apply Kd.R_drew)); exact (Q_HO219 h0_)) (by decide)) hk (fun _ h => h.2)) (fun _ h => h.1)) (fun _ h_ => by first | trivial | exact h_ | exact h_.1))
                    clear HO_5
                    clear HB
                    clear HI174
                    have HO_5 := n0_
                    have HB := n1_
                    have HI174 := n2_
                    clear n0_ n1_ n2_
                    (try clear hb)
                    (try clear hb2)
                    (try clear hk)
                    (try clear hi)
                    refine hK.out _ _ ⟨v218, adz_v218, m4_, (by rw [ha.out]; exact putSel_upk 1 hb_ rfl rfl rfl), (by (with_reducible repeat (first | apply Kd.R_alloc | apply Kd.R_drewN | apply Kd.R_drew)); exact HO_5.out), fun h0_ => absurd ((up_self b 3).symm.trans h0_) (by decide), (by repeat (first | (with_reducible first | exact HB.out | apply below_alloc | apply pw_below_drewN | apply below_drew1 | refine below_set ?_ (IsS96.ge HI174.out)) | exact HB.out)), z_HO219, Q_HA_HO219, fun _ => (by repeat (first | (with_reducible first | exact HI174.out | apply IsS96.alloc | apply IsS96.drewN | apply IsS96.drew | apply IsS96.set_1) | exact HI174.out)), fun h0_ => absurd ((hoff 4 (by kernel_rfl)).symm.trans h0_) (by decide)⟩
                  refine steps_cons ?_ ?_
                  · rintro b a w' ⟨v218, adz_v218, m4_, ha, Q_HO_5, Q_HI174, Q_HB, Q_HO219, Q_HA_HO219, Q_HI174_e3, Q_X4_⟩ hb_ hon hoff
                    refine ⟨_, rfl, fun K hK => ?_⟩
                    have e73 : a.tmps[73]? = some (v218) := by rw [ha]; exact putSel_on (e := (1, 73, v218)) 0 rfl rfl (hon 1 (by kernel_rfl)) rfl
                    have e75 : a.tmps[75]? = some (.int .i64 t220) := by rw [ha]; exact putSel_on (e := (3, 75, .int .i64 t220)) 1 rfl rfl (hon 3 (by kernel_rfl)) rfl
                    replace ha := Aside0.mk ha
                    have HO_5 := Aside0.mk Q_HO_5
                    have HB := Aside0.mk Q_HB
                    have HO219 := Aside0.mk (Q_HO219 (hon 1 (by kernel_rfl)))
                    have HA_HO219 := Aside0.mk (Q_HA_HO219 (hon 1 (by kernel_rfl)))
                    have HI174 := Aside0.mk (Q_HI174_e3 (hon 3 (by kernel_rfl)))
                    obtain ⟨c_, hv_⟩ := HA_HO219.out
                    rw [hv_] at e73
                    refine value_ (w1 := w') (v := .pointer (some (adz_v218.add (t220).toNat))) (by rfl) rfl ?_ ?_
                    · go_simp
                      (try simp only [i64_w])
                      try rfl
                    refine hK.out _ _ ⟨v218, adz_v218, (.pointer (some (adz_v218.add (t220).toNat))), (by rw [ha.out]; exact putSel_upk 2 hb_ rfl rfl rfl), Q_HO_5, fun h0_ => absurd ((hon 3 (by kernel_rfl)).symm.trans h0_) (by decide), Q_HB, Q_HO219, Q_HA_HO219, Q_HI174_e3, fun _ => rfl⟩
                  refine steps_cons ?_ ?_
                  · rintro b a w' ⟨v218, adz_v218, m4_, ha, Q_HO_5, Q_HI174, Q_HB, Q_HO219, Q_HA_HO219, Q_HI174_e3, Q_X4_⟩ hb_ hon hoff
                    refine ⟨_, rfl, fun K hK => ?_⟩
                    have e76 : a.tmps[76]? = some (m4_) := by rw [ha]; exact putSel_on (e := (4, 76, m4_)) 2 rfl rfl (hon 4 (by kernel_rfl)) rfl
                    rw [Q_X4_ (hon 4 (by kernel_rfl))] at e76
                    replace ha := Aside0.mk ha
                    have HO_5 := Aside0.mk Q_HO_5
                    have HB := Aside0.mk Q_HB
                    have HO219 := Aside0.mk (Q_HO219 (hon 1 (by kernel_rfl)))
                    have HA_HO219 := Aside0.mk (Q_HA_HO219 (hon 1 (by kernel_rfl)))
                    have HI174 := Aside0.mk (Q_HI174_e3 (hon 3 (by kernel_rfl)))
                    obtain ⟨c_, hv_⟩ := HA_HO219.out
                    have hF_ := HO219.out
                    rw [hv_] at hF_
                    obtain ⟨ad_, ea_, hx_⟩ := Kd.at_int (Kd.R_reads' hF_).2.2 t220 (of_eq_true pi222) (of_eq_true qi222)
                    cases ea_
                    refine value_ (w1 := w') (v := .int .i64 (rd y217 t220)) (by rfl) rfl ?_ ?_
                    · go_simp
                      (try simp only [i64_w])
                      try rfl
                    refine hK.out _ _ ⟨v218, adz_v218, m4_, (by rw [ha.out]; exact putSel_upk 3 hb_ rfl rfl rfl), Q_HO_5, fun h0_ => absurd ((hon 3 (by kernel_rfl)).symm.trans h0_) (by decide), Q_HB, Q_HO219, Q_HA_HO219, Q_HI174_e3, Q_X4_⟩
                  refine steps_cons ?_ ?_
                  · rintro b a w' ⟨v218, adz_v218, m4_, ha, Q_HO_5, Q_HI174, Q_HB, Q_HO219, Q_HA_HO219, Q_HI174_e3, Q_X4_⟩ hb_ hon hoff
                    refine ⟨_, rfl, fun K hK => ?_⟩
                    have e72 : a.tmps[72]? = some (u5) := by rw [ha]; exact (putSel_off rfl).trans rfl
                    replace ha := Aside0.mk ha
                    have HO_5 := Aside0.mk Q_HO_5
                    have HB := Aside0.mk Q_HB
                    have HI174 := Aside0.mk (Q_HI174_e3 (hon 3 (by kernel_rfl)))
                    refine value_ (w1 := w') (v := u5) (by rfl) rfl ?_ ?_
                    · go_simp
                      (try simp only [i64_w])
                      try rfl
                    refine hK.out _ _ ⟨v218, adz_v218, m4_, (by rw [ha.out]; exact putSel_upk 4 hb_ rfl rfl rfl), Q_HO_5, fun h0_ => absurd ((hon 3 (by kernel_rfl)).symm.trans h0_) (by decide), Q_HB, Q_HO219, Q_HA_HO219, Q_HI174_e3, Q_X4_⟩
                  refine steps_cons ?_ ?_
                  · rintro b a w' ⟨v218, adz_v218, m4_, ha, Q_HO_5, Q_HI174, Q_HB, Q_HO219, Q_HA_HO219, Q_HI174_e3, Q_X4_⟩ hb_ hon hoff
                    refine ⟨_, rfl, fun K hK => ?_⟩
                    have e77 : a.tmps[77]? = some (.int .i64 (rd y217 t220)) := by rw [ha]; exact putSel_on (e := (5, 77, .int .i64 (rd y217 t220))) 3 rfl rfl (hon 5 (by kernel_rfl)) rfl
                    replace ha := Aside0.mk ha
                    have HO_5 := Aside0.mk Q_HO_5
                    have HB := Aside0.mk Q_HB
                    have HO219 := Aside0.mk (Q_HO219 (hon 1 (by kernel_rfl)))
                    have HA_HO219 := Aside0.mk (Q_HA_HO219 (hon 1 (by kernel_rfl)))
                    have HI174 := Aside0.mk (Q_HI174_e3 (hon 3 (by kernel_rfl)))
                    refine value_ (w1 := w') (v := .int .i64 (rd y217 t220)) (by rfl) rfl ?_ ?_
                    · go_simp
                      (try simp only [i64_w])
                      try rfl
                    refine hK.out _ _ ⟨v218, adz_v218, m4_, (by rw [ha.out]; exact putSel_upk 5 hb_ rfl rfl rfl), Q_HO_5, fun h0_ => absurd ((hon 3 (by kernel_rfl)).symm.trans h0_) (by decide), Q_HB, Q_HO219, Q_HA_HO219, Q_HI174_e3, Q_X4_⟩
                  exact steps_nil
                rintro b a w69 hall ⟨v218, adz_v218, m4_, ha, Q_HO_5, Q_HI174, Q_HB, Q_HO219, Q_HA_HO219, Q_HI174_e3, Q_X4_⟩
                clear HB HI174 HO_5
                have hb1_ := hall 1 (by kernel_rfl)
                have hb3_ := hall 3 (by kernel_rfl)
                have hb4_ := hall 4 (by kernel_rfl)
                have hb5_ := hall 5 (by kernel_rfl)
                have hb6_ := hall 6 (by kernel_rfl)
                have hb7_ := hall 7 (by kernel_rfl)
                subst ha
                obtain rfl := Q_X4_ hb4_
                simp only [putSel, hb1_, hb3_, hb4_, hb5_, hb6_, hb7_, if_true, Act.put, List.setIfInBounds_toArray, List.set_cons_zero, List.set_cons_succ]
                have HO_5 := Aside0.mk Q_HO_5
                clear Q_HO_5
                clear Q_HI174
                have HB := Aside0.mk Q_HB
                clear Q_HB
                have HO219 := Aside0.mk (Q_HO219 hb1_)
                clear Q_HO219
                have HA_HO219 := Aside0.mk (Q_HA_HO219 hb1_)
                clear Q_HA_HO219
                have HI174 := Aside0.mk (Q_HI174_e3 hb3_)
                clear Q_HI174_e3
                clear hall hb1_ hb3_ hb4_ hb5_ hb6_ hb7_
                obtain ⟨co70, eo70⟩ := HA_HO219.out
                clear HA_HO219
                subst eo70
                try go_wp2
                go_ret2
                exact ⟨_, by first | rfl | (simp [errW_none, errW_some] <;> rfl) | (simp [*, errW_none, errW_some] <;> rfl), by (with_reducible repeat (first | apply Kd.R_alloc | apply Kd.R_drewN | apply Kd.R_drew)); exact HO_5.out, by repeat (first | (with_reducible first | exact HB.out | apply below_alloc | apply pw_below_drewN | apply below_drew1 | refine below_set ?_ (IsS96.ge HI174.out)) | exact HB.out)⟩
              · rw [if_neg c62] at H
                exact absurd H (by simp)
            · rw [if_neg c61] at H
              exact absurd H (by simp)

end Go.Proofs.Ytgaibeckblmbbaa.P
