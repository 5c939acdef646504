-- Printed for this claim by a small program of this session (kprint.py), which drives the kit's print program.
import Derived.Test.YtnndpbkcldkbgaaP0
import Derived.Test.YtnndpbkcldkbgaaSqueeze
import Derived.Test.YtnndpbkcldkbgaaPSpecL1Open
import Derived.Test.YtnndpbkcldkbgaaPSpecL1RdPick
import Derived.Test.YtnndpbkcldkbgaaPSpecL7List
namespace Go.Proofs.Ytnndpbkcldkbgaa.P
open Go.RowKit Go.Proofs.YtnndpbkcldkbgaaW.PrintWords Go.Proofs.YtnndpbkcldkbgaaW.PrintLast Go.Proofs.YtnndpbkcldkbgaaW.PrintMore
attribute [local go_sem] max2_int min2_int max_two min_two max_three min_three max_four min_four
set_option linter.unusedVariables false
set_option linter.unusedSimpArgs false

set_option maxRecDepth 100000
/-! ### spec_DrawCommon: function 46 -/
mutual
def spec_DrawCommon.j0 : Nat → List ByteArray → List ByteArray → List Int → Int → Option (List ByteArray × List ByteArray)
 | 0, _, _, _, _ => none
 | k + 1, x5, x6, x1152000, x1152001 => (spec_l1Rd_pick.f k x1152000 x1152001 60).bind fun bt1171 => (if bt1171.1 = 0 then (spec_DrawCommon.l0 k x5 x6 x1152000 bt1171.2) else (some (x5, x6)))
def spec_DrawCommon.l0 : Nat → List ByteArray → List ByteArray → List Int → Int → Option (List ByteArray × List ByteArray)
 | 0, _, _, _, _ => none
 | k + 1, x5, x6, x1152000, x1152001 => if (x5.length : Int) < 1501 then (if x5.length < 8796093022208 then (spec_DrawCommon.l0 k (x5 ++ [(⟨#[97]⟩ : ByteArray)]) x6 x1152000 x1152001) else (none)) else ((spec_l1Rd_pick.f k x1152000 x1152001 2).bind fun bt1176 => (if 0 ≤ (wrap64 (1500 + bt1176.1)) then (if (wrap64 (1500 + bt1176.1)) ≤ (x5.length : Int) then (some ((x5.take ((wrap64 (1500 + bt1176.1)) : Int).toNat), x6)) else (none)) else (none)))
end
def spec_DrawCommon.f (k : Nat) (l0 : List Int) : Option (List ByteArray × List ByteArray) := (spec_l1Open.f l0).bind fun bt1149 => ((spec_l7List.f k bt1149.1 bt1149.2).bind fun bt1152 => ((spec_l7List.f k bt1149.1 bt1152.2).bind fun bt1156 => ((spec_l1Rd_pick.f k bt1149.1 bt1156.2 3).bind fun bt1160 => (if bt1160.1 = 0 then ((some (([] : List ByteArray) : List ByteArray)).bind fun y1162 => (if y1162.length + bt1152.1.length < 8796093022208 then ((some (y1162 ++ bt1152.1 : List ByteArray)).bind fun y1165 => (if y1165.length + bt1156.1.length < 8796093022208 then (spec_DrawCommon.j0 k bt1152.1 (y1165 ++ bt1156.1) bt1149.1 bt1160.2) else (none))) else (none))) else (spec_DrawCommon.j0 k bt1152.1 bt1156.1 bt1149.1 bt1160.2)))))
theorem spec_DrawCommon.mono_l : ∀ k, (∀ y0 y1 y2 y3, LeO (spec_DrawCommon.j0 k y0 y1 y2 y3) (spec_DrawCommon.j0 (k + 1) y0 y1 y2 y3)) ∧ (∀ y0 y1 y2 y3, LeO (spec_DrawCommon.l0 k y0 y1 y2 y3) (spec_DrawCommon.l0 (k + 1) y0 y1 y2 y3))
 | 0 => ⟨fun _ _ _ _ r h => by simp [spec_DrawCommon.j0] at h, fun _ _ _ _ r h => by simp [spec_DrawCommon.l0] at h⟩
 | k + 1 => by
  obtain ⟨ih0, ih1⟩ := spec_DrawCommon.mono_l k
  refine ⟨?_, ?_⟩
  ·intro y0 y1 y2 y3
   unfold spec_DrawCommon.j0
   repeat' first
   | (with_reducible exact ih0 _ _ _ _)
   | (with_reducible exact ih1 _ _ _ _)
   | (with_reducible exact spec_l1Rd_pick.mono _ _ _ _)
   | (with_reducible exact spec_l7List.mono _ _ _)
   | (with_reducible exact LeO.refl _)
   | (with_reducible exact LeO.none _)
   | (with_reducible refine LeO.ite ?_ ?_)
   | (with_reducible refine LeO.bind ?_ (fun _ => ?_))
   | exact ih0 _ _ _ _
   | exact ih1 _ _ _ _
   | exact spec_l1Rd_pick.mono _ _ _ _
   | exact spec_l7List.mono _ _ _
   | exact LeO.none _
   | refine LeO.ite ?_ ?_
   | refine LeO.bind ?_ (fun _ => ?_)
  ·intro y0 y1 y2 y3
   unfold spec_DrawCommon.l0
   repeat' first
   | (with_reducible exact ih0 _ _ _ _)
   | (with_reducible exact ih1 _ _ _ _)
   | (with_reducible exact spec_l1Rd_pick.mono _ _ _ _)
   | (with_reducible exact spec_l7List.mono _ _ _)
   | (with_reducible exact LeO.refl _)
   | (with_reducible exact LeO.none _)
   | (with_reducible refine LeO.ite ?_ ?_)
   | (with_reducible refine LeO.bind ?_ (fun _ => ?_))
   | exact ih0 _ _ _ _
   | exact ih1 _ _ _ _
   | exact spec_l1Rd_pick.mono _ _ _ _
   | exact spec_l7List.mono _ _ _
   | exact LeO.none _
   | refine LeO.ite ?_ ?_
   | refine LeO.bind ?_ (fun _ => ?_)
theorem spec_DrawCommon.mono : ∀ a0 k, LeO (spec_DrawCommon.f k a0) (spec_DrawCommon.f (k + 1) a0) := by
 intro a0 k
 obtain ⟨ih0, ih1⟩ := spec_DrawCommon.mono_l k
 unfold spec_DrawCommon.f
 repeat' first
   | (with_reducible exact ih0 _ _ _ _)
   | (with_reducible exact ih1 _ _ _ _)
   | (with_reducible exact spec_l1Rd_pick.mono _ _ _ _)
   | (with_reducible exact spec_l7List.mono _ _ _)
   | (with_reducible exact LeO.refl _)
   | (with_reducible exact LeO.none _)
   | (with_reducible refine LeO.ite ?_ ?_)
   | (with_reducible refine LeO.bind ?_ (fun _ => ?_))
   | exact ih0 _ _ _ _
   | exact ih1 _ _ _ _
   | exact spec_l1Rd_pick.mono _ _ _ _
   | exact spec_l7List.mono _ _ _
   | exact LeO.none _
   | refine LeO.ite ?_ ?_
   | refine LeO.bind ?_ (fun _ => ?_)
set_option maxHeartbeats 8000000 in
set_option maxRecDepth 100000 in
theorem spec_DrawCommon.calls (k : Nat) (A0 : Option Addr) (c0 : Nat) (l0 : List Int) (r1 : List ByteArray) (r2 : List ByteArray) (w : World) (hr0 : Kd.C (Kd.int .u8) w A0 l0.length l0) (hc0 : l0.length ≤ c0) (h : spec_DrawCommon.f k l0 = some (r1, r2)) :
  Calls Try.prog 46 #[.slice A0 l0.length c0] w fun e w' => ∃ v0_ v1_ : Value, e = .returned (.tuple #[v0_, v1_]) ∧ Kd.R Kd.string 9 w' w.heap.size (fun k_ => some k_ ≠ (v1_ : Value).ownBlock) v0_ r1 ∧ Kd.R Kd.string 9 w' w.heap.size (fun k_ => some k_ ≠ (v0_ : Value).ownBlock) v1_ r2 ∧ Below w.heap.size w w' := by
 have HR0 := Aside0.mk hr0
 have HC0 := Aside0.mk hc0
 clear hr0 hc0
 have HB := Aside0.mk (Below.refl w.heap.size w)
 have H : ((spec_l1Open.f l0).bind fun bt1149 => ((spec_l7List.f k bt1149.1 bt1149.2).bind fun bt1152 => ((spec_l7List.f k bt1149.1 bt1152.2).bind fun bt1156 => ((spec_l1Rd_pick.f k bt1149.1 bt1156.2 3).bind fun bt1160 => (if bt1160.1 = 0 then ((some (([] : List ByteArray) : List ByteArray)).bind fun y1162 => (if y1162.length + bt1152.1.length < 8796093022208 then ((some (y1162 ++ bt1152.1 : List ByteArray)).bind fun y1165 => (if y1165.length + bt1156.1.length < 8796093022208 then (spec_DrawCommon.j0 k bt1152.1 (y1165 ++ bt1156.1) bt1149.1 bt1160.2) else (none))) else (none))) else (spec_DrawCommon.j0 k bt1152.1 bt1156.1 bt1149.1 bt1160.2)))))) = some (r1, r2) := h
 clear h
 replace H := Option.bind_eq_some_iff.mp H
 obtain ⟨⟨t1149, t1150⟩, A20, H⟩ := H
 replace H : ((spec_l7List.f k t1149 t1150).bind fun bt1152 => ((spec_l7List.f k t1149 bt1152.2).bind fun bt1156 => ((spec_l1Rd_pick.f k t1149 bt1156.2 3).bind fun bt1160 => (if bt1160.1 = 0 then ((some (([] : List ByteArray) : List ByteArray)).bind fun y1162 => (if y1162.length + bt1152.1.length < 8796093022208 then ((some (y1162 ++ bt1152.1 : List ByteArray)).bind fun y1165 => (if y1165.length + bt1156.1.length < 8796093022208 then (spec_DrawCommon.j0 k bt1152.1 (y1165 ++ bt1156.1) t1149 bt1160.2) else (none))) else (none))) else (spec_DrawCommon.j0 k bt1152.1 bt1156.1 t1149 bt1160.2))))) = some (r1, r2) := H
 have A2 := Aside0.mk A20
 clear A20
 replace H := Option.bind_eq_some_iff.mp H
 obtain ⟨⟨t1152, t1155⟩, A30, H⟩ := H
 replace H : ((spec_l7List.f k t1149 t1155).bind fun bt1156 => ((spec_l1Rd_pick.f k t1149 bt1156.2 3).bind fun bt1160 => (if bt1160.1 = 0 then ((some (([] : List ByteArray) : List ByteArray)).bind fun y1162 => (if y1162.length + t1152.length < 8796093022208 then ((some (y1162 ++ t1152 : List ByteArray)).bind fun y1165 => (if y1165.length + bt1156.1.length < 8796093022208 then (spec_DrawCommon.j0 k t1152 (y1165 ++ bt1156.1) t1149 bt1160.2) else (none))) else (none))) else (spec_DrawCommon.j0 k t1152 bt1156.1 t1149 bt1160.2)))) = some (r1, r2) := H
 have A3 := Aside0.mk A30
 clear A30
 replace H := Option.bind_eq_some_iff.mp H
 obtain ⟨⟨t1156, t1159⟩, A40, H⟩ := H
 replace H : ((spec_l1Rd_pick.f k t1149 t1159 3).bind fun bt1160 => (if bt1160.1 = 0 then ((some (([] : List ByteArray) : List ByteArray)).bind fun y1162 => (if y1162.length + t1152.length < 8796093022208 then ((some (y1162 ++ t1152 : List ByteArray)).bind fun y1165 => (if y1165.length + t1156.length < 8796093022208 then (spec_DrawCommon.j0 k t1152 (y1165 ++ t1156) t1149 bt1160.2) else (none))) else (none))) else (spec_DrawCommon.j0 k t1152 t1156 t1149 bt1160.2))) = some (r1, r2) := H
 have A4 := Aside0.mk A40
 clear A40
 replace H := Option.bind_eq_some_iff.mp H
 obtain ⟨⟨t1160, t1161⟩, A50, H⟩ := H
 replace H : (if t1160 = 0 then ((some (([] : List ByteArray) : List ByteArray)).bind fun y1162 => (if y1162.length + t1152.length < 8796093022208 then ((some (y1162 ++ t1152 : List ByteArray)).bind fun y1165 => (if y1165.length + t1156.length < 8796093022208 then (spec_DrawCommon.j0 k t1152 (y1165 ++ t1156) t1149 t1161) else (none))) else (none))) else (spec_DrawCommon.j0 k t1152 t1156 t1149 t1161)) = some (r1, r2) := H
 have A5 := Aside0.mk A50
 clear A50
 have HC6 := Aside0.mk H
 clear H
 go_enter Try.func46, Try.ntmps46
 go_upto_if 15 with (first | ((with_reducible refine gc 66 rfl ?_); refine gl (some 8) _ (#[.slice A0 l0.length c0]) Try.func66 ?_; (with_reducible refine (spec_l1Open.calls _ _ l0 t1149 t1150 w _ ?side1 ?side2 ?side3 A2.out).mono ?_); (case side1 => repeat (first | (with_reducible first | exact HB.out | apply below_alloc | apply pw_below_drewN | apply below_drew1) | exact HB.out)); (case side2 => exact HR0.out); (case side3 => exact HC0.out); rintro e w7 ⟨g1151, rfl, hi, hb, hb2⟩; refine ⟨_, rfl, ?_⟩; refine Ya2 (hb) (hi) ?_; clear HB; intro HB HI1151; (try clear hb); (try clear hb2); (try clear hk); (try clear hi)) | ((with_reducible refine gc 90 rfl ?_); refine gl (some 10) _ (#[.pointer (some ⟨g1151, 0, none⟩)]) Try.func90 ?_; (with_reducible refine (spec_l7List.calls k g1151 t1149 t1150 t1152 t1155 w _ ?side1 ?side2 A3.out).mono ?_); (case side1 => repeat (first | (with_reducible first | exact HI1151.out | apply IsS137.alloc | apply IsS137.drewN | apply IsS137.drew | apply IsS137.set_1) | exact HI1151.out)); (case side2 => repeat (first | (with_reducible first | exact HB.out | apply below_alloc | apply pw_below_drewN | apply below_drew1 | refine below_set ?_ (IsS137.ge HI1151.out)) | exact HB.out)); rintro e w8 ⟨v1153, rfl, ho0, hi, hb, hk⟩; refine ⟨_, rfl, ?_⟩; refine Ya3 (Kd.R_lower ho0 (below_size (by repeat (first | (with_reducible first | exact HB.out | apply below_alloc | apply pw_below_drewN | apply below_drew1 | refine below_set ?_ (IsS137.ge HI1151.out)) | exact HB.out)))) (hb) (hi) ?_; clear HB HI1151; intro HO1154 HB HI1151; (try clear hb); (try clear hb2); (try clear hk); (try clear hi); (try clear ho0)) | ((with_reducible refine gc 90 rfl ?_); refine gl (some 12) _ (#[.pointer (some ⟨g1151, 0, none⟩)]) Try.func90 ?_; (with_reducible refine (spec_l7List.calls k g1151 t1149 t1155 t1156 t1159 w _ ?side1 ?side2 A4.out).mono ?_); (case side1 => repeat (first | (with_reducible first | exact HI1151.out | apply IsS137.alloc | apply IsS137.drewN | apply IsS137.drew | apply IsS137.set_1) | exact HI1151.out)); (case side2 => repeat (first | (with_reducible first | exact HB.out | apply below_alloc | apply pw_below_drewN | apply below_drew1 | refine below_set ?_ (IsS137.ge HI1151.out)) | exact HB.out)); rintro e w9 ⟨v1157, rfl, ho0, hi, hb, hk⟩; refine ⟨_, rfl, ?_⟩; refine Ya4 (Kd.R_mono (Kd.R_told (Kd.R_oldK (IsS137.apart (show IsS137 w _ g1151 t1149 t1155 from by repeat (first | (with_reducible first | exact HI1151.out | apply IsS137.alloc | apply IsS137.drewN | apply IsS137.drew | apply IsS137.set_1) | exact HI1151.out)) (kr HO1154.out) (by decide)) hk) (Kd.R_base ho0)) (fun _ h_ => h_.1)) (Kd.R_lower (Kd.R_new' ho0 (Kd.R_lt (kr HO1154.out))) (below_size (by repeat (first | (with_reducible first | exact HB.out | apply below_alloc | apply pw_below_drewN | apply below_drew1 | refine below_set ?_ (IsS137.ge HI1151.out)) | exact HB.out)))) (hb) (hi) ?_; clear HO1154 HB HI1151; intro HO1154 HO1158 HB HI1151; (try clear hb); (try clear hb2); (try clear hk); (try clear hi); (try clear ho0)) | ((with_reducible refine gc 68 rfl ?_); refine gl (some 14) _ (#[.pointer (some ⟨g1151, 0, none⟩), .int .i64 3]) Try.func68 ?_; (with_reducible refine (spec_l1Rd_pick.calls k g1151 t1149 t1159 3 t1160 t1161 w _ ?side1 ?side2 A5.out).mono ?_); (case side1 => repeat (first | (with_reducible first | exact HI1151.out | apply IsS137.alloc | apply IsS137.drewN | apply IsS137.drew | apply IsS137.set_1) | exact HI1151.out)); (case side2 => repeat (first | (with_reducible first | exact HB.out | apply below_alloc | apply pw_below_drewN | apply below_drew1 | refine below_set ?_ (IsS137.ge HI1151.out)) | exact HB.out)); rintro e w10 ⟨rfl, hi, hb, hk⟩; refine ⟨_, rfl, ?_⟩; refine Ya4 (Kd.R_mono (Kd.R_keep (IsS137.apart (show IsS137 w _ g1151 t1149 t1159 from by repeat (first | (with_reducible first | exact HI1151.out | apply IsS137.alloc | apply IsS137.drewN | apply IsS137.drew | apply IsS137.set_1) | exact HI1151.out)) (kr HO1154.out) (by decide)) hk (fun _ h => h.2)) (fun _ h => h.1)) (Kd.R_mono (Kd.R_keep (IsS137.apart (show IsS137 w _ g1151 t1149 t1159 from by repeat (first | (with_reducible first | exact HI1151.out | apply IsS137.alloc | apply IsS137.drewN | apply IsS137.drew | apply IsS137.set_1) | exact HI1151.out)) (kr HO1158.out) (by decide)) hk (fun _ h => h.2)) (fun _ h => h.1)) (hb) (hi) ?_; clear HO1154 HO1158 HB HI1151; intro HO1154 HO1158 HB HI1151; (try clear hb); (try clear hb2); (try clear hk); (try clear hi)))
 (try simp only [Act.put, List.setIfInBounds_toArray, List.set_cons_zero, List.set_cons_succ])
 go_cut [6] (fun v6 wc => ∃ (kq : Nat) (x6_5 : List ByteArray), Aside0 (spec_DrawCommon.j0 kq t1152 x6_5 t1149 t1161 = some (r1, r2)) ∧ Aside0 (kq ≤ k) ∧ Aside0 (Kd.R Kd.string 9 wc w.heap.size (fun k_ => some k_ ≠ (v6 : Value).ownBlock) v1153 t1152) ∧ Aside0 (Kd.R Kd.string 9 wc w.heap.size (fun k_ => some k_ ≠ (v1153 : Value).ownBlock) v6 x6_5) ∧ Aside0 (IsS137 w wc g1151 t1149 t1161) ∧ Aside0 (Below w.heap.size w wc))
 case first =>
  have H := HC6.out
  clear HC6
  by_cases c11 : t1160 = 0
  ·rw [if_pos c11] at H
   have c11b0 : (t1160 == 0) = true := beq_iff_eq.mpr c11
   have c11b1 : (t1160 != 0) = false := bne_eq_false_iff_eq.mpr c11
   clear c11
   (first | rw [c11b0] | (simp only [i64_w, i32_w]; rw [c11b0]) | skip)
   obtain ⟨y1162, hy1162⟩ : ∃ y_ : List ByteArray, y_ = (([] : List ByteArray)) := ⟨_, rfl⟩
   replace H : (if y1162.length + t1152.length < 8796093022208 then ((some (y1162 ++ t1152 : List ByteArray)).bind fun y1165 => (if y1165.length + t1156.length < 8796093022208 then (spec_DrawCommon.j0 k t1152 (y1165 ++ t1156) t1149 t1161) else (none))) else (none)) = some (r1, r2) := by first | (rw [hy1162]; with_reducible exact H) | (have H2_ := (Option.bind_some _ _).symm.trans H; rw [hy1162]; with_reducible exact H2_) | (have H2_ := (Option.bind_some _ _).symm.trans H; with_reducible exact H2_) | with_reducible exact H | (rw [hy1162]; exact H) | exact H
   have Ny1162 := Aside0.mk hy1162
   clear hy1162
   by_cases c12 : y1162.length + t1152.length < 8796093022208
   ·rw [if_pos c12] at H
    have LMc12 := Aside0.mk c12
    clear c12
    obtain ⟨y1165, hy1165⟩ : ∃ y_ : List ByteArray, y_ = (y1162 ++ t1152) := ⟨_, rfl⟩
    replace H : (if y1165.length + t1156.length < 8796093022208 then (spec_DrawCommon.j0 k t1152 (y1165 ++ t1156) t1149 t1161) else (none)) = some (r1, r2) := by first | (rw [hy1165]; with_reducible exact H) | (have H2_ := (Option.bind_some _ _).symm.trans H; rw [hy1165]; with_reducible exact H2_) | (have H2_ := (Option.bind_some _ _).symm.trans H; with_reducible exact H2_) | with_reducible exact H | (rw [hy1165]; exact H) | exact H
    have Ny1165 := Aside0.mk hy1165
    clear hy1165
    by_cases c13 : y1165.length + t1156.length < 8796093022208
    ·rw [if_pos c13] at H
     have LMc13 := Aside0.mk c13
     clear c13
     obtain ⟨y1168, hy1168⟩ : ∃ y_ : List ByteArray, y_ = (y1165 ++ t1156) := ⟨_, rfl⟩
     replace H : (spec_DrawCommon.j0 k t1152 y1168 t1149 t1161) = some (r1, r2) := by first | (rw [hy1168]; with_reducible exact H) | (have H2_ := (Option.bind_some _ _).symm.trans H; rw [hy1168]; with_reducible exact H2_) | (have H2_ := (Option.bind_some _ _).symm.trans H; with_reducible exact H2_) | with_reducible exact H | (rw [hy1168]; exact H) | exact H
     have Ny1168 := Aside0.mk hy1168
     clear hy1168
     have H' := Aside0.mk H
     clear H
     go_wp2_with (first | ((with_reducible refine gd 16 rfl ?_); refine Kd.R_lit Kd.string _ 9 ?hg (N := 16) ?hd (xs := ([] : List ByteArray)) (inner := []) (ok := fun _ => True) (okp := fun _ => True) ?hr ?hp (fun _ hk => hk) trivial (Below.refl _ _) (Nat.le_refl _) (by simp) ?_; (case hd => rfl); (case hg => rfl); (case hr => first | (go_simp; done) | (go_simp; rfl)); (case hp => exact (Reps.none _ _)); intro v1163 w14 ho15 hb hg_ hnew_; clear hg_ hnew_; (first | rw [← Ny1162.out] at ho15 | (simp only [Int.reduceToNat] at ho15; rw [← Ny1162.out] at ho15)); refine Ya5 (Kd.R_elder' (kr HO1154.out) (Kd.R_base ho15) hb) (Kd.R_elder' (kr HO1158.out) (Kd.R_base ho15) hb) (Kd.R_lower (Kd.R_new' (Kd.R_new' ho15 (Kd.R_lt (kr HO1154.out))) (Kd.R_lt (kr HO1158.out))) (below_size (by repeat (first | (with_reducible first | exact HB.out | apply below_alloc | apply pw_below_drewN | apply below_drew1 | refine below_set ?_ (IsS137.ge HI1151.out)) | exact HB.out)))) (IsS137.below (by repeat (first | (with_reducible first | exact HI1151.out | apply IsS137.alloc | apply IsS137.drewN | apply IsS137.drew | apply IsS137.set_1) | exact HI1151.out)) hb) (below_step (by repeat (first | (with_reducible first | exact HB.out | apply below_alloc | apply pw_below_drewN | apply below_drew1 | refine below_set ?_ (IsS137.ge HI1151.out)) | exact HB.out)) hb) ?_; clear HO1154 HO1158 HI1151 HB; intro HO1154 HO1158 HO1164 HI1151 HB; clear hb ho15; obtain ⟨Ao17, co17, eo17⟩ := Kd.R_slice HO1154.out; subst eo17) | ((with_reducible refine gate_builtin (b := .append) (xs := #[.tmp 16, .tmp 17]) rfl ?_); at_builtin; refine Kd.R_append_rows Kd.string (w0 := w) w.heap.size rfl (.tmp 16) (.tmp 17) 41 9 (.string ⟨#[]⟩) 16 rfl Try.underlying41 info9 rfl (by decide) (by omega) v1163 y1162 t1152 _ _ _ (fun k_ => some k_ ≠ (.slice Ao17 t1152.length co17 : Value).ownBlock ∧ some k_ ≠ (v1157 : Value).ownBlock) (fun _ => False) rfl rfl ?aO ?aR (fun _ _ h => h) (fun _ h => h.elim) ?aF ?aB ?aS ?aL ?_; (case aR => repeat (first | exact (Kd.R_reads' HO1154.out).2.2 | (with_reducible refine Kd.C_alloc ?_ _) | (with_reducible refine Kd.C_drewN ?_ _) | (with_reducible refine Kd.C_drew ?_))); (case aB => exact (by repeat (first | (with_reducible first | exact HB.out | apply below_alloc | apply pw_below_drewN | apply below_drew1 | refine below_set ?_ (IsS137.ge HI1151.out)) | exact HB.out))); (case aF => exact (fun k_ hk => ⟨Kd.fresh' (Kd.R_lt (kr HO1154.out)) k_ hk, Kd.fresh' (Kd.R_lt (kr HO1158.out)) k_ hk⟩)); (case aO => exact (by (with_reducible repeat (first | apply Kd.R_alloc | apply Kd.R_drewN | apply Kd.R_drew)); exact Kd.R_mono HO1164.out (fun _ hk => ⟨hk.1.2, hk.2⟩))); (case aS => exact (below_size (by repeat (first | (with_reducible first | exact HB.out | apply below_alloc | apply pw_below_drewN | apply below_drew1 | refine below_set ?_ (IsS137.ge HI1151.out)) | exact HB.out)))); (case aL => have := LMc12.out; omega); intro v1166 w16 ho hb hg hat; rw [← Ny1165.out] at ho; refine Ya5 (IsS137.grown (by repeat (first | (with_reducible first | exact HI1151.out | apply IsS137.alloc | apply IsS137.drewN | apply IsS137.drew | apply IsS137.set_1) | exact HI1151.out)) hg (IsS137.own_ne HI1151.out HO1164.out (by decide))) (Kd.R_after (ok := (fun k_ => some k_ ≠ (v1157 : Value).ownBlock)) (by (with_reducible repeat (first | apply Kd.R_alloc | apply Kd.R_drewN | apply Kd.R_drew)); exact Kd.R_mono HO1154.out (fun _ hk => ⟨hk.1.2, hk.2⟩)) hg hat) (Kd.R_after (ok := (fun k_ => some k_ ≠ (.slice Ao17 t1152.length co17 : Value).ownBlock)) (by (with_reducible repeat (first | apply Kd.R_alloc | apply Kd.R_drewN | apply Kd.R_drew)); exact Kd.R_mono HO1158.out (fun _ hk => ⟨hk.1.2, hk.2⟩)) hg hat) (hb) (ho) ?_; clear HI1151 HO1154 HO1158 HB HO1164; intro HI1151 HO1154 HO1158 HB HO1167; clear ho hb hg hat; obtain ⟨Ao19, co19, eo19⟩ := Kd.R_slice HO1158.out; subst eo19) | ((with_reducible refine gate_builtin (b := .append) (xs := #[.tmp 18, .tmp 19]) rfl ?_); at_builtin; refine Kd.R_append_rows Kd.string (w0 := w) w.heap.size rfl (.tmp 18) (.tmp 19) 41 9 (.string ⟨#[]⟩) 16 rfl Try.underlying41 info9 rfl (by decide) (by omega) v1166 y1165 t1156 _ _ _ (fun k_ => some k_ ≠ (.slice Ao17 t1152.length co17 : Value).ownBlock ∧ some k_ ≠ (.slice Ao19 t1156.length co19 : Value).ownBlock) (fun _ => False) rfl rfl ?aO ?aR (fun _ _ h => h) (fun _ h => h.elim) ?aF ?aB ?aS ?aL ?_; (case aR => repeat (first | exact (Kd.R_reads' HO1158.out).2.2 | (with_reducible refine Kd.C_alloc ?_ _) | (with_reducible refine Kd.C_drewN ?_ _) | (with_reducible refine Kd.C_drew ?_))); (case aB => exact (by repeat (first | (with_reducible first | exact HB.out | apply below_alloc | apply pw_below_drewN | apply below_drew1 | refine below_set ?_ (IsS137.ge HI1151.out)) | exact HB.out))); (case aF => exact (fun k_ hk => ⟨Kd.fresh' (Kd.R_lt (kr HO1154.out)) k_ hk, Kd.fresh' (Kd.R_lt (kr HO1158.out)) k_ hk⟩)); (case aO => exact (kr HO1167.out)); (case aS => exact (below_size (by repeat (first | (with_reducible first | exact HB.out | apply below_alloc | apply pw_below_drewN | apply below_drew1 | refine below_set ?_ (IsS137.ge HI1151.out)) | exact HB.out)))); (case aL => have := LMc13.out; omega); intro v1169 w18 ho hb hg hat; rw [← Ny1168.out] at ho; refine Ya5 (IsS137.grown (by repeat (first | (with_reducible first | exact HI1151.out | apply IsS137.alloc | apply IsS137.drewN | apply IsS137.drew | apply IsS137.set_1) | exact HI1151.out)) hg (IsS137.own_ne HI1151.out HO1167.out (by decide))) (Kd.R_after (ok := (fun k_ => some k_ ≠ (.slice Ao19 t1156.length co19 : Value).ownBlock)) (kr HO1154.out) hg hat) (Kd.R_after (ok := (fun k_ => some k_ ≠ (.slice Ao17 t1152.length co17 : Value).ownBlock)) (kr HO1158.out) hg hat) (hb) (ho) ?_; clear HI1151 HO1154 HO1158 HB HO1167; intro HI1151 HO1154 HO1158 HB HO1170; clear ho hb hg hat))
     go_meet
     case rel => exact ⟨_, (y1168), H', ⟨by first | omega | exact Nat.le_refl _⟩, ⟨by (with_reducible repeat (first | apply Kd.R_alloc | apply Kd.R_drewN | apply Kd.R_drew)); exact Kd.R_mono HO1154.out (fun _ hk => hk.2)⟩, ⟨by (with_reducible repeat (first | apply Kd.R_alloc | apply Kd.R_drewN | apply Kd.R_drew)); exact Kd.R_mono HO1170.out (fun _ hk => hk.1)⟩, ⟨by repeat (first | (with_reducible first | exact HI1151.out | apply IsS137.alloc | apply IsS137.drewN | apply IsS137.drew | apply IsS137.set_1) | exact HI1151.out)⟩, ⟨by repeat (first | (with_reducible first | exact HB.out | apply below_alloc | apply pw_below_drewN | apply below_drew1 | refine below_set ?_ (IsS137.ge HI1151.out)) | exact HB.out)⟩⟩
    ·rw [if_neg c13] at H
     exact absurd H (by simp)
   ·rw [if_neg c12] at H
    exact absurd H (by simp)
  ·rw [if_neg c11] at H
   have c11b0 : (t1160 == 0) = false := beq_eq_false_iff_ne.mpr c11
   have c11b1 : (t1160 != 0) = true := bne_iff_ne.mpr c11
   (first | rw [c11b0] | (simp only [i64_w, i32_w]; rw [c11b0]) | skip)
   have H' := Aside0.mk H
   clear H
   go_wp2
   go_meet
   case rel => exact ⟨_, (t1156), H', ⟨by first | omega | exact Nat.le_refl _⟩, ⟨by (with_reducible repeat (first | apply Kd.R_alloc | apply Kd.R_drewN | apply Kd.R_drew)); exact Kd.R_mono HO1154.out (fun _ hk => hk.2)⟩, ⟨by (with_reducible repeat (first | apply Kd.R_alloc | apply Kd.R_drewN | apply Kd.R_drew)); exact Kd.R_mono HO1158.out (fun _ hk => hk.2)⟩, ⟨by repeat (first | (with_reducible first | exact HI1151.out | apply IsS137.alloc | apply IsS137.drewN | apply IsS137.drew | apply IsS137.set_1) | exact HI1151.out)⟩, ⟨by repeat (first | (with_reducible first | exact HB.out | apply below_alloc | apply pw_below_drewN | apply below_drew1 | refine below_set ?_ (IsS137.ge HI1151.out)) | exact HB.out)⟩⟩
 case rest =>
  clear HC6
  try clear c1
  try clear p2
  try clear c4
  try clear c6
  try clear c9
  try clear c11
  try clear c11b0
  try clear c11b1
  try clear c12
  try clear c13
  obtain ⟨kq, x6_5, HA, HJ5, HO_5, HO_6, HI1151, HB⟩ := hcut
  cases kq with
  | zero => exact absurd HA.out (by simp [spec_DrawCommon.j0])
  | succ kj5 =>
   have H := HA.out
   clear HA
   simp only [spec_DrawCommon.j0] at H
   replace H := Option.bind_eq_some_iff.mp H
   obtain ⟨⟨t1171, t1172⟩, A200, H⟩ := H
   replace H : (if t1171 = 0 then (spec_DrawCommon.l0 kj5 t1152 x6_5 t1149 t1172) else (some (t1152, x6_5))) = some (r1, r2) := H
   have A20 := Aside0.mk A200
   clear A200
   by_cases c21 : t1171 = 0
   ·rw [if_pos c21] at H
    have c21b0 : (t1171 == 0) = true := beq_iff_eq.mpr c21
    have c21b1 : (t1171 != 0) = false := bne_eq_false_iff_eq.mpr c21
    clear c21
    have H' := Aside0.mk H
    clear H
    go_wp2_with (first | ((with_reducible refine gc 68 rfl ?_); refine gl (some 22) _ (#[.pointer (some ⟨g1151, 0, none⟩), .int .i64 60]) Try.func68 ?_; (with_reducible refine (spec_l1Rd_pick.calls kj5 g1151 t1149 t1161 60 t1171 t1172 w _ ?side1 ?side2 A20.out).mono ?_); (case side1 => repeat (first | (with_reducible first | exact HI1151.out | apply IsS137.alloc | apply IsS137.drewN | apply IsS137.drew | apply IsS137.set_1) | exact HI1151.out)); (case side2 => repeat (first | (with_reducible first | exact HB.out | apply below_alloc | apply pw_below_drewN | apply below_drew1 | refine below_set ?_ (IsS137.ge HI1151.out)) | exact HB.out)); rintro e w22 ⟨rfl, hi, hb, hk⟩; refine ⟨_, rfl, ?_⟩; refine Ya4 (Kd.R_mono (Kd.R_keep (IsS137.apart (show IsS137 w _ g1151 t1149 t1161 from by repeat (first | (with_reducible first | exact HI1151.out | apply IsS137.alloc | apply IsS137.drewN | apply IsS137.drew | apply IsS137.set_1) | exact HI1151.out)) (kr HO_5.out) (by decide)) hk (fun _ h => h.2)) (fun _ h => h.1)) (Kd.R_mono (Kd.R_keep (IsS137.apart (show IsS137 w _ g1151 t1149 t1161 from by repeat (first | (with_reducible first | exact HI1151.out | apply IsS137.alloc | apply IsS137.drewN | apply IsS137.drew | apply IsS137.set_1) | exact HI1151.out)) ((by first | exact kr HO_6.out | exact Kd.R_mono HO_6.out (fun _ hk e_ => hk (e_.trans (own_len _ _ _ _ _))))) (by decide)) hk (fun _ h => h.2)) (fun _ h => h.1)) (hb) (hi) ?_; clear HO_5 HO_6 HB HI1151; intro HO_5 HO_6 HB HI1151; (try clear hb); (try clear hb2); (try clear hk); (try clear hi)))
    go_loopg [5] kj5 (fun kq v5 w' => ∃ (x5_2 : List ByteArray), Aside0 (spec_DrawCommon.l0 kq x5_2 x6_5 t1149 t1172 = some (r1, r2)) ∧ Aside0 (kq ≤ kj5) ∧ Aside0 (Kd.R Kd.string 9 w' w.heap.size (fun k_ => some k_ ≠ (u6 : Value).ownBlock) v5 x5_2) ∧ Aside0 (Kd.R Kd.string 9 w' w.heap.size (fun k_ => some k_ ≠ (v5 : Value).ownBlock) u6 x6_5) ∧ Aside0 (IsS137 w w' g1151 t1149 t1172) ∧ Aside0 (Below w.heap.size w w'))
    case atStart => exact ⟨(t1152), H', ⟨Nat.le_refl _⟩, ⟨kr HO_5.out⟩, ⟨(by first | exact kr HO_6.out | exact Kd.R_mono HO_6.out (fun _ hk e_ => hk (e_.trans (own_len _ _ _ _ _))))⟩, ⟨by repeat (first | (with_reducible first | exact HI1151.out | apply IsS137.alloc | apply IsS137.drewN | apply IsS137.drew | apply IsS137.set_1) | exact HI1151.out)⟩, ⟨by repeat (first | (with_reducible first | exact HB.out | apply below_alloc | apply pw_below_drewN | apply below_drew1 | refine below_set ?_ (IsS137.ge HI1151.out)) | exact HB.out)⟩⟩
    case round =>
     clear H'
     try clear c1
     try clear c2
     try clear p2
     try clear c4
     try clear c6
     try clear c9
     try clear c11
     try clear c11b0
     try clear c11b1
     try clear c12
     try clear c13
     try clear c21
     try clear c21b0
     try clear c21b1
     try clear p2
     obtain ⟨x5_2, HA, HK2, HO_5, HO_6, HI1151, HB⟩ := hrel
     cases gk with
     | zero => exact absurd HA.out (by simp [spec_DrawCommon.l0])
     | succ k2 =>
      have H := HA.out
      clear HA
      simp only [spec_DrawCommon.l0] at H
      by_cases c23 : (x5_2.length : Int) < 1501
      ·rw [if_pos c23] at H
       have c23b0 : decide ((x5_2.length : Int) < 1501) = true := decide_eq_true c23
       have c23b1 : decide (x5_2.length < 1501) = true := decide_eq_true (by omega)
       clear c23
       by_cases c24 : x5_2.length < 8796093022208
       ·rw [if_pos c24] at H
        have LMc24 := Aside0.mk c24
        clear c24
        obtain ⟨y1173, hy1173⟩ : ∃ y_ : List ByteArray, y_ = (x5_2 ++ [(⟨#[97]⟩ : ByteArray)]) := ⟨_, rfl⟩
        replace H : (spec_DrawCommon.l0 k2 y1173 x6_5 t1149 t1172) = some (r1, r2) := by first | (rw [hy1173]; with_reducible exact H) | (have H2_ := (Option.bind_some _ _).symm.trans H; rw [hy1173]; with_reducible exact H2_) | (have H2_ := (Option.bind_some _ _).symm.trans H; with_reducible exact H2_) | with_reducible exact H | (rw [hy1173]; exact H) | exact H
        have Ny1173 := Aside0.mk hy1173
        clear hy1173
        have H' := Aside0.mk H
        clear H
        obtain ⟨Ao25, co25, eo25⟩ := Kd.R_slice HO_5.out
        subst eo25
        go_wp2_with (first | ((with_reducible refine gate_builtin (b := .append) (xs := #[.tmp 27, .tmp 28]) rfl ?_); at_builtin; refine Kd.R_append Kd.string (w0 := w) w.heap.size rfl (.tmp 27) (.tmp 28) 41 9 (.string ⟨#[]⟩) 16 rfl Try.underlying41 info9 rfl (by decide) (by omega) (.slice Ao25 x5_2.length co25) x5_2 (⟨#[97]⟩ : ByteArray) [.string (⟨#[97]⟩ : ByteArray)] (fun k_ => some k_ ≠ (u6 : Value).ownBlock) (fun _ => False) rfl rfl ?aP (fun _ hk => hk.elim) ?aF ?aO ?aB ?aS ?aL ?_; (case aP => exact rfl); (case aB => exact (by repeat (first | (with_reducible first | exact HB.out | apply below_alloc | apply pw_below_drewN | apply below_drew1 | refine below_set ?_ (IsS137.ge HI1151.out)) | exact HB.out))); (case aF => exact (fun k_ hk => Kd.fresh' (Kd.R_lt ((by first | exact kr HO_6.out | exact Kd.R_mono HO_6.out (fun _ hk e_ => hk (e_.trans (own_len _ _ _ _ _)))))) k_ hk)); (case aO => exact (kr HO_5.out)); (case aS => exact (below_size (by repeat (first | (with_reducible first | exact HB.out | apply below_alloc | apply pw_below_drewN | apply below_drew1 | refine below_set ?_ (IsS137.ge HI1151.out)) | exact HB.out)))); (case aL => have := LMc24.out; omega); intro v1174 w26 ho hb hg hat; rw [← Ny1173.out] at ho; refine Ya4 (Kd.R_after (ok := (fun _ => True)) (by (with_reducible repeat (first | apply Kd.R_alloc | apply Kd.R_drewN | apply Kd.R_drew)); exact Kd.R_mono HO_6.out (fun _ hk => ⟨trivial, (by first | exact hk | exact fun e_ => hk (e_.trans (own_len _ _ _ _ _)))⟩)) hg hat) (IsS137.grown (by repeat (first | (with_reducible first | exact HI1151.out | apply IsS137.alloc | apply IsS137.drewN | apply IsS137.drew | apply IsS137.set_1) | exact HI1151.out)) hg (IsS137.own_ne HI1151.out HO_5.out (by decide))) (hb) (ho) ?_; clear HO_6 HI1151 HB HO_5; intro HO_6 HI1151 HB HO1175; clear ho hb hg hat))
        go_roundg k2
        case measure => have := HJ5.out; have := HK2.out; omega
        case rel => exact ⟨(y1173), H', ⟨by have := HJ5.out; have := HK2.out; omega⟩, ⟨kr HO1175.out⟩, ⟨by (with_reducible repeat (first | apply Kd.R_alloc | apply Kd.R_drewN | apply Kd.R_drew)); exact Kd.R_mono HO_6.out (fun _ hk => hk.2)⟩, ⟨by repeat (first | (with_reducible first | exact HI1151.out | apply IsS137.alloc | apply IsS137.drewN | apply IsS137.drew | apply IsS137.set_1) | exact HI1151.out)⟩, ⟨by repeat (first | (with_reducible first | exact HB.out | apply below_alloc | apply pw_below_drewN | apply below_drew1 | refine below_set ?_ (IsS137.ge HI1151.out)) | exact HB.out)⟩⟩
       ·rw [if_neg c24] at H
        exact absurd H (by simp)
      ·rw [if_neg c23] at H
       have c23b0 : decide ((x5_2.length : Int) < 1501) = false := decide_eq_false c23
       have c23b1 : decide (x5_2.length < 1501) = false := decide_eq_false (by omega)
       clear c23
       replace H := Option.bind_eq_some_iff.mp H
       obtain ⟨⟨t1176, t1177⟩, A270, H⟩ := H
       replace H : (if 0 ≤ (wrap64 (1500 + t1176)) then (if (wrap64 (1500 + t1176)) ≤ (x5_2.length : Int) then (some ((x5_2.take ((wrap64 (1500 + t1176)) : Int).toNat), x6_5)) else (none)) else (none)) = some (r1, r2) := H
       have A27 := Aside0.mk A270
       clear A270
       obtain ⟨ji28, hji28⟩ : ∃ j_ : Int, (wrap64 (1500 + t1176)) = j_ := ⟨_, rfl⟩
       replace H : (if 0 ≤ (ji28) then (if (ji28) ≤ (x5_2.length : Int) then (some ((x5_2.take ((ji28) : Int).toNat), x6_5)) else (none)) else (none)) = some (r1, r2) := by first | (rw [hji28] at H; exact H) | (simp only [hji28] at H ⊢; exact H)
       (try rw [hji28] at A27)
       have hji28w : (IntKind.i64.wrap (1500 + t1176)) = ji28 := (i64_w _).trans hji28
       by_cases c29 : 0 ≤ (ji28)
       ·rw [if_pos c29] at H
        have c29b0 := eq_true c29
        have c29b1 : decide (0 ≤ (ji28)) = true := decide_eq_true c29
        clear c29
        by_cases c30 : (ji28) ≤ (x5_2.length : Int)
        ·rw [if_pos c30] at H
         have c30b0 := eq_true c30
         have c30b1 : decide ((ji28) ≤ (x5_2.length : Int)) = true := decide_eq_true c30
         clear c30
         obtain ⟨y1178, hy1178⟩ : ∃ y_ : List ByteArray, y_ = (x5_2.take ((ji28) : Int).toNat) := ⟨_, rfl⟩
         replace H : (some (y1178, x6_5)) = some (r1, r2) := by first | (rw [hy1178]; with_reducible exact H) | (have H2_ := (Option.bind_some _ _).symm.trans H; rw [hy1178]; with_reducible exact H2_) | (have H2_ := (Option.bind_some _ _).symm.trans H; with_reducible exact H2_) | with_reducible exact H | (rw [hy1178]; exact H) | exact H
         have Ny1178 := Aside0.mk hy1178
         clear hy1178
         simp only [Option.some.injEq, Prod.mk.injEq] at H
         obtain ⟨rfl, rfl⟩ := H
         obtain ⟨Ao31, co31, eo31⟩ := Kd.R_slice HO_5.out
         subst eo31
         go_wp2_with (first | ((with_reducible refine gc 68 rfl ?_); refine gl (some 32) _ (#[.pointer (some ⟨g1151, 0, none⟩), .int .i64 2]) Try.func68 ?_; (with_reducible refine (spec_l1Rd_pick.calls k2 g1151 t1149 t1172 2 t1176 t1177 w _ ?side1 ?side2 A27.out).mono ?_); (case side1 => repeat (first | (with_reducible first | exact HI1151.out | apply IsS137.alloc | apply IsS137.drewN | apply IsS137.drew | apply IsS137.set_1) | exact HI1151.out)); (case side2 => repeat (first | (with_reducible first | exact HB.out | apply below_alloc | apply pw_below_drewN | apply below_drew1 | refine below_set ?_ (IsS137.ge HI1151.out)) | exact HB.out)); rintro e w32 ⟨rfl, hi, hb, hk⟩; refine ⟨_, rfl, ?_⟩; refine Ya4 (Kd.R_mono (Kd.R_keep (IsS137.apart (show IsS137 w _ g1151 t1149 t1172 from by repeat (first | (with_reducible first | exact HI1151.out | apply IsS137.alloc | apply IsS137.drewN | apply IsS137.drew | apply IsS137.set_1) | exact HI1151.out)) (kr HO_5.out) (by decide)) hk (fun _ h => h.2)) (fun _ h => h.1)) (Kd.R_mono (Kd.R_keep (IsS137.apart (show IsS137 w _ g1151 t1149 t1172 from by repeat (first | (with_reducible first | exact HI1151.out | apply IsS137.alloc | apply IsS137.drewN | apply IsS137.drew | apply IsS137.set_1) | exact HI1151.out)) ((by first | exact kr HO_6.out | exact Kd.R_mono HO_6.out (fun _ hk e_ => hk (e_.trans (own_len _ _ _ _ _))))) (by decide)) hk (fun _ h => h.2)) (fun _ h => h.1)) (hb) (hi) ?_; clear HO_5 HO_6 HB HI1151; intro HO_5 HO_6 HB HI1151; (try clear hb); (try clear hb2); (try clear hk); (try clear hi); have q33 : ((ji28) : Int) ≤ ((x5_2.length : Int) : Int) := oda; obtain ⟨i033, hi033, _, hsz33, _⟩ := info_parts info9; have hcut33 := cut_to (P := Try.prog) 41 9 .i64 Try.underlying41 hi033 Ao31 x5_2.length co31 (ji28) (oda) q33 (Kd.R_reads' HO_5.out).2.1; have hr33 := Kd.R_take (m := ((ji28) : Int).toNat) HO_5.out (by omega); have hy33 : y1178.length = ((ji28) : Int).toNat := (by rw [Ny1178.out, List.length_take]; omega); rw [← Ny1178.out] at hr33; rw [← hy33] at hr33 hcut33; clear hy33 hi033 hsz33 HO_5; have HO1180 := Aside0.mk hr33; clear hr33; replace q33 := eq_true q33))
         go_ret2
         exact ⟨_, _, by first | rfl | (simp [errW_none, errW_some] <;> rfl) | (simp only [← hji28]; first | rfl | (simp [errW_none, errW_some] <;> rfl)) | (simp [*, errW_none, errW_some] <;> rfl), kr HO1180.out, (by first | exact kr HO_6.out | exact Kd.R_mono HO_6.out (fun _ hk e_ => hk (e_.trans (own_len _ _ _ _ _)))), by repeat (first | (with_reducible first | exact HB.out | apply below_alloc | apply pw_below_drewN | apply below_drew1 | refine below_set ?_ (IsS137.ge HI1151.out)) | exact HB.out)⟩
        ·rw [if_neg c30] at H
         exact absurd H (by simp)
       ·rw [if_neg c29] at H
        exact absurd H (by simp)
   ·rw [if_neg c21] at H
    have c21b0 : (t1171 == 0) = false := beq_eq_false_iff_ne.mpr c21
    have c21b1 : (t1171 != 0) = true := bne_iff_ne.mpr c21
    simp only [Option.some.injEq, Prod.mk.injEq] at H
    obtain ⟨rfl, rfl⟩ := H
    go_wp2_with (first | ((with_reducible refine gc 68 rfl ?_); refine gl (some 22) _ (#[.pointer (some ⟨g1151, 0, none⟩), .int .i64 60]) Try.func68 ?_; (with_reducible refine (spec_l1Rd_pick.calls kj5 g1151 t1149 t1161 60 t1171 t1172 w _ ?side1 ?side2 A20.out).mono ?_); (case side1 => repeat (first | (with_reducible first | exact HI1151.out | apply IsS137.alloc | apply IsS137.drewN | apply IsS137.drew | apply IsS137.set_1) | exact HI1151.out)); (case side2 => repeat (first | (with_reducible first | exact HB.out | apply below_alloc | apply pw_below_drewN | apply below_drew1 | refine below_set ?_ (IsS137.ge HI1151.out)) | exact HB.out)); rintro e w34 ⟨rfl, hi, hb, hk⟩; refine ⟨_, rfl, ?_⟩; refine Ya4 (Kd.R_mono (Kd.R_keep (IsS137.apart (show IsS137 w _ g1151 t1149 t1161 from by repeat (first | (with_reducible first | exact HI1151.out | apply IsS137.alloc | apply IsS137.drewN | apply IsS137.drew | apply IsS137.set_1) | exact HI1151.out)) (kr HO_5.out) (by decide)) hk (fun _ h => h.2)) (fun _ h => h.1)) (Kd.R_mono (Kd.R_keep (IsS137.apart (show IsS137 w _ g1151 t1149 t1161 from by repeat (first | (with_reducible first | exact HI1151.out | apply IsS137.alloc | apply IsS137.drewN | apply IsS137.drew | apply IsS137.set_1) | exact HI1151.out)) ((by first | exact kr HO_6.out | exact Kd.R_mono HO_6.out (fun _ hk e_ => hk (e_.trans (own_len _ _ _ _ _))))) (by decide)) hk (fun _ h => h.2)) (fun _ h => h.1)) (hb) (hi) ?_; clear HO_5 HO_6 HB HI1151; intro HO_5 HO_6 HB HI1151; (try clear hb); (try clear hb2); (try clear hk); (try clear hi)))
    go_ret2
    exact ⟨_, _, Ye2, kr HO_5.out, (by first | exact kr HO_6.out | exact Kd.R_mono HO_6.out (fun _ hk e_ => hk (e_.trans (own_len _ _ _ _ _)))), by repeat (first | (with_reducible first | exact HB.out | apply below_alloc | apply pw_below_drewN | apply below_drew1 | refine below_set ?_ (IsS137.ge HI1151.out)) | exact HB.out)⟩

end Go.Proofs.Ytnndpbkcldkbgaa.P
