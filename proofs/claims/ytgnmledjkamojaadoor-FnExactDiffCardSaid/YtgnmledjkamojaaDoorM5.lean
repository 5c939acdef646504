/- Several texts of this claim in one file: YtgnmledjkamojaaDoorPLawsMarkEntryS, YtgnmledjkamojaaDoorPLawsMarkTree, YtgnmledjkamojaaDoorPLawsFile, YtgnmledjkamojaaDoorPLawsChange, YtgnmledjkamojaaDoorPLawsPatch, YtgnmledjkamojaaDoorPLawsEntry, YtgnmledjkamojaaDoorPLawsTree, YtgnmledjkamojaaDoorPSpecL6At, YtgnmledjkamojaaDoorPSpecL6Name, YtgnmledjkamojaaDoorPSpecL6Paths, YtgnmledjkamojaaDoorPSpecL5Begins, YtgnmledjkamojaaDoorPSpecL1In, YtgnmledjkamojaaDoorPSpecL4PartOk, YtgnmledjkamojaaDoorPSpecL4Parts, YtgnmledjkamojaaDoorPSpecL4Ok, YtgnmledjkamojaaDoorPSpecValidPath. -/
import Derived.Test.YtgnmledjkamojaaDoorM2
import Derived.Test.YtgnmledjkamojaaDoorM3
import Derived.Test.YtgnmledjkamojaaDoorM4
namespace Go.Proofs.YtgnmledjkamojaaDoor.P
open Go.RowKit Go.Proofs.YtgnmledjkamojaaDoorW.PrintWords Go.Proofs.YtgnmledjkamojaaDoorW.PrintLast Go.Proofs.YtgnmledjkamojaaDoorW.PrintMore
attribute [local go_sem] max2_int min2_int max_two min_two max_three min_three max_four min_four
set_option linter.unusedVariables false
set_option linter.unusedSimpArgs false

/-! ### laws_markEntryS: function 73 -/
def laws_markEntryS.l0 : Nat → List (S37) → Int → Int → Option (Int × (List (S37)))
 | 0, _, _, _ => none
 | k + 1, x0, x1, x5 => if x5 < (x0.length : Int) then ((laws_markText.f k x1).bind fun ab => (if 0 ≤ x5 then ((some (x0.set (x5 : Int).toNat (⟨ab, (rd_T37 x0 x5).f1, (rd_T37 x0 x5).f2⟩ : S37) : List (S37))).bind fun a7 => ((laws_markText.f k (wrap64 (x1 + 1))).bind fun a9 => ((some (a7.set (x5 : Int).toNat (⟨(rd_T37 a7 x5).f0, a9, (rd_T37 a7 x5).f2⟩ : S37) : List (S37))).bind fun a6 => (laws_markEntryS.l0 k (a6.set (x5 : Int).toNat (⟨(rd_T37 a6 x5).f0, (rd_T37 a6 x5).f1, ((Int.tmod (wrap64 ((wrap64 (x1 + 1)) + 1)) 3) == 0)⟩ : S37)) (wrap64 ((wrap64 ((wrap64 (x1 + 1)) + 1)) + 1)) (wrap64 (x5 + 1)))))) else (none))) else (some (x1, x0))
def laws_markEntryS.f (k : Nat) (l0 : List (S37)) (a1 : Int) : Option (Int × (List (S37))) := laws_markEntryS.l0 k l0 a1 0
theorem laws_markEntryS.mono_l : ∀ k, (∀ y0 y1 y2, LeO (laws_markEntryS.l0 k y0 y1 y2) (laws_markEntryS.l0 (k + 1) y0 y1 y2))
 | 0 => fun _ _ _ r h => by simp [laws_markEntryS.l0] at h
 | k + 1 => by
  have ih0 := laws_markEntryS.mono_l k
  ·intro y0 y1 y2
   unfold laws_markEntryS.l0
   repeat' first
   | (with_reducible exact ih0 _ _ _)
   | (with_reducible exact laws_markText.mono _ _)
   | (with_reducible exact LeO.refl _)
   | (with_reducible exact LeO.none _)
   | (with_reducible refine LeO.ite ?_ ?_)
   | (with_reducible refine LeO.bind ?_ (fun _ => ?_))
   | exact ih0 _ _ _
   | exact laws_markText.mono _ _
   | exact LeO.none _
   | refine LeO.ite ?_ ?_
   | refine LeO.bind ?_ (fun _ => ?_)
theorem laws_markEntryS.mono : ∀ a0 a1 k, LeO (laws_markEntryS.f k a0 a1) (laws_markEntryS.f (k + 1) a0 a1) := by
 intro a0 a1 k; have ih0 := laws_markEntryS.mono_l k
 unfold laws_markEntryS.f
 repeat' first
   | (with_reducible exact ih0 _ _ _)
   | (with_reducible exact laws_markText.mono _ _)
   | (with_reducible exact LeO.refl _)
   | (with_reducible exact LeO.none _)
   | (with_reducible refine LeO.ite ?_ ?_)
   | (with_reducible refine LeO.bind ?_ (fun _ => ?_))
   | exact ih0 _ _ _
   | exact laws_markText.mono _ _
   | exact LeO.none _
   | refine LeO.ite ?_ ?_
   | refine LeO.bind ?_ (fun _ => ?_)
set_option maxHeartbeats 8000000 in
set_option maxRecDepth 100000 in
theorem laws_markEntryS.calls (k : Nat) (P0_ : Nat → Prop) (u9000_ : Value) (l0 : List (S37)) (a1 : Int) (r1 : Int) (r2 : List (S37)) (w0 w : World) (hB : Below w0.heap.size w0 w) (ho0 : Kd.R k37 37 w w0.heap.size P0_ u9000_ l0) (h : laws_markEntryS.f k l0 a1 = some (r1, r2)) :
  Calls Tryd.prog 73 #[u9000_, .int .i64 a1] w fun e w' => e = .returned (.int .i64 r1) ∧ Kd.R k37 37 w' w0.heap.size (fun k_ => (P0_ k_ ∨ w.heap.size ≤ k_)) u9000_ r2 ∧ Below w0.heap.size w0 w' ∧ Kept w w' (fun k_ => P0_ k_) := by
 have HO0 := Aside0.mk (show Kd.R k37 37 w w0.heap.size (fun k_ => (P0_ k_ ∨ w.heap.size ≤ k_)) u9000_ l0 from Kd.R_mono ho0 (fun k_ hk => (.inl hk))); have HK := Aside0.mk (Kept.refl w (fun k_ => P0_ k_)); have HW0 := Aside0.mk hB.size; have HB := Aside0.mk hB; clear hB; have H : (laws_markEntryS.l0 k l0 a1 0) = some (r1, r2) := h; clear h; have H' := Aside0.mk H; clear H
 go_enter Tryd.func73, Tryd.ntmps73
 go_wp2
 go_loopg [1, 5] k (fun kq v1 v5 w' => ∃ (a3 : List (S37)) (a8 : Int) (a2 : Int), v1 = .int .i64 a8 ∧ v5 = .int .i64 a2 ∧ Aside0 (laws_markEntryS.l0 kq a3 a8 a2 = some (r1, r2)) ∧ Aside0 (kq ≤ k) ∧ Aside0 (Kd.R k37 37 w' w0.heap.size (fun k_ => (P0_ k_ ∨ w.heap.size ≤ k_)) u9000_ a3) ∧ Aside0 (Kept w w' (fun k_ => P0_ k_)) ∧ Aside0 (Below w0.heap.size w0 w'))
 case atStart => exact ⟨(l0), (a1), (0), Ye1, Ye1, H', ⟨Nat.le_refl _⟩, ⟨kr HO0.out⟩, ⟨by repeat (first | (with_reducible first | exact HK.out | apply Kept.alloc | apply Kept.drewN | apply Kept.drew) | exact HK.out)⟩, ⟨be HB.out⟩⟩
 case round =>
  clear H'; (try clear p2); obtain ⟨a3, a8, a2, rfl, rfl, HA, HK1, a4, HK, HB⟩ := hrel
  cases gk with
  | zero => exact absurd HA.out (by simp [laws_markEntryS.l0])
  | succ k1 =>
   have H := HA.out; clear HA; simp only [laws_markEntryS.l0] at H
   by_cases c3 : a2 < (a3.length : Int)
   ·rw [if_pos c3] at H
    have au : decide (a2 < (a3.length : Int)) = true := decide_eq_true c3; clear c3; replace H := Option.bind_eq_some_iff.mp H; obtain ⟨ab, A40, H⟩ := H; replace H : (if 0 ≤ a2 then ((some (a3.set (a2 : Int).toNat (⟨ab, (rd_T37 a3 a2).f1, (rd_T37 a3 a2).f2⟩ : S37) : List (S37))).bind fun a7 => ((laws_markText.f k1 (wrap64 (a8 + 1))).bind fun a9 => ((some (a7.set (a2 : Int).toNat (⟨(rd_T37 a7 a2).f0, a9, (rd_T37 a7 a2).f2⟩ : S37) : List (S37))).bind fun a6 => (laws_markEntryS.l0 k1 (a6.set (a2 : Int).toNat (⟨(rd_T37 a6 a2).f0, (rd_T37 a6 a2).f1, ((Int.tmod (wrap64 ((wrap64 (a8 + 1)) + 1)) 3) == 0)⟩ : S37)) (wrap64 ((wrap64 ((wrap64 (a8 + 1)) + 1)) + 1)) (wrap64 (a2 + 1)))))) else (none)) = some (r1, r2) := H; have A4 := Aside0.mk A40; clear A40
    by_cases c5 : 0 ≤ a2
    ·rw [if_pos c5] at H
     have c5b0 : decide (0 ≤ a2) = true := decide_eq_true c5; clear c5
     obtain ⟨a7, af⟩ : ∃ y_ : List (S37), y_ = (a3.set (a2 : Int).toNat (⟨ab, (rd_T37 a3 a2).f1, (rd_T37 a3 a2).f2⟩ : S37)) := ⟨_, rfl⟩
     replace H : ((laws_markText.f k1 (wrap64 (a8 + 1))).bind fun a9 => ((some (a7.set (a2 : Int).toNat (⟨(rd_T37 a7 a2).f0, a9, (rd_T37 a7 a2).f2⟩ : S37) : List (S37))).bind fun a6 => (laws_markEntryS.l0 k1 (a6.set (a2 : Int).toNat (⟨(rd_T37 a6 a2).f0, (rd_T37 a6 a2).f1, ((Int.tmod (wrap64 ((wrap64 (a8 + 1)) + 1)) 3) == 0)⟩ : S37)) (wrap64 ((wrap64 ((wrap64 (a8 + 1)) + 1)) + 1)) (wrap64 (a2 + 1))))) = some (r1, r2) := by first | (rw [af]; with_reducible exact H) | (have H2_ := (Option.bind_some _ _).symm.trans H; rw [af]; with_reducible exact H2_) | (have H2_ := (Option.bind_some _ _).symm.trans H; with_reducible exact H2_) | with_reducible exact H | (rw [af]; exact H) | exact H
     have av := Aside0.mk af; clear af; replace H := Option.bind_eq_some_iff.mp H; obtain ⟨a9, A70, H⟩ := H; replace H : ((some (a7.set (a2 : Int).toNat (⟨(rd_T37 a7 a2).f0, a9, (rd_T37 a7 a2).f2⟩ : S37) : List (S37))).bind fun a6 => (laws_markEntryS.l0 k1 (a6.set (a2 : Int).toNat (⟨(rd_T37 a6 a2).f0, (rd_T37 a6 a2).f1, ((Int.tmod (wrap64 ((wrap64 (a8 + 1)) + 1)) 3) == 0)⟩ : S37)) (wrap64 ((wrap64 ((wrap64 (a8 + 1)) + 1)) + 1)) (wrap64 (a2 + 1)))) = some (r1, r2) := H; have A7 := Aside0.mk A70; clear A70
     obtain ⟨a6, ag⟩ : ∃ y_ : List (S37), y_ = (a7.set (a2 : Int).toNat (⟨(rd_T37 a7 a2).f0, a9, (rd_T37 a7 a2).f2⟩ : S37)) := ⟨_, rfl⟩
     replace H : (laws_markEntryS.l0 k1 (a6.set (a2 : Int).toNat (⟨(rd_T37 a6 a2).f0, (rd_T37 a6 a2).f1, ((Int.tmod (wrap64 ((wrap64 (a8 + 1)) + 1)) 3) == 0)⟩ : S37)) (wrap64 ((wrap64 ((wrap64 (a8 + 1)) + 1)) + 1)) (wrap64 (a2 + 1))) = some (r1, r2) := by first | (rw [ag]; with_reducible exact H) | (have H2_ := (Option.bind_some _ _).symm.trans H; rw [ag]; with_reducible exact H2_) | (have H2_ := (Option.bind_some _ _).symm.trans H; with_reducible exact H2_) | with_reducible exact H | (rw [ag]; exact H) | exact H
     have aw := Aside0.mk ag; clear ag
     obtain ⟨ai, ah⟩ : ∃ y_ : List (S37), y_ = (a6.set (a2 : Int).toNat (⟨(rd_T37 a6 a2).f0, (rd_T37 a6 a2).f1, ((Int.tmod (wrap64 ((wrap64 (a8 + 1)) + 1)) 3) == 0)⟩ : S37)) := ⟨_, rfl⟩
     replace H : (laws_markEntryS.l0 k1 ai (wrap64 ((wrap64 ((wrap64 (a8 + 1)) + 1)) + 1)) (wrap64 (a2 + 1))) = some (r1, r2) := by first | (rw [ah]; with_reducible exact H) | (have H2_ := (Option.bind_some _ _).symm.trans H; rw [ah]; with_reducible exact H2_) | (have H2_ := (Option.bind_some _ _).symm.trans H; with_reducible exact H2_) | with_reducible exact H | (rw [ah]; exact H) | exact H
     have ax := Aside0.mk ah; clear ah; have H' := Aside0.mk H; clear H; obtain ⟨Ao10, ae, ay⟩ := Kd.R_slice a4.out; subst ay
     go_wp2_with (first | ((with_reducible refine gc 144 rfl ?_); refine gl (some 15) _ (#[.int .i64 a8]) Tryd.func144 ?_; (with_reducible refine (laws_markText.calls k1 a8 ab _ A4.out).mono ?_); rintro e ac ⟨rfl, hb⟩; refine ⟨_, rfl, ?_⟩; refine Ya3 (Kd.R_below (kr a4.out) hb) (Kept.below (S := (fun k_ => P0_ k_)) (by repeat (first | (with_reducible first | exact HK.out | apply Kept.alloc | apply Kept.drewN | apply Kept.drew) | exact HK.out)) hb) (below_step (be HB.out) hb) ?_; clear a4 HK HB; intro a4 HK HB; (try clear hb); (try clear hb2); (try clear hk); (try clear hi); have p6 : 0 ≤ (a2 : Int) := oda; have q6 : (a2 : Int) < ((a3.length : Int) : Int) := oda; obtain ⟨a5, co6, eo6, gb6, gl6, cl6, HG6⟩ := Kd.R_form a4.out (by omega); (first | cases eo6 | (injection eo6 with ea_ en_ ec_; (first | subst ea_ | (injection ea_ with ea_; subst ea_)); subst ec_; clear en_)); have aj := Aside0.mk gb6; have GG6 := Aside0.mk HG6; clear gb6 gl6 HG6; have HMgo6 := Aside0.mk (show (P0_ a5 ∨ w.heap.size ≤ a5) from (a4.out.1 _ rfl)); obtain ⟨ce6, hcl6, hM6, hcc6, hfr6⟩ := Kd.R_elem a4.out z37 (a2 : Int) p6 q6; obtain rfl := k37_openM hM6; have hx6_0 : ac.cell? ⟨a5, (a2 : Int).toNat * 3, none⟩ = some (.string ((rd_T37 a3 a2).f0)) := hcc6 0 _ rfl; have hx6_1 : ac.cell? ⟨a5, (a2 : Int).toNat * 3 + 1, none⟩ = some (.string ((rd_T37 a3 a2).f1)) := hcc6 1 _ rfl; have hx6_2 : ac.cell? ⟨a5, (a2 : Int).toNat * 3 + 2, none⟩ = some (.bool ((rd_T37 a3 a2).f2)) := hcc6 2 _ rfl; have hf6_0 : ac.frozen? ⟨a5, (a2 : Int).toNat * 3, none⟩ = false := hfr6 0; have hf6_1 : ac.frozen? ⟨a5, (a2 : Int).toNat * 3 + 1, none⟩ = false := hfr6 1; have hf6_2 : ac.frozen? ⟨a5, (a2 : Int).toNat * 3 + 2, none⟩ = false := hfr6 2; (try clear hM6); clear hcl6 hcc6 hfr6; replace p6 := eq_true p6; replace q6 := eq_true q6; have ap := Aside0.mk (show Kd.R k37 37 ac w0.heap.size (fun k_ => (P0_ k_ ∨ w.heap.size ≤ k_)) (.slice (some ⟨a5, 0, none⟩) a3.length ae) a3 from (kr a4.out)); obtain ⟨ce12, hcl12, hM12, hcc12, hfr12⟩ := Kd.R_elem ap.out z37 (a2 : Int) (oda) (by have h_ : (a2 : Int) < ((a3.length : Int) : Int) := oda; first | exact h_ | (have e_ := (Kd.R_reads' a4.out).1; omega) | simpa using h_); obtain rfl := k37_openM hM12; have ak := Kd.R_seg ap.out (a2 : Int) (oda) (by have h_ : (a2 : Int) < ((a3.length : Int) : Int) := oda; first | exact h_ | (have e_ := (Kd.R_reads' a4.out).1; omega) | simpa using h_) (seg := [.string ab]) (j := 0) hcl12 hcc12 (show 1 ≤ 3 from by decide) (x' := (⟨ab, (rd_T37 a3 a2).f1, (rd_T37 a3 a2).f2⟩ : S37)) (k37_mkM _ _ _ (⟨ab, (rd_T37 a3 a2).f1, (rd_T37 a3 a2).f2⟩ : S37) ) (fun _ hk => hk); have az := hcc12 0 _ rfl; (try simp only [show (k37).sz = 3 from rfl, Nat.mul_one, Nat.add_zero] at az); have hf12_0 := hfr12 0; (try simp only [show (k37).sz = 3 from rfl, Nat.mul_one, Nat.add_zero] at hf12_0); (try clear hM12); clear hcl12 hcc12 hfr12) | ((with_reducible refine gate_store (t := 9) (p := 17) rfl ?_); refine store_event (t := 9) (p := 17) (v := ?vo_w13) (w1 := (ac.setCell ⟨a5, (a2 : Int).toNat * 3, none⟩ (.string ab))) ?hg ?ho ?hn ?hr ?_; (case ho => rfl); (case hg => rfl); (case hn => rfl); (case hr => first | (go_simp; done) | (go_simp; rfl)); intro al hw; have hg : ac.grownBy al (some a5) := (by rw [hw]; exact ak.2); have hp_ : Kd.R k37 37 al w0.heap.size (fun k_ => (P0_ k_ ∨ w.heap.size ≤ k_)) (.slice (some ⟨a5, 0, none⟩) a3.length ae) a7 := (by rw [hw, av.out]; exact ak.1); clear ak; refine Ya3 (hp_) ((by rw [hw]; exact below_set (HB.out) aj.out : Below w0.heap.size w0 al)) (Kept.of_grown (S := (fun k_ => P0_ k_)) hg (by repeat (first | (with_reducible first | exact HK.out | apply Kept.alloc | apply Kept.drewN | apply Kept.drew) | exact HK.out)) (fun k_ e_ => (a4.out.1 k_ e_))) ?_; clear a4 HB HK; intro a4 HB HK; clear hg hw hp_) | ((with_reducible refine gc 144 rfl ?_); refine gl (some 23) _ (#[.int .i64 (wrap64 (a8 + 1))]) Tryd.func144 ?_; (with_reducible refine (laws_markText.calls k1 (wrap64 (a8 + 1)) a9 _ A7.out).mono ?_); rintro e ad ⟨rfl, hb⟩; refine ⟨_, rfl, ?_⟩; refine Ya3 (Kd.R_below (kr a4.out) hb) (Kept.below (S := (fun k_ => P0_ k_)) (by repeat (first | (with_reducible first | exact HK.out | apply Kept.alloc | apply Kept.drewN | apply Kept.drew) | exact HK.out)) hb) (below_step (be HB.out) hb) ?_; clear a4 HK HB; intro a4 HK HB; (try clear hb); (try clear hb2); (try clear hk); (try clear hi); have p8 : 0 ≤ (a2 : Int) := oda; have q8 : (a2 : Int) < ((a3.length : Int) : Int) := oda; obtain ⟨ce8, hcl8, hM8, hcc8, hfr8⟩ := Kd.R_elem a4.out z37 (a2 : Int) p8 q8; obtain rfl := k37_openM hM8; have hx8_0 : ad.cell? ⟨a5, (a2 : Int).toNat * 3, none⟩ = some (.string ((rd_T37 a7 a2).f0)) := hcc8 0 _ rfl; have hx8_1 : ad.cell? ⟨a5, (a2 : Int).toNat * 3 + 1, none⟩ = some (.string ((rd_T37 a7 a2).f1)) := hcc8 1 _ rfl; have hx8_2 : ad.cell? ⟨a5, (a2 : Int).toNat * 3 + 2, none⟩ = some (.bool ((rd_T37 a7 a2).f2)) := hcc8 2 _ rfl; have hf8_0 : ad.frozen? ⟨a5, (a2 : Int).toNat * 3, none⟩ = false := hfr8 0; have hf8_1 : ad.frozen? ⟨a5, (a2 : Int).toNat * 3 + 1, none⟩ = false := hfr8 1; have hf8_2 : ad.frozen? ⟨a5, (a2 : Int).toNat * 3 + 2, none⟩ = false := hfr8 2; (try clear hM8); clear hcl8 hcc8 hfr8; replace p8 := eq_true p8; replace q8 := eq_true q8; have aq := Aside0.mk (show Kd.R k37 37 ad w0.heap.size (fun k_ => (P0_ k_ ∨ w.heap.size ≤ k_)) (.slice (some ⟨a5, 0, none⟩) a3.length ae) a7 from (kr a4.out)); obtain ⟨ce15, hcl15, hM15, hcc15, hfr15⟩ := Kd.R_elem aq.out z37 (a2 : Int) (oda) (by have h_ : (a2 : Int) < ((a3.length : Int) : Int) := oda; first | exact h_ | (have e_ := (Kd.R_reads' a4.out).1; omega) | simpa using h_); obtain rfl := k37_openM hM15; have am := Kd.R_seg aq.out (a2 : Int) (oda) (by have h_ : (a2 : Int) < ((a3.length : Int) : Int) := oda; first | exact h_ | (have e_ := (Kd.R_reads' a4.out).1; omega) | simpa using h_) (seg := [.string a9]) (j := 1) hcl15 hcc15 (show 2 ≤ 3 from by decide) (x' := (⟨(rd_T37 a7 a2).f0, a9, (rd_T37 a7 a2).f2⟩ : S37)) (k37_mkM _ _ _ (⟨(rd_T37 a7 a2).f0, a9, (rd_T37 a7 a2).f2⟩ : S37) ) (fun _ hk => hk); have aA := hcc15 1 _ rfl; (try simp only [show (k37).sz = 3 from rfl, Nat.mul_one, Nat.add_zero] at aA); have hf15_1 := hfr15 1; (try simp only [show (k37).sz = 3 from rfl, Nat.mul_one, Nat.add_zero] at hf15_1); (try clear hM15); clear hcl15 hcc15 hfr15) | ((with_reducible refine gate_store (t := 9) (p := 25) rfl ?_); refine store_event (t := 9) (p := 25) (v := ?vo_w16) (w1 := (ad.setCell ⟨a5, (a2 : Int).toNat * 3 + 1, none⟩ (.string a9))) ?hg ?ho ?hn ?hr ?_; (case ho => rfl); (case hg => rfl); (case hn => rfl); (case hr => first | (go_simp; done) | (go_simp; rfl)); intro aa hw; have hg : ad.grownBy aa (some a5) := (by rw [hw]; exact am.2); have hp_ : Kd.R k37 37 aa w0.heap.size (fun k_ => (P0_ k_ ∨ w.heap.size ≤ k_)) (.slice (some ⟨a5, 0, none⟩) a3.length ae) a6 := (by rw [hw, aw.out]; exact am.1); clear am; refine Ya3 (hp_) ((by rw [hw]; exact below_set (HB.out) aj.out : Below w0.heap.size w0 aa)) (Kept.of_grown (S := (fun k_ => P0_ k_)) hg (by repeat (first | (with_reducible first | exact HK.out | apply Kept.alloc | apply Kept.drewN | apply Kept.drew) | exact HK.out)) (fun k_ e_ => (a4.out.1 k_ e_))) ?_; clear a4 HB HK; intro a4 HB HK; clear hg hw hp_; have p9 : 0 ≤ (a2 : Int) := oda; have q9 : (a2 : Int) < ((a3.length : Int) : Int) := oda; obtain ⟨ce9, hcl9, hM9, hcc9, hfr9⟩ := Kd.R_elem a4.out z37 (a2 : Int) p9 q9; obtain rfl := k37_openM hM9; have hx9_0 : aa.cell? ⟨a5, (a2 : Int).toNat * 3, none⟩ = some (.string ((rd_T37 a6 a2).f0)) := hcc9 0 _ rfl; have hx9_1 : aa.cell? ⟨a5, (a2 : Int).toNat * 3 + 1, none⟩ = some (.string ((rd_T37 a6 a2).f1)) := hcc9 1 _ rfl; have hx9_2 : aa.cell? ⟨a5, (a2 : Int).toNat * 3 + 2, none⟩ = some (.bool ((rd_T37 a6 a2).f2)) := hcc9 2 _ rfl; have hf9_0 : aa.frozen? ⟨a5, (a2 : Int).toNat * 3, none⟩ = false := hfr9 0; have hf9_1 : aa.frozen? ⟨a5, (a2 : Int).toNat * 3 + 1, none⟩ = false := hfr9 1; have hf9_2 : aa.frozen? ⟨a5, (a2 : Int).toNat * 3 + 2, none⟩ = false := hfr9 2; (try clear hM9); clear hcl9 hcc9 hfr9; replace p9 := eq_true p9; replace q9 := eq_true q9; have ar := Aside0.mk (show Kd.R k37 37 aa w0.heap.size (fun k_ => (P0_ k_ ∨ w.heap.size ≤ k_)) (.slice (some ⟨a5, 0, none⟩) a3.length ae) a6 from (kr a4.out)); obtain ⟨ce17, hcl17, hM17, hcc17, hfr17⟩ := Kd.R_elem ar.out z37 (a2 : Int) (oda) (by have h_ : (a2 : Int) < ((a3.length : Int) : Int) := oda; first | exact h_ | (have e_ := (Kd.R_reads' a4.out).1; omega) | simpa using h_); obtain rfl := k37_openM hM17; have an := Kd.R_seg ar.out (a2 : Int) (oda) (by have h_ : (a2 : Int) < ((a3.length : Int) : Int) := oda; first | exact h_ | (have e_ := (Kd.R_reads' a4.out).1; omega) | simpa using h_) (seg := [.bool ((Int.tmod (wrap64 ((wrap64 (a8 + 1)) + 1)) 3) == 0)]) (j := 2) hcl17 hcc17 (show 3 ≤ 3 from by decide) (x' := (⟨(rd_T37 a6 a2).f0, (rd_T37 a6 a2).f1, ((Int.tmod (wrap64 ((wrap64 (a8 + 1)) + 1)) 3) == 0)⟩ : S37)) (k37_mkM _ _ _ (⟨(rd_T37 a6 a2).f0, (rd_T37 a6 a2).f1, ((Int.tmod (wrap64 ((wrap64 (a8 + 1)) + 1)) 3) == 0)⟩ : S37) ) (fun _ hk => hk); have aB := hcc17 2 _ rfl; (try simp only [show (k37).sz = 3 from rfl, Nat.mul_one, Nat.add_zero] at aB); have hf17_2 := hfr17 2; (try simp only [show (k37).sz = 3 from rfl, Nat.mul_one, Nat.add_zero] at hf17_2); (try clear hM17); clear hcl17 hcc17 hfr17) | ((with_reducible refine gate_store (t := 4) (p := 34) rfl ?_); refine store_event (t := 4) (p := 34) (v := ?vo_w18) (w1 := (aa.setCell ⟨a5, (a2 : Int).toNat * 3 + 2, none⟩ (.bool ((Int.tmod (wrap64 ((wrap64 (a8 + 1)) + 1)) 3) == 0)))) ?hg ?ho ?hn ?hr ?_; (case ho => rfl); (case hg => rfl); (case hn => rfl); (case hr => first | (go_simp; done) | (go_simp; rfl)); intro ao hw; have hg : aa.grownBy ao (some a5) := (by rw [hw]; exact an.2); have hp_ : Kd.R k37 37 ao w0.heap.size (fun k_ => (P0_ k_ ∨ w.heap.size ≤ k_)) (.slice (some ⟨a5, 0, none⟩) a3.length ae) ai := (by rw [hw, ax.out]; exact an.1); clear an; refine Ya3 (hp_) ((by rw [hw]; exact below_set (HB.out) aj.out : Below w0.heap.size w0 ao)) (Kept.of_grown (S := (fun k_ => P0_ k_)) hg (by repeat (first | (with_reducible first | exact HK.out | apply Kept.alloc | apply Kept.drewN | apply Kept.drew) | exact HK.out)) (fun k_ e_ => (a4.out.1 k_ e_))) ?_; clear a4 HB HK; intro a4 HB HK; clear hg hw hp_))
     go_roundg k1
     case measure => have := HK1.out; omega
     case rel => exact ⟨(ai), (wrap64 ((wrap64 ((wrap64 (a8 + 1)) + 1)) + 1)), (wrap64 (a2 + 1)), Ye1, Ye1, H', ⟨by have := HK1.out; omega⟩, ⟨kr a4.out⟩, ⟨by repeat (first | (with_reducible first | exact HK.out | apply Kept.alloc | apply Kept.drewN | apply Kept.drew) | exact HK.out)⟩, ⟨be HB.out⟩⟩
    ·rw [if_neg c5] at H
     exact absurd H (by simp)
   ·rw [if_neg c3] at H
    have au : decide (a2 < (a3.length : Int)) = false := decide_eq_false c3; clear c3; simp only [Option.some.injEq, Prod.mk.injEq] at H; obtain ⟨rfl, rfl⟩ := H; obtain ⟨Ao19, co19, aC⟩ := Kd.R_slice a4.out; subst aC
    go_wp2
    go_ret
    exact ⟨Ye2, kr a4.out, be HB.out, by repeat (first | (with_reducible first | exact HK.out | apply Kept.alloc | apply Kept.drewN | apply Kept.drew) | exact HK.out)⟩

end Go.Proofs.YtgnmledjkamojaaDoor.P


namespace Go.Proofs.YtgnmledjkamojaaDoor.P
open Go.RowKit Go.Proofs.YtgnmledjkamojaaDoorW.PrintWords Go.Proofs.YtgnmledjkamojaaDoorW.PrintLast Go.Proofs.YtgnmledjkamojaaDoorW.PrintMore
attribute [local go_sem] max2_int min2_int max_two min_two max_three min_three max_four min_four
set_option linter.unusedVariables false
set_option linter.unusedSimpArgs false

/-! ### laws_markTree: function 18 -/
def laws_markTree.f (k : Nat) (a2 : List (S37)) (a1 : Int) : Option (Int × (List (S37))) := (laws_markEntryS.f k a2 a1).bind fun bt248 => (some (bt248.1, bt248.2))
theorem laws_markTree.mono : ∀ a0 a1 k, LeO (laws_markTree.f k a0 a1) (laws_markTree.f (k + 1) a0 a1) := by
 intro a0 a1 k
 unfold laws_markTree.f
 repeat' first
   | (with_reducible exact laws_markEntryS.mono _ _ _)
   | (with_reducible exact LeO.refl _)
   | (with_reducible exact LeO.none _)
   | (with_reducible refine LeO.ite ?_ ?_)
   | (with_reducible refine LeO.bind ?_ (fun _ => ?_))
   | exact laws_markEntryS.mono _ _ _
   | exact LeO.none _
   | refine LeO.ite ?_ ?_
   | refine LeO.bind ?_ (fun _ => ?_)
set_option maxHeartbeats 8000000 in
set_option maxRecDepth 100000 in
theorem laws_markTree.calls (k : Nat) (P0_0_ : Nat → Prop) (u9000_ : Value) (a2 : List (S37)) (a1 : Int) (r1 : Int) (r2 : List (S37)) (w0 w : World) (hB : Below w0.heap.size w0 w) (ho0_0 : Kd.R k37 37 w w0.heap.size P0_0_ u9000_ a2) (h : laws_markTree.f k a2 a1 = some (r1, r2)) :
  Calls Tryd.prog 18 #[.agg #[u9000_], .int .i64 a1] w fun e w' => e = .returned (.int .i64 r1) ∧ Kd.R k37 37 w' w0.heap.size (fun k_ => (P0_0_ k_ ∨ w.heap.size ≤ k_)) u9000_ r2 ∧ Below w0.heap.size w0 w' ∧ Kept w w' (fun k_ => P0_0_ k_) := by
 have hu28 := Tryd.underlying28; have a3 := Aside0.mk (show Kd.R k37 37 w w0.heap.size (fun k_ => (P0_0_ k_ ∨ w.heap.size ≤ k_)) u9000_ a2 from Kd.R_mono ho0_0 (fun k_ hk => (.inl hk))); have HK := Aside0.mk (Kept.refl w (fun k_ => P0_0_ k_)); have HW0 := Aside0.mk hB.size; have HB := Aside0.mk hB; clear hB; have H : ((laws_markEntryS.f k a2 a1).bind fun bt248 => (some (bt248.1, bt248.2))) = some (r1, r2) := h; clear h; replace H := Option.bind_eq_some_iff.mp H; obtain ⟨⟨a7, a8⟩, A30, H⟩ := H; replace H : (some (a7, a8)) = some (r1, r2) := H; have A3 := Aside0.mk A30; clear A30; simp only [Option.some.injEq, Prod.mk.injEq] at H; obtain ⟨rfl, rfl⟩ := H; obtain ⟨a5, a6, eo4⟩ := Kd.R_slice a3.out; subst eo4
 go_enter Tryd.func18, Tryd.ntmps18
 go_wp2_with (first | ((with_reducible refine gd 2 rfl ?_); refine bx 2 28 (#[.slice a5 a2.length a6]) ?_; intro a9 hg w5 hbox hb; refine Ya6 (Kd.R_below (kr a3.out) hb) (Kept.below (S := (fun k_ => P0_0_ k_)) (by repeat (first | (with_reducible first | exact HK.out | apply Kept.alloc | apply Kept.drewN | apply Kept.drew) | exact HK.out)) hb) (below_step (be HB.out) hb) (hbox) ((by rw [hg]; exact (by first | exact HK.out.1 | exact (show Kept w _ (fun k_ => P0_0_ k_) from by repeat (first | (with_reducible first | exact HK.out | apply Kept.alloc | apply Kept.drewN | apply Kept.drew) | exact HK.out)).1) : w.heap.size ≤ a9)) ((by rw [hg]; exact (below_size (be HB.out)) : w0.heap.size ≤ a9)) ?_; clear a3 HK HB; intro a3 HK HB a4 aa GE247; clear hb hbox hg; have ⟨ab, ac⟩ := Yc1 a4.out) | ((with_reducible refine gc 73 rfl ?_); refine gl (some 8) _ (#[.slice a5 a2.length a6, .int .i64 a1]) Tryd.func73 ?_; (with_reducible refine (laws_markEntryS.calls k (fun k_ => some k_ = (.slice a5 a2.length a6 : Value).ownBlock) (.slice a5 a2.length a6) a2 a1 a7 a8 w0 _ ?side1 ?side2 A3.out).mono ?_); (case side1 => exact bf HB.out); (case side2 => exact Kd.R_tight rfl a3.out); rintro e w7 ⟨rfl, hy0, hb, hkp⟩; refine ⟨_, rfl, ?_⟩; refine Ya4 (Kd.R_reok rfl hy0 (fun k_ e_ => a3.out.1 k_ e_)) (blk_kept (bk a4.out) hkp (fun hs_ => (fun e_ => (Kd.R_ne a3.out a4.out (by decide)) e_) hs_)) (Kept.then_ (S := (fun k_ => P0_0_ k_)) (by repeat (first | (with_reducible first | exact HK.out | apply Kept.alloc | apply Kept.drewN | apply Kept.drew | refine Kept.setCell ?_ (.inr aa.out) _) | exact HK.out)) hkp (fun k_ hs_ => (fun e_ => (a3.out.1 k_ e_.symm)) hs_)) (hb) ?_; clear a3 a4 HK HB; intro a3 a4 HK HB; (try clear hb); (try clear hkp); (try clear hy0)))
 go_ret
 exact ⟨Ye2, kr a3.out, (bf HB.out), by repeat (first | (with_reducible first | exact HK.out | apply Kept.alloc | apply Kept.drewN | apply Kept.drew | refine Kept.setCell ?_ (.inr aa.out) _) | exact HK.out)⟩

end Go.Proofs.YtgnmledjkamojaaDoor.P


namespace Go.Proofs.YtgnmledjkamojaaDoor.P
open Go.RowKit Go.Proofs.YtgnmledjkamojaaDoorW.PrintWords Go.Proofs.YtgnmledjkamojaaDoorW.PrintLast Go.Proofs.YtgnmledjkamojaaDoorW.PrintMore
attribute [local go_sem] max2_int min2_int max_two min_two max_three min_three max_four min_four
set_option linter.unusedVariables false
set_option linter.unusedSimpArgs false

/-! ### laws_eqFile: function 182 -/
def laws_eqFile.f (a0_0 : Bool) (a0_1 : ByteArray) (a0_2 : Bool) (a1_0 : Bool) (a1_1 : ByteArray) (a1_2 : Bool) : Option (Bool) := if (a0_0 != a1_0) = true then (some false) else (if a0_1.toList = a1_1.toList then (if (a0_2 != a1_2) = true then (some false) else (some true)) else (some false))
set_option maxHeartbeats 8000000 in
set_option maxRecDepth 100000 in
theorem laws_eqFile.calls (a0_0 : Bool) (a0_1 : ByteArray) (a0_2 : Bool) (a1_0 : Bool) (a1_1 : ByteArray) (a1_2 : Bool) (r : Bool) (w : World) (h : laws_eqFile.f a0_0 a0_1 a0_2 a1_0 a1_1 a1_2 = some r) :
  Calls Tryd.prog 182 #[.agg #[.bool a0_0, .string a0_1, .bool a0_2], .agg #[.bool a1_0, .string a1_1, .bool a1_2]] w fun e w' => e = .returned (.bool r) ∧ Below w.heap.size w w' := by
 have hu122 := Tryd.underlying122; have HB := Aside0.mk (Below.refl w.heap.size w); have H : (if (a0_0 != a1_0) = true then (some false) else (if a0_1.toList = a1_1.toList then (if (a0_2 != a1_2) = true then (some false) else (some true)) else (some false))) = some r := h; clear h
 by_cases c3 : (a0_0 != a1_0) = true
 ·rw [if_pos c3] at H
  have a7 : (a0_0 != a1_0) = true := c3; (try (have al : decide (a0_0 = a1_0) = false := by simpa using c3)); (try (have am : (a0_0 == a1_0) = false := by simpa using c3)); (try (have c3b3 : ¬ (a0_0 = a1_0) := by simpa using c3)); clear c3; obtain rfl := Option.some.inj H
  go_enter Tryd.func182, Tryd.ntmps182
  go_wp2_with (first | ((with_reducible refine gd 2 rfl ?_); refine bx 2 122 (#[.bool a0_0, .string a0_1, .bool a0_2]) ?_; intro a8 hg w4 hbox hb; refine Ya4 (below_step (be HB.out) hb) (hbox) (bs hg (be HB.out)) (bs hg (be HB.out)) ?_; clear HB; intro HB a0 a9 aa; clear hb hbox hg) | ((with_reducible refine gd 3 rfl ?_); refine bx 3 122 (#[.bool a1_0, .string a1_1, .bool a1_2]) ?_; intro ab hg w5 hbox hb; refine Ya7 (bb a0 hb) (below_step (bf HB.out) hb) (hbox) (bs hg (bf HB.out)) (bs hg (bf HB.out)) (bl hg a0) (br hg a0) ?_; clear a0 HB; intro a0 HB a3 ac ad a4 a5; clear hb hbox hg; have an := a4.out; have ao := a5.out; have ⟨af, ag, ah, ai, aj, ak⟩ := Yc3 a0.out; have ⟨aH, aI, aJ, aK, aL, aM⟩ := Yc3 a3.out))
  go_ret
  exact ⟨Ye2, (bf HB.out)⟩
 ·rw [if_neg c3] at H
  have a7 : (a0_0 != a1_0) = false := by simpa using c3
  (try (have al : decide (a0_0 = a1_0) = true := by simpa using c3)); (try (have am : (a0_0 == a1_0) = true := by simpa using c3)); clear c3
  by_cases c9 : a0_1.toList = a1_1.toList
  ·rw [if_pos c9] at H
   have ap : (a0_1.toList == a1_1.toList) = true := beq_iff_eq.mpr c9; have aq : (a0_1.toList != a1_1.toList) = false := bne_eq_false_iff_eq.mpr c9; clear c9
   by_cases c10 : (a0_2 != a1_2) = true
   ·rw [if_pos c10] at H
    have ar : (a0_2 != a1_2) = true := c10; (try (have au : decide (a0_2 = a1_2) = false := by simpa using c10)); (try (have av : (a0_2 == a1_2) = false := by simpa using c10)); (try (have c10b3 : ¬ (a0_2 = a1_2) := by simpa using c10)); clear c10; obtain rfl := Option.some.inj H
    go_enter Tryd.func182, Tryd.ntmps182
    go_wp2_with (first | ((with_reducible refine gd 2 rfl ?_); refine bx 2 122 (#[.bool a0_0, .string a0_1, .bool a0_2]) ?_; intro a8 hg w11 hbox hb; refine Ya4 (below_step (be HB.out) hb) (hbox) (bs hg (be HB.out)) (bs hg (be HB.out)) ?_; clear HB; intro HB a0 a9 aa; clear hb hbox hg) | ((with_reducible refine gd 3 rfl ?_); refine bx 3 122 (#[.bool a1_0, .string a1_1, .bool a1_2]) ?_; intro ab hg w12 hbox hb; refine Ya7 (bb a0 hb) (below_step (bf HB.out) hb) (hbox) (bs hg (bf HB.out)) (bs hg (bf HB.out)) (bl hg a0) (br hg a0) ?_; clear a0 HB; intro a0 HB a3 ac ad a4 a5; clear hb hbox hg; have hnb13 := a4.out; have hnc13 := a5.out; have ⟨aN, aO, aP, aQ, aR, aS⟩ := Yc3 a0.out; have ⟨aT, aU, aV, aW, aX, aY⟩ := Yc3 a3.out))
    go_ret
    exact ⟨Ye2, (bf HB.out)⟩
   ·rw [if_neg c10] at H
    have ar : (a0_2 != a1_2) = false := by simpa using c10
    (try (have au : decide (a0_2 = a1_2) = true := by simpa using c10)); (try (have av : (a0_2 == a1_2) = true := by simpa using c10)); clear c10; obtain rfl := Option.some.inj H
    go_enter Tryd.func182, Tryd.ntmps182
    go_wp2_with (first | ((with_reducible refine gd 2 rfl ?_); refine bx 2 122 (#[.bool a0_0, .string a0_1, .bool a0_2]) ?_; intro a8 hg w16 hbox hb; refine Ya4 (below_step (be HB.out) hb) (hbox) (bs hg (be HB.out)) (bs hg (be HB.out)) ?_; clear HB; intro HB a0 a9 aa; clear hb hbox hg) | ((with_reducible refine gd 3 rfl ?_); refine bx 3 122 (#[.bool a1_0, .string a1_1, .bool a1_2]) ?_; intro ab hg w17 hbox hb; refine Ya7 (bb a0 hb) (below_step (bf HB.out) hb) (hbox) (bs hg (bf HB.out)) (bs hg (bf HB.out)) (bl hg a0) (br hg a0) ?_; clear a0 HB; intro a0 HB a3 ac ad a4 a5; clear hb hbox hg; have hnb18 := a4.out; have hnc18 := a5.out; have ⟨aZ, b0, b1, b2, b3, b4⟩ := Yc3 a0.out; have ⟨b5, b6, b7, b8, b9, ba⟩ := Yc3 a3.out))
    go_ret
    exact ⟨Ye2, (bf HB.out)⟩
  ·rw [if_neg c9] at H
   have ap : (a0_1.toList == a1_1.toList) = false := beq_eq_false_iff_ne.mpr c9; have aq : (a0_1.toList != a1_1.toList) = true := bne_iff_ne.mpr c9; obtain rfl := Option.some.inj H
   go_enter Tryd.func182, Tryd.ntmps182
   go_wp2_with (first | ((with_reducible refine gd 2 rfl ?_); refine bx 2 122 (#[.bool a0_0, .string a0_1, .bool a0_2]) ?_; intro a8 hg w21 hbox hb; refine Ya4 (below_step (be HB.out) hb) (hbox) (bs hg (be HB.out)) (bs hg (be HB.out)) ?_; clear HB; intro HB a0 a9 aa; clear hb hbox hg) | ((with_reducible refine gd 3 rfl ?_); refine bx 3 122 (#[.bool a1_0, .string a1_1, .bool a1_2]) ?_; intro ab hg w22 hbox hb; refine Ya7 (bb a0 hb) (below_step (bf HB.out) hb) (hbox) (bs hg (bf HB.out)) (bs hg (bf HB.out)) (bl hg a0) (br hg a0) ?_; clear a0 HB; intro a0 HB a3 ac ad a4 a5; clear hb hbox hg; have hnb23 := a4.out; have hnc23 := a5.out; have ⟨bd, bg, bh, bi, bj, bm⟩ := Yc3 a0.out; have ⟨bn, bo, bq, bu, bv, bw⟩ := Yc3 a3.out))
   go_ret
   exact ⟨Ye2, (bf HB.out)⟩

/-! ### laws_szFile: function 183 -/
def laws_szFile.f (a0_0 : Bool) (a0_1 : ByteArray) (a0_2 : Bool) (a1 : Int) : Option (Int) := if (wrap64 (a1 - (a0_1.size : Int))) < 0 then (some (-1)) else (some (wrap64 (a1 - (a0_1.size : Int))))
set_option maxHeartbeats 8000000 in
set_option maxRecDepth 100000 in
theorem laws_szFile.calls (a0_0 : Bool) (a0_1 : ByteArray) (a0_2 : Bool) (a1 : Int) (r : Int) (w : World) (h : laws_szFile.f a0_0 a0_1 a0_2 a1 = some r) :
  Calls Tryd.prog 183 #[.agg #[.bool a0_0, .string a0_1, .bool a0_2], .int .i64 a1] w fun e w' => e = .returned (.int .i64 r) ∧ Below w.heap.size w w' := by
 have hu188 := Tryd.underlying188; have HB := Aside0.mk (Below.refl w.heap.size w); have H : (if (wrap64 (a1 - (a0_1.size : Int))) < 0 then (some (-1)) else (some (wrap64 (a1 - (a0_1.size : Int))))) = some r := h; clear h
 by_cases c3 : (wrap64 (a1 - (a0_1.size : Int))) < 0
 ·rw [if_pos c3] at H
  have a7 : decide ((wrap64 (a1 - (a0_1.size : Int))) < 0) = true := decide_eq_true c3; clear c3; obtain rfl := Option.some.inj H
  go_enter Tryd.func183, Tryd.ntmps183
  go_wp2_with (first | ((with_reducible refine gd 2 rfl ?_); refine bx 2 188 (#[.bool a0_0, .string a0_1, .bool a0_2]) ?_; intro aw hg w4 hbox hb; refine Ya4 (below_step (be HB.out) hb) (hbox) (bs hg (be HB.out)) (bs hg (be HB.out)) ?_; clear HB; intro HB ae ax ay; clear hb hbox hg; have ⟨bz, bA, bB, bC, bD, bE⟩ := Yc3 ae.out))
  go_ret
  exact ⟨Ye2, (bf HB.out)⟩
 ·rw [if_neg c3] at H
  have a7 : decide ((wrap64 (a1 - (a0_1.size : Int))) < 0) = false := decide_eq_false c3; clear c3; obtain rfl := Option.some.inj H
  go_enter Tryd.func183, Tryd.ntmps183
  go_wp2_with (first | ((with_reducible refine gd 2 rfl ?_); refine bx 2 188 (#[.bool a0_0, .string a0_1, .bool a0_2]) ?_; intro aw hg w6 hbox hb; refine Ya4 (below_step (be HB.out) hb) (hbox) (bs hg (be HB.out)) (bs hg (be HB.out)) ?_; clear HB; intro HB ae ax ay; clear hb hbox hg; have ⟨af, ag, ah, ai, aj, ak⟩ := Yc3 ae.out))
  go_ret
  exact ⟨Ye2, (bf HB.out)⟩

/-! ### laws_toFile: function 184 -/
def laws_toFile.f (a0_0 : Bool) (a0_1 : ByteArray) (a0_2 : Bool) : Option (Bool × ByteArray × Bool) := some (a0_0, a0_1, a0_2)
set_option maxHeartbeats 8000000 in
set_option maxRecDepth 100000 in
theorem laws_toFile.calls (a0_0 : Bool) (a0_1 : ByteArray) (a0_2 : Bool) (r1 : Bool) (r2 : ByteArray) (r3 : Bool) (w : World) (h : laws_toFile.f a0_0 a0_1 a0_2 = some (r1, r2, r3)) :
  Calls Tryd.prog 184 #[.agg #[.bool a0_0, .string a0_1, .bool a0_2]] w fun e w' => e = .returned (.agg #[.bool r1, .string r2, .bool r3]) ∧ Below w.heap.size w w' := by
 have hu188 := Tryd.underlying188; have hu122 := Tryd.underlying122; have HB := Aside0.mk (Below.refl w.heap.size w); have H : (some (a0_0, a0_1, a0_2)) = some (r1, r2, r3) := h; clear h; simp only [Option.some.injEq, Prod.mk.injEq] at H; obtain ⟨rfl, rfl, rfl⟩ := H
 go_enter Tryd.func184, Tryd.ntmps184
 go_wp2_with (first | ((with_reducible refine gd 1 rfl ?_); refine bx 1 188 (#[.bool a0_0, .string a0_1, .bool a0_2]) ?_; intro bF hg w2 hbox hb; refine Ya4 (below_step (be HB.out) hb) (hbox) (bs hg (be HB.out)) (bs hg (be HB.out)) ?_; clear HB; intro HB a2 bG bH; clear hb hbox hg) | ((with_reducible refine gd 2 rfl ?_); refine bx 2 122 (#[.bool false, .string (⟨#[]⟩ : ByteArray), .bool false]) ?_; intro az hg w3 hbox hb; refine Ya7 (bb a2 hb) (below_step (bf HB.out) hb) (hbox) (bs hg (bf HB.out)) (bs hg (bf HB.out)) (bl hg a2) (br hg a2) ?_; clear a2 HB; intro a2 HB a6 bI bJ aA aB; clear hb hbox hg) | ((with_reducible refine gd 3 rfl ?_); refine bx 3 122 (#[.bool false, .string (⟨#[]⟩ : ByteArray), .bool false]) ?_; intro bK hg w4 hbox hb; refine Ya10 (bb a2 hb) (bb a6 hb) (below_step (bf HB.out) hb) (hbox) (bs hg (bf HB.out)) (bs hg (bf HB.out)) (bl hg a2) (br hg a2) (bl hg a6) (br hg a6) ?_; clear a2 a6 HB; intro a2 a6 HB aC bL bM aD aE aF aG; clear hb hbox hg; have hnb5 := aA.out; have hnc5 := aB.out; have an := aD.out; have ao := aE.out; have ⟨af, ag, ah, ai, aj, ak⟩ := Yc3 a2.out; have hnb8 := aG.out; have hnc8 := aF.out; have ⟨bN, bO, bP, bQ, bR, bS⟩ := Yc3 aC.out; have ⟨bT, bU, bV, bW, bX, bY⟩ := Yc3 a6.out))
 refine bodyPost_ret (results_cell_row rfl _ _ az 122 #[.bool a0_0, .string a0_1, .bool a0_2] (0, 0) _ rfl (bp a6.out) Tryd.underlying122 rfl (by kernel_rfl)) rfl ?_; exact ⟨Ye2, (bf HB.out)⟩

end Go.Proofs.YtgnmledjkamojaaDoor.P


namespace Go.Proofs.YtgnmledjkamojaaDoor.P
open Go.RowKit Go.Proofs.YtgnmledjkamojaaDoorW.PrintWords Go.Proofs.YtgnmledjkamojaaDoorW.PrintLast Go.Proofs.YtgnmledjkamojaaDoorW.PrintMore
attribute [local go_sem] max2_int min2_int max_two min_two max_three min_three max_four min_four
set_option linter.unusedVariables false
set_option linter.unusedSimpArgs false

/-! ### laws_eqChange: function 155 -/
def laws_eqChange.f (a0_0 : ByteArray) (a0_1 : Bool) (a0_2 : ByteArray) (a0_3 : Bool) (a0_4 : Bool) (a0_5 : ByteArray) (a0_6 : Bool) (a1_0 : ByteArray) (a1_1 : Bool) (a1_2 : ByteArray) (a1_3 : Bool) (a1_4 : Bool) (a1_5 : ByteArray) (a1_6 : Bool) : Option (Bool) := if a0_0.toList = a1_0.toList then ((laws_eqFile.f a0_1 a0_2 a0_3 a1_1 a1_2 a1_3).bind fun aU => (if aU = true then ((laws_eqFile.f a0_4 a0_5 a0_6 a1_4 a1_5 a1_6).bind fun aj => (if aj = true then (some true) else (some false))) else (some false))) else (some false)
set_option maxHeartbeats 8000000 in
set_option maxRecDepth 100000 in
theorem laws_eqChange.calls (a0_0 : ByteArray) (a0_1 : Bool) (a0_2 : ByteArray) (a0_3 : Bool) (a0_4 : Bool) (a0_5 : ByteArray) (a0_6 : Bool) (a1_0 : ByteArray) (a1_1 : Bool) (a1_2 : ByteArray) (a1_3 : Bool) (a1_4 : Bool) (a1_5 : ByteArray) (a1_6 : Bool) (r : Bool) (w : World) (h : laws_eqChange.f a0_0 a0_1 a0_2 a0_3 a0_4 a0_5 a0_6 a1_0 a1_1 a1_2 a1_3 a1_4 a1_5 a1_6 = some r) :
  Calls Tryd.prog 155 #[.agg #[.string a0_0, .bool a0_1, .string a0_2, .bool a0_3, .bool a0_4, .string a0_5, .bool a0_6], .agg #[.string a1_0, .bool a1_1, .string a1_2, .bool a1_3, .bool a1_4, .string a1_5, .bool a1_6]] w fun e w' => e = .returned (.bool r) ∧ Below w.heap.size w w' := by
 have hu125 := Tryd.underlying125; have hu122 := Tryd.underlying122; have HB := Aside0.mk (Below.refl w.heap.size w); have H : (if a0_0.toList = a1_0.toList then ((laws_eqFile.f a0_1 a0_2 a0_3 a1_1 a1_2 a1_3).bind fun aU => (if aU = true then ((laws_eqFile.f a0_4 a0_5 a0_6 a1_4 a1_5 a1_6).bind fun aj => (if aj = true then (some true) else (some false))) else (some false))) else (some false)) = some r := h; clear h
 by_cases c3 : a0_0.toList = a1_0.toList
 ·rw [if_pos c3] at H
  have ah : (a0_0.toList == a1_0.toList) = true := beq_iff_eq.mpr c3; have aV : (a0_0.toList != a1_0.toList) = false := bne_eq_false_iff_eq.mpr c3; clear c3; replace H := Option.bind_eq_some_iff.mp H; obtain ⟨aU, A40, H⟩ := H; replace H : (if aU = true then ((laws_eqFile.f a0_4 a0_5 a0_6 a1_4 a1_5 a1_6).bind fun aj => (if aj = true then (some true) else (some false))) else (some false)) = some r := H; have A4 := Aside0.mk A40; clear A40
  by_cases c5 : aU = true
  ·subst c5
   have H1 : ((laws_eqFile.f a0_4 a0_5 a0_6 a1_4 a1_5 a1_6).bind fun aj => (if aj = true then (some true) else (some false))) = some r := by rw [if_pos rfl] at H; exact H
   clear H; have H := H1; clear H1; replace H := Option.bind_eq_some_iff.mp H; obtain ⟨aj, aB, H⟩ := H; replace H : (if aj = true then (some true) else (some false)) = some r := H; have A6 := Aside0.mk aB; clear aB
   by_cases c7 : aj = true
   ·subst c7
    have H1 : (some true) = some r := by rw [if_pos rfl] at H; exact H
    clear H; have H := H1; clear H1; obtain rfl := Option.some.inj H
    go_enter Tryd.func155, Tryd.ntmps155
    go_wp2_with (first | ((with_reducible refine gd 2 rfl ?_); refine bx 2 125 (#[.string a0_0, .bool a0_1, .string a0_2, .bool a0_3, .bool a0_4, .string a0_5, .bool a0_6]) ?_; intro b5 hg w8 hbox hb; refine Ya4 (below_step (be HB.out) hb) (hbox) (bs hg (be HB.out)) (bs hg (be HB.out)) ?_; clear HB; intro HB a4 b6 b7; clear hb hbox hg) | ((with_reducible refine gd 3 rfl ?_); refine bx 3 125 (#[.string a1_0, .bool a1_1, .string a1_2, .bool a1_3, .bool a1_4, .string a1_5, .bool a1_6]) ?_; intro b8 hg w9 hbox hb; refine Ya7 (bb a4 hb) (below_step (bf HB.out) hb) (hbox) (bs hg (bf HB.out)) (bs hg (bf HB.out)) (bl hg a4) (br hg a4) ?_; clear a4 HB; intro a4 HB a7 b9 ba aC aD; clear hb hbox hg; have cc := aC.out; have cd := aD.out; have ⟨ce, cf, cg, ch, ci, cj, ck, cl, cm, cn, co, cp, cq, cr⟩ := Yc7 a4.out; have ⟨dE, dF, dG, dH, dI, dJ, dK, dL, dM, dN, dO, dP, dQ, dR⟩ := Yc7 a7.out) | ((with_reducible refine gc 182 rfl ?_); refine gl (some 14) _ (#[.agg #[.bool a0_1, .string a0_2, .bool a0_3], .agg #[.bool a1_1, .string a1_2, .bool a1_3]]) Tryd.func182 ?_; (with_reducible refine (laws_eqFile.calls a0_1 a0_2 a0_3 a1_1 a1_2 a1_3 true _ A4.out).mono ?_); rintro e aX ⟨rfl, hb⟩; refine ⟨_, rfl, ?_⟩; refine Ya3 (bb a4 hb) (bb a7 hb) (below_step (bf HB.out) hb) ?_; clear a4 a7 HB; intro a4 a7 HB; (try clear hb); (try clear hb2); (try clear hk); (try clear hi); have ⟨bD, bE, bF, bG, bH, bI, bJ, bK, bL, bM, bN, bO, bP, bQ⟩ := Yc7 a4.out; have ⟨dS, dT, dU, dV, dW, dX, dY, dZ, e0, e1, e2, e3, e4, e5⟩ := Yc7 a7.out) | ((with_reducible refine gc 182 rfl ?_); refine gl (some 20) _ (#[.agg #[.bool a0_4, .string a0_5, .bool a0_6], .agg #[.bool a1_4, .string a1_5, .bool a1_6]]) Tryd.func182 ?_; (with_reducible refine (laws_eqFile.calls a0_4 a0_5 a0_6 a1_4 a1_5 a1_6 true _ A6.out).mono ?_); rintro e w16 ⟨rfl, hb⟩; refine ⟨_, rfl, ?_⟩; refine Ya3 (bb a4 hb) (bb a7 hb) (below_step (bf HB.out) hb) ?_; clear a4 a7 HB; intro a4 a7 HB; (try clear hb); (try clear hb2); (try clear hk); (try clear hi)))
    go_ret
    exact ⟨Ye2, (bf HB.out)⟩
   ·replace c7 := Bool.eq_false_iff.mpr c7; subst c7
    have H1 : (some false) = some r := by rw [if_neg (show ¬ (false = true) by decide)] at H; exact H
    clear H; have H := H1; clear H1; obtain rfl := Option.some.inj H
    go_enter Tryd.func155, Tryd.ntmps155
    go_wp2_with (first | ((with_reducible refine gd 2 rfl ?_); refine bx 2 125 (#[.string a0_0, .bool a0_1, .string a0_2, .bool a0_3, .bool a0_4, .string a0_5, .bool a0_6]) ?_; intro b5 hg w17 hbox hb; refine Ya4 (below_step (be HB.out) hb) (hbox) (bs hg (be HB.out)) (bs hg (be HB.out)) ?_; clear HB; intro HB a4 b6 b7; clear hb hbox hg) | ((with_reducible refine gd 3 rfl ?_); refine bx 3 125 (#[.string a1_0, .bool a1_1, .string a1_2, .bool a1_3, .bool a1_4, .string a1_5, .bool a1_6]) ?_; intro b8 hg w18 hbox hb; refine Ya7 (bb a4 hb) (below_step (bf HB.out) hb) (hbox) (bs hg (bf HB.out)) (bs hg (bf HB.out)) (bl hg a4) (br hg a4) ?_; clear a4 HB; intro a4 HB a7 b9 ba aC aD; clear hb hbox hg; have hnb19 := aC.out; have hnc19 := aD.out; have ⟨e6, e7, e8, e9, ea, eb, ec, ed, ee, ef, eg, eh, ei, ej⟩ := Yc7 a4.out; have ⟨cs, ct, cu, cv, cx, cy, cz, cA, cB, cC, cD, cE, cF, cG⟩ := Yc7 a7.out) | ((with_reducible refine gc 182 rfl ?_); refine gl (some 14) _ (#[.agg #[.bool a0_1, .string a0_2, .bool a0_3], .agg #[.bool a1_1, .string a1_2, .bool a1_3]]) Tryd.func182 ?_; (with_reducible refine (laws_eqFile.calls a0_1 a0_2 a0_3 a1_1 a1_2 a1_3 true _ A4.out).mono ?_); rintro e w22 ⟨rfl, hb⟩; refine ⟨_, rfl, ?_⟩; refine Ya3 (bb a4 hb) (bb a7 hb) (below_step (bf HB.out) hb) ?_; clear a4 a7 HB; intro a4 a7 HB; (try clear hb); (try clear hb2); (try clear hk); (try clear hi); have ⟨ek, el, em, en, eo, ep, eq, er, es, et, eu, ev, ew, ex⟩ := Yc7 a4.out; have ⟨ey, ez, eA, eB, eC, eD, eE, eF, eG, eH, eI, eJ, eK, eL⟩ := Yc7 a7.out) | ((with_reducible refine gc 182 rfl ?_); refine gl (some 20) _ (#[.agg #[.bool a0_4, .string a0_5, .bool a0_6], .agg #[.bool a1_4, .string a1_5, .bool a1_6]]) Tryd.func182 ?_; (with_reducible refine (laws_eqFile.calls a0_4 a0_5 a0_6 a1_4 a1_5 a1_6 false _ A6.out).mono ?_); rintro e w25 ⟨rfl, hb⟩; refine ⟨_, rfl, ?_⟩; refine Ya3 (bb a4 hb) (bb a7 hb) (below_step (bf HB.out) hb) ?_; clear a4 a7 HB; intro a4 a7 HB; (try clear hb); (try clear hb2); (try clear hk); (try clear hi)))
    go_ret
    exact ⟨Ye2, (bf HB.out)⟩
  ·replace c5 := Bool.eq_false_iff.mpr c5; subst c5
   have H1 : (some false) = some r := by rw [if_neg (show ¬ (false = true) by decide)] at H; exact H
   clear H; have H := H1; clear H1; obtain rfl := Option.some.inj H
   go_enter Tryd.func155, Tryd.ntmps155
   go_wp2_with (first | ((with_reducible refine gd 2 rfl ?_); refine bx 2 125 (#[.string a0_0, .bool a0_1, .string a0_2, .bool a0_3, .bool a0_4, .string a0_5, .bool a0_6]) ?_; intro b5 hg w26 hbox hb; refine Ya4 (below_step (be HB.out) hb) (hbox) (bs hg (be HB.out)) (bs hg (be HB.out)) ?_; clear HB; intro HB a4 b6 b7; clear hb hbox hg) | ((with_reducible refine gd 3 rfl ?_); refine bx 3 125 (#[.string a1_0, .bool a1_1, .string a1_2, .bool a1_3, .bool a1_4, .string a1_5, .bool a1_6]) ?_; intro b8 hg w27 hbox hb; refine Ya7 (bb a4 hb) (below_step (bf HB.out) hb) (hbox) (bs hg (bf HB.out)) (bs hg (bf HB.out)) (bl hg a4) (br hg a4) ?_; clear a4 HB; intro a4 HB a7 b9 ba aC aD; clear hb hbox hg; have hnb28 := aC.out; have hnc28 := aD.out; have ⟨eM, eN, eO, eP, eQ, eR, eS, eT, eU, eV, eW, eX, eY, eZ⟩ := Yc7 a4.out; have ⟨f3, f4, f5, f6, f7, f8, f9, fa, fc, fd, fe, ff, fg, fh⟩ := Yc7 a7.out) | ((with_reducible refine gc 182 rfl ?_); refine gl (some 14) _ (#[.agg #[.bool a0_1, .string a0_2, .bool a0_3], .agg #[.bool a1_1, .string a1_2, .bool a1_3]]) Tryd.func182 ?_; (with_reducible refine (laws_eqFile.calls a0_1 a0_2 a0_3 a1_1 a1_2 a1_3 false _ A4.out).mono ?_); rintro e w31 ⟨rfl, hb⟩; refine ⟨_, rfl, ?_⟩; refine Ya3 (bb a4 hb) (bb a7 hb) (below_step (bf HB.out) hb) ?_; clear a4 a7 HB; intro a4 a7 HB; (try clear hb); (try clear hb2); (try clear hk); (try clear hi)))
   go_ret
   exact ⟨Ye2, (bf HB.out)⟩
 ·rw [if_neg c3] at H
  have ah : (a0_0.toList == a1_0.toList) = false := beq_eq_false_iff_ne.mpr c3; have aV : (a0_0.toList != a1_0.toList) = true := bne_iff_ne.mpr c3; obtain rfl := Option.some.inj H
  go_enter Tryd.func155, Tryd.ntmps155
  go_wp2_with (first | ((with_reducible refine gd 2 rfl ?_); refine bx 2 125 (#[.string a0_0, .bool a0_1, .string a0_2, .bool a0_3, .bool a0_4, .string a0_5, .bool a0_6]) ?_; intro b5 hg w32 hbox hb; refine Ya4 (below_step (be HB.out) hb) (hbox) (bs hg (be HB.out)) (bs hg (be HB.out)) ?_; clear HB; intro HB a4 b6 b7; clear hb hbox hg) | ((with_reducible refine gd 3 rfl ?_); refine bx 3 125 (#[.string a1_0, .bool a1_1, .string a1_2, .bool a1_3, .bool a1_4, .string a1_5, .bool a1_6]) ?_; intro b8 hg w33 hbox hb; refine Ya7 (bb a4 hb) (below_step (bf HB.out) hb) (hbox) (bs hg (bf HB.out)) (bs hg (bf HB.out)) (bl hg a4) (br hg a4) ?_; clear a4 HB; intro a4 HB a7 b9 ba aC aD; clear hb hbox hg; have hnb34 := aC.out; have hnc34 := aD.out; have ⟨fi, fj, fk, fl, fm, fn, fo, fp, fq, fr, fs, ft, fu, fv⟩ := Yc7 a4.out; have ⟨fw, fx, fy, fz, fA, fB, fC, fD, fE, fF, fG, fH, fI, fJ⟩ := Yc7 a7.out))
  go_ret
  exact ⟨Ye2, (bf HB.out)⟩

/-! ### laws_eqChangeS: function 100 -/
def laws_eqChangeS.l0 : Nat → List (S125) → List (S125) → Int → Option (Bool)
 | 0, _, _, _ => none
 | k + 1, x0, x1, x5 => if x5 < (x0.length : Int) then (if 0 ≤ x5 then (if x5 < (x1.length : Int) then ((laws_eqChange.f ((rd_T125 x0 x5).f0) ((rd_T125 x0 x5).f1.f0) ((rd_T125 x0 x5).f1.f1) ((rd_T125 x0 x5).f1.f2) ((rd_T125 x0 x5).f2.f0) ((rd_T125 x0 x5).f2.f1) ((rd_T125 x0 x5).f2.f2) ((rd_T125 x1 x5).f0) ((rd_T125 x1 x5).f1.f0) ((rd_T125 x1 x5).f1.f1) ((rd_T125 x1 x5).f1.f2) ((rd_T125 x1 x5).f2.f0) ((rd_T125 x1 x5).f2.f1) ((rd_T125 x1 x5).f2.f2)).bind fun b3 => (if b3 = true then (laws_eqChangeS.l0 k x0 x1 (wrap64 (x5 + 1))) else (some false))) else (none)) else (none)) else (some true)
def laws_eqChangeS.f (k : Nat) (l0 : List (S125)) (l1 : List (S125)) : Option (Bool) := if (l0.length : Int) = (l1.length : Int) then (laws_eqChangeS.l0 k l0 l1 0) else (some false)
theorem laws_eqChangeS.mono_l : ∀ k, (∀ y0 y1 y2, LeO (laws_eqChangeS.l0 k y0 y1 y2) (laws_eqChangeS.l0 (k + 1) y0 y1 y2))
 | 0 => fun _ _ _ r h => by simp [laws_eqChangeS.l0] at h
 | k + 1 => by
  have ih0 := laws_eqChangeS.mono_l k
  ·intro y0 y1 y2
   unfold laws_eqChangeS.l0
   repeat' first
   | (with_reducible exact ih0 _ _ _)
   | (with_reducible exact LeO.refl _)
   | (with_reducible exact LeO.none _)
   | (with_reducible refine LeO.ite ?_ ?_)
   | (with_reducible refine LeO.bind ?_ (fun _ => ?_))
   | exact ih0 _ _ _
   | exact LeO.none _
   | refine LeO.ite ?_ ?_
   | refine LeO.bind ?_ (fun _ => ?_)
theorem laws_eqChangeS.mono : ∀ a0 a1 k, LeO (laws_eqChangeS.f k a0 a1) (laws_eqChangeS.f (k + 1) a0 a1) := by
 intro a0 a1 k; have ih0 := laws_eqChangeS.mono_l k
 unfold laws_eqChangeS.f
 repeat' first
   | (with_reducible exact ih0 _ _ _)
   | (with_reducible exact LeO.refl _)
   | (with_reducible exact LeO.none _)
   | (with_reducible refine LeO.ite ?_ ?_)
   | (with_reducible refine LeO.bind ?_ (fun _ => ?_))
   | exact ih0 _ _ _
   | exact LeO.none _
   | refine LeO.ite ?_ ?_
   | refine LeO.bind ?_ (fun _ => ?_)
def laws_eqChangeS.T6 : Bool × List (List Nat × List Nat) := (true, [([], []), ([], []), ([0, 1], [0, 1]), ([2], [2]), ([], []), ([], []), ([4, 5], [4, 5]), ([6], [6]), ([3, 7], [3, 7]), ([8], [8])])
def laws_eqChangeS.B6 : List Nat := [0, 0, 3, 7, 0, 0, 48, 112, 255, 511]
theorem laws_eqChangeS.tab6 : rtab .any (opsOf Tryd.f100 6) = laws_eqChangeS.T6 := by kernel_rfl
theorem laws_eqChangeS.bits6 : waitsOk laws_eqChangeS.T6.2 laws_eqChangeS.B6 = true := by kernel_rfl
set_option maxHeartbeats 8000000 in
set_option maxRecDepth 100000 in
theorem laws_eqChangeS.calls (k : Nat) (A0 : Option Addr) (c0 : Nat) (l0 : List (S125)) (A1 : Option Addr) (c1 : Nat) (l1 : List (S125)) (r : Bool) (w : World) (hr0 : Kd.C k125 w A0 l0.length l0) (hc0 : l0.length ≤ c0) (hr1 : Kd.C k125 w A1 l1.length l1) (hc1 : l1.length ≤ c1) (h : laws_eqChangeS.f k l0 l1 = some r) :
  Calls Tryd.prog 100 #[.slice A0 l0.length c0, .slice A1 l1.length c1] w fun e w' => e = .returned (.bool r) ∧ Below w.heap.size w w' := by
 have hu125 := Tryd.underlying125; have aE := Aside0.mk hr0; have HC0 := Aside0.mk hc0; clear hr0 hc0; have HR1 := Aside0.mk hr1; have HC1 := Aside0.mk hc1; clear hr1 hc1; have HB := Aside0.mk (Below.refl w.heap.size w); have H : (if (l0.length : Int) = (l1.length : Int) then (laws_eqChangeS.l0 k l0 l1 0) else (some false)) = some r := h; clear h
 by_cases c3 : (l0.length : Int) = (l1.length : Int)
 ·rw [if_pos c3] at H
  have ah : ((l0.length : Int) == (l1.length : Int)) = true := beq_iff_eq.mpr c3; have aV : ((l0.length : Int) != (l1.length : Int)) = false := bne_eq_false_iff_eq.mpr c3
  have bR : (l0.length == l1.length) = true := by first | simpa using c3 | (simp at c3 ⊢; omega)
  clear c3; have H' := Aside0.mk H; clear H
  go_enter Tryd.func100, Tryd.ntmps100
  go_wp2
  go_loopg [5] k (fun kq v5 w' => ∃ (a2 : Int), v5 = .int .i64 a2 ∧ Aside0 (laws_eqChangeS.l0 kq l0 l1 a2 = some r) ∧ Aside0 (kq ≤ k) ∧ Aside0 (Below w.heap.size w w'))
  case atStart => exact ⟨(0), Ye1, H', ⟨Nat.le_refl _⟩, ⟨be HB.out⟩⟩
  case round =>
   clear H'; (try clear c1); (try clear p2); (try clear c3); (try clear ah); (try clear aV); (try clear bR); obtain ⟨a2, rfl, HA, HK1, HB⟩ := hrel
   cases gk with
   | zero => exact absurd HA.out (by simp [laws_eqChangeS.l0])
   | succ k1 =>
    have H := HA.out; clear HA; simp only [laws_eqChangeS.l0] at H
    by_cases c4 : a2 < (l0.length : Int)
    ·rw [if_pos c4] at H
     have bd : decide (a2 < (l0.length : Int)) = true := decide_eq_true c4; clear c4
     by_cases c5 : 0 ≤ a2
     ·rw [if_pos c5] at H
      have cH : decide (0 ≤ a2) = true := decide_eq_true c5; clear c5
      by_cases c6 : a2 < (l1.length : Int)
      ·rw [if_pos c6] at H
       have bS : decide (a2 < (l1.length : Int)) = true := decide_eq_true c6; clear c6; replace H := Option.bind_eq_some_iff.mp H; obtain ⟨b3, A70, H⟩ := H; replace H : (if b3 = true then (laws_eqChangeS.l0 k1 l0 l1 (wrap64 (a2 + 1))) else (some false)) = some r := H; have A7 := Aside0.mk A70; clear A70
       by_cases c8 : b3 = true
       ·subst c8
        have H1 : (laws_eqChangeS.l0 k1 l0 l1 (wrap64 (a2 + 1))) = some r := by rw [if_pos rfl] at H; exact H
        clear H; have H := H1; clear H1; have H' := Aside0.mk H; clear H
        try go_wp2
        refine Ya1 (below_drew1 HB.out) ?_; clear HB; intro HB; have aF : 0 ≤ (a2 : Int) := oda; have aG : a2 < (l0.length : Int) := oda; obtain ⟨a5, bg, ak, al, am, an, ao, ap, aq⟩ := at_T125 aE.out a2 aF aG; have hw954_6 := aq; have hw954_5 := ap; have hw954_4 := ao; have hw954_3 := an; have hw954_2 := am; have hw954_1 := al; have hw954_0 := ak
        cases bg
        replace ak := pw_cell_below HB.out ak; replace al := pw_cell_below HB.out al; replace am := pw_cell_below HB.out am; replace an := pw_cell_below HB.out an; replace ao := pw_cell_below HB.out ao; replace ap := pw_cell_below HB.out ap; replace aq := pw_cell_below HB.out aq; replace aF := eq_true aF; replace aG := eq_true aG; have aH : 0 ≤ (a2 : Int) := oda; have aI : a2 < (l1.length : Int) := oda; obtain ⟨a6, bh, ar, au, av, aw, ax, ay, az⟩ := at_T125 HR1.out a2 aH aI; have hw955_6 := az; have hw955_5 := ay; have hw955_4 := ax; have hw955_3 := aw; have hw955_2 := av; have hw955_1 := au; have hw955_0 := ar
        cases bh
        replace ar := pw_cell_below HB.out ar; replace au := pw_cell_below HB.out au; replace av := pw_cell_below HB.out av; replace aw := pw_cell_below HB.out aw; replace ax := pw_cell_below HB.out ax; replace ay := pw_cell_below HB.out ay; replace az := pw_cell_below HB.out az; replace aH := eq_true aH; replace aI := eq_true aI; refine start_ (n := 10) (S := fun w' => w'.cell? (a5.add ((a2).toNat * 7)) = some (.string ((rd_T125 l0 a2).f0)) ∧ w'.cell? ⟨(a5.add ((a2).toNat * 7)).block, (a5.add ((a2).toNat * 7)).off + 1, none⟩ = some (.bool ((rd_T125 l0 a2).f1.f0)) ∧ w'.cell? ⟨(a5.add ((a2).toNat * 7)).block, (a5.add ((a2).toNat * 7)).off + 2, none⟩ = some (.string ((rd_T125 l0 a2).f1.f1)) ∧ w'.cell? ⟨(a5.add ((a2).toNat * 7)).block, (a5.add ((a2).toNat * 7)).off + 3, none⟩ = some (.bool ((rd_T125 l0 a2).f1.f2)) ∧ w'.cell? ⟨(a5.add ((a2).toNat * 7)).block, (a5.add ((a2).toNat * 7)).off + 4, none⟩ = some (.bool ((rd_T125 l0 a2).f2.f0)) ∧ w'.cell? ⟨(a5.add ((a2).toNat * 7)).block, (a5.add ((a2).toNat * 7)).off + 5, none⟩ = some (.string ((rd_T125 l0 a2).f2.f1)) ∧ w'.cell? ⟨(a5.add ((a2).toNat * 7)).block, (a5.add ((a2).toNat * 7)).off + 6, none⟩ = some (.bool ((rd_T125 l0 a2).f2.f2)) ∧ w'.cell? (a6.add ((a2).toNat * 7)) = some (.string ((rd_T125 l1 a2).f0)) ∧ w'.cell? ⟨(a6.add ((a2).toNat * 7)).block, (a6.add ((a2).toNat * 7)).off + 1, none⟩ = some (.bool ((rd_T125 l1 a2).f1.f0)) ∧ w'.cell? ⟨(a6.add ((a2).toNat * 7)).block, (a6.add ((a2).toNat * 7)).off + 2, none⟩ = some (.string ((rd_T125 l1 a2).f1.f1)) ∧ w'.cell? ⟨(a6.add ((a2).toNat * 7)).block, (a6.add ((a2).toNat * 7)).off + 3, none⟩ = some (.bool ((rd_T125 l1 a2).f1.f2)) ∧ w'.cell? ⟨(a6.add ((a2).toNat * 7)).block, (a6.add ((a2).toNat * 7)).off + 4, none⟩ = some (.bool ((rd_T125 l1 a2).f2.f0)) ∧ w'.cell? ⟨(a6.add ((a2).toNat * 7)).block, (a6.add ((a2).toNat * 7)).off + 5, none⟩ = some (.string ((rd_T125 l1 a2).f2.f1)) ∧ w'.cell? ⟨(a6.add ((a2).toNat * 7)).block, (a6.add ((a2).toNat * 7)).off + 6, none⟩ = some (.bool ((rd_T125 l1 a2).f2.f2))) (ds := []) (fb 10 0) (by kernel_rfl) rfl rfl ⟨(pw_cell_below HB.out hw954_0), (pw_cell_below HB.out hw954_1), (pw_cell_below HB.out hw954_2), (pw_cell_below HB.out hw954_3), (pw_cell_below HB.out hw954_4), (pw_cell_below HB.out hw954_5), (pw_cell_below HB.out hw954_6), (pw_cell_below HB.out hw955_0), (pw_cell_below HB.out hw955_1), (pw_cell_below HB.out hw955_2), (pw_cell_below HB.out hw955_3), (pw_cell_below HB.out hw955_4), (pw_cell_below HB.out hw955_5), (pw_cell_below HB.out hw955_6)⟩ (fun hHeld => ?_); refine with_tabW laws_eqChangeS.tab6 laws_eqChangeS.bits6 (fun HT_ HW_ => ?_); generalize wr.drew = w9 at HB ak al am an ao ap aq ar au av aw ax ay az hHeld ⊢; refine pu 0 17 (fb 10 1) HT_ ?_; refine pu 1 18 (fb 10 3) HT_ ?_; refine pu 2 19 (fb 10 7) HT_ ?_; refine pu 4 21 (fb 10 23) HT_ ?_; refine pu 5 22 (fb 10 55) HT_ ?_; refine pu 6 23 (fb 10 119) HT_ ?_; refine tk 3 20 (fb 10 127) HT_ HW_ hHeld ?_; refine tk 7 24 (fb 10 255) HT_ HW_ hHeld ?_; refine o1 8 (some 25) (fb 10 511) HT_ (fun K hK => ?_); refine gs _ (#[.agg #[.string ((rd_T125 l0 a2).f0), .bool ((rd_T125 l0 a2).f1.f0), .string ((rd_T125 l0 a2).f1.f1), .bool ((rd_T125 l0 a2).f1.f2), .bool ((rd_T125 l0 a2).f2.f0), .string ((rd_T125 l0 a2).f2.f1), .bool ((rd_T125 l0 a2).f2.f2)], .agg #[.string ((rd_T125 l1 a2).f0), .bool ((rd_T125 l1 a2).f1.f0), .string ((rd_T125 l1 a2).f1.f1), .bool ((rd_T125 l1 a2).f1.f2), .bool ((rd_T125 l1 a2).f2.f0), .string ((rd_T125 l1 a2).f2.f1), .bool ((rd_T125 l1 a2).f2.f2)]]) Tryd.func155 ?_; (with_reducible refine (laws_eqChange.calls ((rd_T125 l0 a2).f0) ((rd_T125 l0 a2).f1.f0) ((rd_T125 l0 a2).f1.f1) ((rd_T125 l0 a2).f1.f2) ((rd_T125 l0 a2).f2.f0) ((rd_T125 l0 a2).f2.f1) ((rd_T125 l0 a2).f2.f2) ((rd_T125 l1 a2).f0) ((rd_T125 l1 a2).f1.f0) ((rd_T125 l1 a2).f1.f1) ((rd_T125 l1 a2).f1.f2) ((rd_T125 l1 a2).f2.f0) ((rd_T125 l1 a2).f2.f1) ((rd_T125 l1 a2).f2.f2) true _ A7.out).mono ?_); rintro e w10 ⟨rfl, hb⟩; refine ⟨_, rfl, ?_⟩; refine Ya1 (below_step (be HB.out) hb) ?_; clear HB; intro HB; (try clear hb); (try clear hb2); (try clear hk); (try clear hi); refine hK.out _ _ ⟨(pw_cell_below HB.out hw954_0), (pw_cell_below HB.out hw954_1), (pw_cell_below HB.out hw954_2), (pw_cell_below HB.out hw954_3), (pw_cell_below HB.out hw954_4), (pw_cell_below HB.out hw954_5), (pw_cell_below HB.out hw954_6), (pw_cell_below HB.out hw955_0), (pw_cell_below HB.out hw955_1), (pw_cell_below HB.out hw955_2), (pw_cell_below HB.out hw955_3), (pw_cell_below HB.out hw955_4), (pw_cell_below HB.out hw955_5), (pw_cell_below HB.out hw955_6)⟩ (fun hHeld => ?_); clear hK K; refine nm 25 ?_; refine pu 9 26 (fb 10 1023) HT_ ?_; refine done_ (done_of HT_.out (by kernel_rfl)) ?_
        try go_wp2
        go_roundg k1
        case measure => have := HK1.out; omega
        case rel => exact ⟨(wrap64 (a2 + 1)), Ye1, H', ⟨by have := HK1.out; omega⟩, ⟨be HB.out⟩⟩
       ·replace c8 := Bool.eq_false_iff.mpr c8; subst c8
        have H1 : (some false) = some r := by rw [if_neg (show ¬ (false = true) by decide)] at H; exact H
        clear H; have H := H1; clear H1; obtain rfl := Option.some.inj H
        try go_wp2
        refine Ya1 (below_drew1 HB.out) ?_; clear HB; intro HB; have aF : 0 ≤ (a2 : Int) := oda; have aG : a2 < (l0.length : Int) := oda; obtain ⟨a5, bg, ak, al, am, an, ao, ap, aq⟩ := at_T125 aE.out a2 aF aG; have hw954_6 := aq; have hw954_5 := ap; have hw954_4 := ao; have hw954_3 := an; have hw954_2 := am; have hw954_1 := al; have hw954_0 := ak
        cases bg
        replace ak := pw_cell_below HB.out ak; replace al := pw_cell_below HB.out al; replace am := pw_cell_below HB.out am; replace an := pw_cell_below HB.out an; replace ao := pw_cell_below HB.out ao; replace ap := pw_cell_below HB.out ap; replace aq := pw_cell_below HB.out aq; replace aF := eq_true aF; replace aG := eq_true aG; have aH : 0 ≤ (a2 : Int) := oda; have aI : a2 < (l1.length : Int) := oda; obtain ⟨a6, bh, ar, au, av, aw, ax, ay, az⟩ := at_T125 HR1.out a2 aH aI; have hw955_6 := az; have hw955_5 := ay; have hw955_4 := ax; have hw955_3 := aw; have hw955_2 := av; have hw955_1 := au; have hw955_0 := ar
        cases bh
        replace ar := pw_cell_below HB.out ar; replace au := pw_cell_below HB.out au; replace av := pw_cell_below HB.out av; replace aw := pw_cell_below HB.out aw; replace ax := pw_cell_below HB.out ax; replace ay := pw_cell_below HB.out ay; replace az := pw_cell_below HB.out az; replace aH := eq_true aH; replace aI := eq_true aI; refine start_ (n := 10) (S := fun w' => w'.cell? (a5.add ((a2).toNat * 7)) = some (.string ((rd_T125 l0 a2).f0)) ∧ w'.cell? ⟨(a5.add ((a2).toNat * 7)).block, (a5.add ((a2).toNat * 7)).off + 1, none⟩ = some (.bool ((rd_T125 l0 a2).f1.f0)) ∧ w'.cell? ⟨(a5.add ((a2).toNat * 7)).block, (a5.add ((a2).toNat * 7)).off + 2, none⟩ = some (.string ((rd_T125 l0 a2).f1.f1)) ∧ w'.cell? ⟨(a5.add ((a2).toNat * 7)).block, (a5.add ((a2).toNat * 7)).off + 3, none⟩ = some (.bool ((rd_T125 l0 a2).f1.f2)) ∧ w'.cell? ⟨(a5.add ((a2).toNat * 7)).block, (a5.add ((a2).toNat * 7)).off + 4, none⟩ = some (.bool ((rd_T125 l0 a2).f2.f0)) ∧ w'.cell? ⟨(a5.add ((a2).toNat * 7)).block, (a5.add ((a2).toNat * 7)).off + 5, none⟩ = some (.string ((rd_T125 l0 a2).f2.f1)) ∧ w'.cell? ⟨(a5.add ((a2).toNat * 7)).block, (a5.add ((a2).toNat * 7)).off + 6, none⟩ = some (.bool ((rd_T125 l0 a2).f2.f2)) ∧ w'.cell? (a6.add ((a2).toNat * 7)) = some (.string ((rd_T125 l1 a2).f0)) ∧ w'.cell? ⟨(a6.add ((a2).toNat * 7)).block, (a6.add ((a2).toNat * 7)).off + 1, none⟩ = some (.bool ((rd_T125 l1 a2).f1.f0)) ∧ w'.cell? ⟨(a6.add ((a2).toNat * 7)).block, (a6.add ((a2).toNat * 7)).off + 2, none⟩ = some (.string ((rd_T125 l1 a2).f1.f1)) ∧ w'.cell? ⟨(a6.add ((a2).toNat * 7)).block, (a6.add ((a2).toNat * 7)).off + 3, none⟩ = some (.bool ((rd_T125 l1 a2).f1.f2)) ∧ w'.cell? ⟨(a6.add ((a2).toNat * 7)).block, (a6.add ((a2).toNat * 7)).off + 4, none⟩ = some (.bool ((rd_T125 l1 a2).f2.f0)) ∧ w'.cell? ⟨(a6.add ((a2).toNat * 7)).block, (a6.add ((a2).toNat * 7)).off + 5, none⟩ = some (.string ((rd_T125 l1 a2).f2.f1)) ∧ w'.cell? ⟨(a6.add ((a2).toNat * 7)).block, (a6.add ((a2).toNat * 7)).off + 6, none⟩ = some (.bool ((rd_T125 l1 a2).f2.f2))) (ds := []) (fb 10 0) (by kernel_rfl) rfl rfl ⟨(pw_cell_below HB.out hw954_0), (pw_cell_below HB.out hw954_1), (pw_cell_below HB.out hw954_2), (pw_cell_below HB.out hw954_3), (pw_cell_below HB.out hw954_4), (pw_cell_below HB.out hw954_5), (pw_cell_below HB.out hw954_6), (pw_cell_below HB.out hw955_0), (pw_cell_below HB.out hw955_1), (pw_cell_below HB.out hw955_2), (pw_cell_below HB.out hw955_3), (pw_cell_below HB.out hw955_4), (pw_cell_below HB.out hw955_5), (pw_cell_below HB.out hw955_6)⟩ (fun hHeld => ?_); refine with_tabW laws_eqChangeS.tab6 laws_eqChangeS.bits6 (fun HT_ HW_ => ?_); generalize wr.drew = ab at HB ak al am an ao ap aq ar au av aw ax ay az hHeld ⊢; refine pu 0 17 (fb 10 1) HT_ ?_; refine pu 1 18 (fb 10 3) HT_ ?_; refine pu 2 19 (fb 10 7) HT_ ?_; refine pu 4 21 (fb 10 23) HT_ ?_; refine pu 5 22 (fb 10 55) HT_ ?_; refine pu 6 23 (fb 10 119) HT_ ?_; refine tk 3 20 (fb 10 127) HT_ HW_ hHeld ?_; refine tk 7 24 (fb 10 255) HT_ HW_ hHeld ?_; refine o1 8 (some 25) (fb 10 511) HT_ (fun K hK => ?_); refine gs _ (#[.agg #[.string ((rd_T125 l0 a2).f0), .bool ((rd_T125 l0 a2).f1.f0), .string ((rd_T125 l0 a2).f1.f1), .bool ((rd_T125 l0 a2).f1.f2), .bool ((rd_T125 l0 a2).f2.f0), .string ((rd_T125 l0 a2).f2.f1), .bool ((rd_T125 l0 a2).f2.f2)], .agg #[.string ((rd_T125 l1 a2).f0), .bool ((rd_T125 l1 a2).f1.f0), .string ((rd_T125 l1 a2).f1.f1), .bool ((rd_T125 l1 a2).f1.f2), .bool ((rd_T125 l1 a2).f2.f0), .string ((rd_T125 l1 a2).f2.f1), .bool ((rd_T125 l1 a2).f2.f2)]]) Tryd.func155 ?_; (with_reducible refine (laws_eqChange.calls ((rd_T125 l0 a2).f0) ((rd_T125 l0 a2).f1.f0) ((rd_T125 l0 a2).f1.f1) ((rd_T125 l0 a2).f1.f2) ((rd_T125 l0 a2).f2.f0) ((rd_T125 l0 a2).f2.f1) ((rd_T125 l0 a2).f2.f2) ((rd_T125 l1 a2).f0) ((rd_T125 l1 a2).f1.f0) ((rd_T125 l1 a2).f1.f1) ((rd_T125 l1 a2).f1.f2) ((rd_T125 l1 a2).f2.f0) ((rd_T125 l1 a2).f2.f1) ((rd_T125 l1 a2).f2.f2) false _ A7.out).mono ?_); rintro e w12 ⟨rfl, hb⟩; refine ⟨_, rfl, ?_⟩; refine Ya1 (below_step (be HB.out) hb) ?_; clear HB; intro HB; (try clear hb); (try clear hb2); (try clear hk); (try clear hi); refine hK.out _ _ ⟨(pw_cell_below HB.out hw954_0), (pw_cell_below HB.out hw954_1), (pw_cell_below HB.out hw954_2), (pw_cell_below HB.out hw954_3), (pw_cell_below HB.out hw954_4), (pw_cell_below HB.out hw954_5), (pw_cell_below HB.out hw954_6), (pw_cell_below HB.out hw955_0), (pw_cell_below HB.out hw955_1), (pw_cell_below HB.out hw955_2), (pw_cell_below HB.out hw955_3), (pw_cell_below HB.out hw955_4), (pw_cell_below HB.out hw955_5), (pw_cell_below HB.out hw955_6)⟩ (fun hHeld => ?_); clear hK K; refine nm 25 ?_; refine pu 9 26 (fb 10 1023) HT_ ?_; refine done_ (done_of HT_.out (by kernel_rfl)) ?_
        try go_wp2
        go_ret
        exact ⟨Ye2, be HB.out⟩
      ·rw [if_neg c6] at H
       exact absurd H (by simp)
     ·rw [if_neg c5] at H
      exact absurd H (by simp)
    ·rw [if_neg c4] at H
     have bd : decide (a2 < (l0.length : Int)) = false := decide_eq_false c4; clear c4; obtain rfl := Option.some.inj H
     go_wp2
     go_ret
     exact ⟨Ye2, be HB.out⟩
 ·rw [if_neg c3] at H
  have ah : ((l0.length : Int) == (l1.length : Int)) = false := beq_eq_false_iff_ne.mpr c3; have aV : ((l0.length : Int) != (l1.length : Int)) = true := bne_iff_ne.mpr c3
  have bR : (l0.length == l1.length) = false := by first | simpa using c3 | (simp at c3 ⊢; omega)
  obtain rfl := Option.some.inj H
  go_enter Tryd.func100, Tryd.ntmps100
  go_wp2
  go_ret
  exact ⟨Ye2, be HB.out⟩

/-! ### laws_szChange: function 156 -/
def laws_szChange.f (a0_0 : ByteArray) (a0_1 : Bool) (a0_2 : ByteArray) (a0_3 : Bool) (a0_4 : Bool) (a0_5 : ByteArray) (a0_6 : Bool) (a1 : Int) : Option (Int) := if (wrap64 (a1 - (a0_0.size : Int))) < 0 then (some (-1)) else ((laws_szFile.f a0_1 a0_2 a0_3 (wrap64 (a1 - (a0_0.size : Int)))).bind fun ac => (if ac < 0 then (some (-1)) else ((laws_szFile.f a0_4 a0_5 a0_6 ac).bind fun ae => (if ae < 0 then (some (-1)) else (some ae)))))
set_option maxHeartbeats 8000000 in
set_option maxRecDepth 100000 in
theorem laws_szChange.calls (a0_0 : ByteArray) (a0_1 : Bool) (a0_2 : ByteArray) (a0_3 : Bool) (a0_4 : Bool) (a0_5 : ByteArray) (a0_6 : Bool) (a1 : Int) (r : Int) (w : World) (h : laws_szChange.f a0_0 a0_1 a0_2 a0_3 a0_4 a0_5 a0_6 a1 = some r) :
  Calls Tryd.prog 156 #[.agg #[.string a0_0, .bool a0_1, .string a0_2, .bool a0_3, .bool a0_4, .string a0_5, .bool a0_6], .int .i64 a1] w fun e w' => e = .returned (.int .i64 r) ∧ Below w.heap.size w w' := by
 have hu190 := Tryd.underlying190; have hu188 := Tryd.underlying188; have HB := Aside0.mk (Below.refl w.heap.size w); have H : (if (wrap64 (a1 - (a0_0.size : Int))) < 0 then (some (-1)) else ((laws_szFile.f a0_1 a0_2 a0_3 (wrap64 (a1 - (a0_0.size : Int)))).bind fun ac => (if ac < 0 then (some (-1)) else ((laws_szFile.f a0_4 a0_5 a0_6 ac).bind fun ae => (if ae < 0 then (some (-1)) else (some ae)))))) = some r := h; clear h
 by_cases c3 : (wrap64 (a1 - (a0_0.size : Int))) < 0
 ·rw [if_pos c3] at H
  have ah : decide ((wrap64 (a1 - (a0_0.size : Int))) < 0) = true := decide_eq_true c3; clear c3; obtain rfl := Option.some.inj H
  go_enter Tryd.func156, Tryd.ntmps156
  go_wp2_with (first | ((with_reducible refine gd 2 rfl ?_); refine bx 2 190 (#[.string a0_0, .bool a0_1, .string a0_2, .bool a0_3, .bool a0_4, .string a0_5, .bool a0_6]) ?_; intro bi hg w4 hbox hb; refine Ya4 (below_step (be HB.out) hb) (hbox) (bs hg (be HB.out)) (bs hg (be HB.out)) ?_; clear HB; intro HB a8 bj bm; clear hb hbox hg; have ⟨fK, fL, fM, fN, fO, fP, fQ, fR, fS, fT, fU, fV, fW, fX⟩ := Yc7 a8.out))
  go_ret
  exact ⟨Ye2, (bf HB.out)⟩
 ·rw [if_neg c3] at H
  have ah : decide ((wrap64 (a1 - (a0_0.size : Int))) < 0) = false := decide_eq_false c3; clear c3; replace H := Option.bind_eq_some_iff.mp H; obtain ⟨ac, aB, H⟩ := H; replace H : (if ac < 0 then (some (-1)) else ((laws_szFile.f a0_4 a0_5 a0_6 ac).bind fun ae => (if ae < 0 then (some (-1)) else (some ae)))) = some r := H; have A6 := Aside0.mk aB; clear aB
  by_cases c7 : ac < 0
  ·rw [if_pos c7] at H
   have b4 : decide (ac < 0) = true := decide_eq_true c7; clear c7; obtain rfl := Option.some.inj H
   go_enter Tryd.func156, Tryd.ntmps156
   go_wp2_with (first | ((with_reducible refine gd 2 rfl ?_); refine bx 2 190 (#[.string a0_0, .bool a0_1, .string a0_2, .bool a0_3, .bool a0_4, .string a0_5, .bool a0_6]) ?_; intro bi hg w8 hbox hb; refine Ya4 (below_step (be HB.out) hb) (hbox) (bs hg (be HB.out)) (bs hg (be HB.out)) ?_; clear HB; intro HB a8 bj bm; clear hb hbox hg; have ⟨cI, cJ, cK, cL, cM, cN, cO, cP, cQ, cR, cS, cT, cU, cV⟩ := Yc7 a8.out) | ((with_reducible refine gc 183 rfl ?_); refine gl (some 15) _ (#[.agg #[.bool a0_1, .string a0_2, .bool a0_3], .int .i64 (wrap64 (a1 - (a0_0.size : Int)))]) Tryd.func183 ?_; (with_reducible refine (laws_szFile.calls a0_1 a0_2 a0_3 (wrap64 (a1 - (a0_0.size : Int))) ac _ A6.out).mono ?_); rintro e w10 ⟨rfl, hb⟩; refine ⟨_, rfl, ?_⟩; refine Ya2 (bb a8 hb) (below_step (bf HB.out) hb) ?_; clear a8 HB; intro a8 HB; (try clear hb); (try clear hb2); (try clear hk); (try clear hi)))
   go_ret
   exact ⟨Ye2, (bf HB.out)⟩
  ·rw [if_neg c7] at H
   have b4 : decide (ac < 0) = false := decide_eq_false c7; clear c7; replace H := Option.bind_eq_some_iff.mp H; obtain ⟨ae, bT, H⟩ := H; replace H : (if ae < 0 then (some (-1)) else (some ae)) = some r := H; have A11 := Aside0.mk bT; clear bT
   by_cases aW : ae < 0
   ·rw [if_pos aW] at H
    have cW : decide (ae < 0) = true := decide_eq_true aW; clear aW; obtain rfl := Option.some.inj H
    go_enter Tryd.func156, Tryd.ntmps156
    go_wp2_with (first | ((with_reducible refine gd 2 rfl ?_); refine bx 2 190 (#[.string a0_0, .bool a0_1, .string a0_2, .bool a0_3, .bool a0_4, .string a0_5, .bool a0_6]) ?_; intro bi hg aX hbox hb; refine Ya4 (below_step (be HB.out) hb) (hbox) (bs hg (be HB.out)) (bs hg (be HB.out)) ?_; clear HB; intro HB a8 bj bm; clear hb hbox hg; have ⟨bD, bE, bF, bG, bH, bI, bJ, bK, bL, bM, bN, bO, bP, bQ⟩ := Yc7 a8.out) | ((with_reducible refine gc 183 rfl ?_); refine gl (some 15) _ (#[.agg #[.bool a0_1, .string a0_2, .bool a0_3], .int .i64 (wrap64 (a1 - (a0_0.size : Int)))]) Tryd.func183 ?_; (with_reducible refine (laws_szFile.calls a0_1 a0_2 a0_3 (wrap64 (a1 - (a0_0.size : Int))) ac _ A6.out).mono ?_); rintro e w15 ⟨rfl, hb⟩; refine ⟨_, rfl, ?_⟩; refine Ya2 (bb a8 hb) (below_step (bf HB.out) hb) ?_; clear a8 HB; intro a8 HB; (try clear hb); (try clear hb2); (try clear hk); (try clear hi); have ⟨cX, cY, cZ, d0, d1, d2, d3, d4, d5, d6, d7, d8, d9, da⟩ := Yc7 a8.out) | ((with_reducible refine gc 183 rfl ?_); refine gl (some 21) _ (#[.agg #[.bool a0_4, .string a0_5, .bool a0_6], .int .i64 ac]) Tryd.func183 ?_; (with_reducible refine (laws_szFile.calls a0_4 a0_5 a0_6 ac ae _ A11.out).mono ?_); rintro e w17 ⟨rfl, hb⟩; refine ⟨_, rfl, ?_⟩; refine Ya2 (bb a8 hb) (below_step (bf HB.out) hb) ?_; clear a8 HB; intro a8 HB; (try clear hb); (try clear hb2); (try clear hk); (try clear hi)))
    go_ret
    exact ⟨Ye2, (bf HB.out)⟩
   ·rw [if_neg aW] at H
    have cW : decide (ae < 0) = false := decide_eq_false aW; clear aW; obtain rfl := Option.some.inj H
    go_enter Tryd.func156, Tryd.ntmps156
    go_wp2_with (first | ((with_reducible refine gd 2 rfl ?_); refine bx 2 190 (#[.string a0_0, .bool a0_1, .string a0_2, .bool a0_3, .bool a0_4, .string a0_5, .bool a0_6]) ?_; intro bi hg w18 hbox hb; refine Ya4 (below_step (be HB.out) hb) (hbox) (bs hg (be HB.out)) (bs hg (be HB.out)) ?_; clear HB; intro HB a8 bj bm; clear hb hbox hg; have ⟨fY, fZ, g0, g1, g2, g3, g4, g5, g6, g7, g8, g9, ga, gb⟩ := Yc7 a8.out) | ((with_reducible refine gc 183 rfl ?_); refine gl (some 15) _ (#[.agg #[.bool a0_1, .string a0_2, .bool a0_3], .int .i64 (wrap64 (a1 - (a0_0.size : Int)))]) Tryd.func183 ?_; (with_reducible refine (laws_szFile.calls a0_1 a0_2 a0_3 (wrap64 (a1 - (a0_0.size : Int))) ac _ A6.out).mono ?_); rintro e w20 ⟨rfl, hb⟩; refine ⟨_, rfl, ?_⟩; refine Ya2 (bb a8 hb) (below_step (bf HB.out) hb) ?_; clear a8 HB; intro a8 HB; (try clear hb); (try clear hb2); (try clear hk); (try clear hi); have ⟨cs, ct, cu, cv, cx, cy, cz, cA, cB, cC, cD, cE, cF, cG⟩ := Yc7 a8.out) | ((with_reducible refine gc 183 rfl ?_); refine gl (some 21) _ (#[.agg #[.bool a0_4, .string a0_5, .bool a0_6], .int .i64 ac]) Tryd.func183 ?_; (with_reducible refine (laws_szFile.calls a0_4 a0_5 a0_6 ac ae _ A11.out).mono ?_); rintro e w22 ⟨rfl, hb⟩; refine ⟨_, rfl, ?_⟩; refine Ya2 (bb a8 hb) (below_step (bf HB.out) hb) ?_; clear a8 HB; intro a8 HB; (try clear hb); (try clear hb2); (try clear hk); (try clear hi)))
    go_ret
    exact ⟨Ye2, (bf HB.out)⟩

/-! ### laws_szChangeS: function 103 -/
def laws_szChangeS.l0 : Nat → List (S190) → Int → Int → Option (Int)
 | 0, _, _, _ => none
 | k + 1, x0, x1, x5 => if x5 < (x0.length : Int) then (if 0 ≤ x5 then ((laws_szChange.f ((rd_T190 x0 x5).f0) ((rd_T190 x0 x5).f1.f0) ((rd_T190 x0 x5).f1.f1) ((rd_T190 x0 x5).f1.f2) ((rd_T190 x0 x5).f2.f0) ((rd_T190 x0 x5).f2.f1) ((rd_T190 x0 x5).f2.f2) x1).bind fun ai => (if ai < 0 then (some (-1)) else (laws_szChangeS.l0 k x0 ai (wrap64 (x5 + 1))))) else (none)) else (some x1)
def laws_szChangeS.f (k : Nat) (l0 : List (S190)) (a1 : Int) : Option (Int) := if (wrap64 (a1 - (l0.length : Int))) < 0 then (some (-1)) else (laws_szChangeS.l0 k l0 (wrap64 (a1 - (l0.length : Int))) 0)
theorem laws_szChangeS.mono_l : ∀ k, (∀ y0 y1 y2, LeO (laws_szChangeS.l0 k y0 y1 y2) (laws_szChangeS.l0 (k + 1) y0 y1 y2))
 | 0 => fun _ _ _ r h => by simp [laws_szChangeS.l0] at h
 | k + 1 => by
  have ih0 := laws_szChangeS.mono_l k
  ·intro y0 y1 y2
   unfold laws_szChangeS.l0
   repeat' first
   | (with_reducible exact ih0 _ _ _)
   | (with_reducible exact LeO.refl _)
   | (with_reducible exact LeO.none _)
   | (with_reducible refine LeO.ite ?_ ?_)
   | (with_reducible refine LeO.bind ?_ (fun _ => ?_))
   | exact ih0 _ _ _
   | exact LeO.none _
   | refine LeO.ite ?_ ?_
   | refine LeO.bind ?_ (fun _ => ?_)
theorem laws_szChangeS.mono : ∀ a0 a1 k, LeO (laws_szChangeS.f k a0 a1) (laws_szChangeS.f (k + 1) a0 a1) := by
 intro a0 a1 k; have ih0 := laws_szChangeS.mono_l k
 unfold laws_szChangeS.f
 repeat' first
   | (with_reducible exact ih0 _ _ _)
   | (with_reducible exact LeO.refl _)
   | (with_reducible exact LeO.none _)
   | (with_reducible refine LeO.ite ?_ ?_)
   | (with_reducible refine LeO.bind ?_ (fun _ => ?_))
   | exact ih0 _ _ _
   | exact LeO.none _
   | refine LeO.ite ?_ ?_
   | refine LeO.bind ?_ (fun _ => ?_)
set_option maxHeartbeats 8000000 in
set_option maxRecDepth 100000 in
theorem laws_szChangeS.calls (k : Nat) (A0 : Option Addr) (c0 : Nat) (l0 : List (S190)) (a1 : Int) (r : Int) (w : World) (hr0 : Kd.C k190 w A0 l0.length l0) (hc0 : l0.length ≤ c0) (h : laws_szChangeS.f k l0 a1 = some r) :
  Calls Tryd.prog 103 #[.slice A0 l0.length c0, .int .i64 a1] w fun e w' => e = .returned (.int .i64 r) ∧ Below w.heap.size w w' := by
 have hu190 := Tryd.underlying190; have aE := Aside0.mk hr0; have HC0 := Aside0.mk hc0; clear hr0 hc0; have HB := Aside0.mk (Below.refl w.heap.size w); have H : (if (wrap64 (a1 - (l0.length : Int))) < 0 then (some (-1)) else (laws_szChangeS.l0 k l0 (wrap64 (a1 - (l0.length : Int))) 0)) = some r := h; clear h
 by_cases c3 : (wrap64 (a1 - (l0.length : Int))) < 0
 ·rw [if_pos c3] at H
  have ah : decide ((wrap64 (a1 - (l0.length : Int))) < 0) = true := decide_eq_true c3; clear c3; obtain rfl := Option.some.inj H
  go_enter Tryd.func103, Tryd.ntmps103
  go_wp2
  go_ret
  exact ⟨Ye2, be HB.out⟩
 ·rw [if_neg c3] at H
  have ah : decide ((wrap64 (a1 - (l0.length : Int))) < 0) = false := decide_eq_false c3; clear c3; have H' := Aside0.mk H; clear H
  go_enter Tryd.func103, Tryd.ntmps103
  go_wp2
  go_loopg [1, 5] k (fun kq v1 v5 w' => ∃ (aJ : Int) (a2 : Int), v1 = .int .i64 aJ ∧ v5 = .int .i64 a2 ∧ Aside0 (laws_szChangeS.l0 kq l0 aJ a2 = some r) ∧ Aside0 (kq ≤ k) ∧ Aside0 (Below w.heap.size w w'))
  case atStart => exact ⟨(wrap64 (a1 - (l0.length : Int))), (0), Ye1, Ye1, H', ⟨Nat.le_refl _⟩, ⟨be HB.out⟩⟩
  case round =>
   clear H'; (try clear c1); (try clear p2); (try clear c3); (try clear ah); obtain ⟨aJ, a2, rfl, rfl, HA, HK1, HB⟩ := hrel
   cases gk with
   | zero => exact absurd HA.out (by simp [laws_szChangeS.l0])
   | succ k1 =>
    have H := HA.out; clear HA; simp only [laws_szChangeS.l0] at H
    by_cases c4 : a2 < (l0.length : Int)
    ·rw [if_pos c4] at H
     have bd : decide (a2 < (l0.length : Int)) = true := decide_eq_true c4; clear c4
     by_cases c5 : 0 ≤ a2
     ·rw [if_pos c5] at H
      have cH : decide (0 ≤ a2) = true := decide_eq_true c5; clear c5; replace H := Option.bind_eq_some_iff.mp H; obtain ⟨ai, aB, H⟩ := H; replace H : (if ai < 0 then (some (-1)) else (laws_szChangeS.l0 k1 l0 ai (wrap64 (a2 + 1)))) = some r := H; have A6 := Aside0.mk aB; clear aB
      by_cases c7 : ai < 0
      ·rw [if_pos c7] at H
       have b4 : decide (ai < 0) = true := decide_eq_true c7; clear c7; obtain rfl := Option.some.inj H; have aK : 0 ≤ (a2 : Int) := oda; have aL : a2 < (l0.length : Int) := oda; obtain ⟨db, bn, dc, dd, de, df, dg, dh, di⟩ := at_T190 (Kd.C_below aE.out HB.out) a2 aK aL
       cases bn
       replace aK := eq_true aK; replace aL := eq_true aL
       go_wp2_with (first | ((with_reducible refine gc 156 rfl ?_); refine gl (some 23) _ (#[.agg #[.string ((rd_T190 l0 a2).f0), .bool ((rd_T190 l0 a2).f1.f0), .string ((rd_T190 l0 a2).f1.f1), .bool ((rd_T190 l0 a2).f1.f2), .bool ((rd_T190 l0 a2).f2.f0), .string ((rd_T190 l0 a2).f2.f1), .bool ((rd_T190 l0 a2).f2.f2)], .int .i64 aJ]) Tryd.func156 ?_; (with_reducible refine (laws_szChange.calls ((rd_T190 l0 a2).f0) ((rd_T190 l0 a2).f1.f0) ((rd_T190 l0 a2).f1.f1) ((rd_T190 l0 a2).f1.f2) ((rd_T190 l0 a2).f2.f0) ((rd_T190 l0 a2).f2.f1) ((rd_T190 l0 a2).f2.f2) aJ ai _ A6.out).mono ?_); rintro e w8 ⟨rfl, hb⟩; refine ⟨_, rfl, ?_⟩; refine Ya1 (below_step (be HB.out) hb) ?_; clear HB; intro HB; (try clear hb); (try clear hb2); (try clear hk); (try clear hi)))
       go_ret
       exact ⟨Ye2, be HB.out⟩
      ·rw [if_neg c7] at H
       have b4 : decide (ai < 0) = false := decide_eq_false c7; clear c7; have H' := Aside0.mk H; clear H; have aK : 0 ≤ (a2 : Int) := oda; have aL : a2 < (l0.length : Int) := oda; obtain ⟨db, bn, dc, dd, de, df, dg, dh, di⟩ := at_T190 (Kd.C_below aE.out HB.out) a2 aK aL
       cases bn
       replace aK := eq_true aK; replace aL := eq_true aL
       go_wp2_with (first | ((with_reducible refine gc 156 rfl ?_); refine gl (some 23) _ (#[.agg #[.string ((rd_T190 l0 a2).f0), .bool ((rd_T190 l0 a2).f1.f0), .string ((rd_T190 l0 a2).f1.f1), .bool ((rd_T190 l0 a2).f1.f2), .bool ((rd_T190 l0 a2).f2.f0), .string ((rd_T190 l0 a2).f2.f1), .bool ((rd_T190 l0 a2).f2.f2)], .int .i64 aJ]) Tryd.func156 ?_; (with_reducible refine (laws_szChange.calls ((rd_T190 l0 a2).f0) ((rd_T190 l0 a2).f1.f0) ((rd_T190 l0 a2).f1.f1) ((rd_T190 l0 a2).f1.f2) ((rd_T190 l0 a2).f2.f0) ((rd_T190 l0 a2).f2.f1) ((rd_T190 l0 a2).f2.f2) aJ ai _ A6.out).mono ?_); rintro e w9 ⟨rfl, hb⟩; refine ⟨_, rfl, ?_⟩; refine Ya1 (below_step (be HB.out) hb) ?_; clear HB; intro HB; (try clear hb); (try clear hb2); (try clear hk); (try clear hi)))
       go_roundg k1
       case measure => have := HK1.out; omega
       case rel => exact ⟨(ai), (wrap64 (a2 + 1)), Ye1, Ye1, H', ⟨by have := HK1.out; omega⟩, ⟨be HB.out⟩⟩
     ·rw [if_neg c5] at H
      exact absurd H (by simp)
    ·rw [if_neg c4] at H
     have bd : decide (a2 < (l0.length : Int)) = false := decide_eq_false c4; clear c4; obtain rfl := Option.some.inj H
     go_wp2
     go_ret
     exact ⟨Ye2, be HB.out⟩

/-! ### laws_toChange: function 158 -/
def laws_toChange.f (a0_0 : ByteArray) (a0_1 : Bool) (a0_2 : ByteArray) (a0_3 : Bool) (a0_4 : Bool) (a0_5 : ByteArray) (a0_6 : Bool) : Option (ByteArray × Bool × ByteArray × Bool × Bool × ByteArray × Bool) := (laws_toFile.f a0_1 a0_2 a0_3).bind fun bt1113 => ((laws_toFile.f a0_4 a0_5 a0_6).bind fun bt1116 => (some (a0_0, bt1113.1, bt1113.2.1, bt1113.2.2, bt1116.1, bt1116.2.1, bt1116.2.2)))
set_option maxHeartbeats 8000000 in
set_option maxRecDepth 100000 in
theorem laws_toChange.calls (a0_0 : ByteArray) (a0_1 : Bool) (a0_2 : ByteArray) (a0_3 : Bool) (a0_4 : Bool) (a0_5 : ByteArray) (a0_6 : Bool) (r1 : ByteArray) (r2 : Bool) (r3 : ByteArray) (r4 : Bool) (r5 : Bool) (r6 : ByteArray) (r7 : Bool) (w : World) (h : laws_toChange.f a0_0 a0_1 a0_2 a0_3 a0_4 a0_5 a0_6 = some (r1, r2, r3, r4, r5, r6, r7)) :
  Calls Tryd.prog 158 #[.agg #[.string a0_0, .bool a0_1, .string a0_2, .bool a0_3, .bool a0_4, .string a0_5, .bool a0_6]] w fun e w' => e = .returned (.agg #[.string r1, .bool r2, .string r3, .bool r4, .bool r5, .string r6, .bool r7]) ∧ Below w.heap.size w w' := by
 have hu190 := Tryd.underlying190; have hu125 := Tryd.underlying125; have hu188 := Tryd.underlying188; have hu122 := Tryd.underlying122; have HB := Aside0.mk (Below.refl w.heap.size w); have H : ((laws_toFile.f a0_1 a0_2 a0_3).bind fun bt1113 => ((laws_toFile.f a0_4 a0_5 a0_6).bind fun bt1116 => (some (a0_0, bt1113.1, bt1113.2.1, bt1113.2.2, bt1116.1, bt1116.2.1, bt1116.2.2)))) = some (r1, r2, r3, r4, r5, r6, r7) := h; clear h; replace H := Option.bind_eq_some_iff.mp H; obtain ⟨⟨aY, aZ, b0⟩, A20, H⟩ := H; replace H : ((laws_toFile.f a0_4 a0_5 a0_6).bind fun bt1116 => (some (a0_0, aY, aZ, b0, bt1116.1, bt1116.2.1, bt1116.2.2))) = some (r1, r2, r3, r4, r5, r6, r7) := H; have A2 := Aside0.mk A20; clear A20; replace H := Option.bind_eq_some_iff.mp H; obtain ⟨⟨bo, bq, bu⟩, A30, H⟩ := H; replace H : (some (a0_0, aY, aZ, b0, bo, bq, bu)) = some (r1, r2, r3, r4, r5, r6, r7) := H; have A3 := Aside0.mk A30; clear A30; simp only [Option.some.injEq, Prod.mk.injEq] at H; obtain ⟨rfl, rfl, rfl, rfl, rfl, rfl, rfl⟩ := H
 go_enter Tryd.func158, Tryd.ntmps158
 go_wp2_with (first | ((with_reducible refine gd 1 rfl ?_); refine bx 1 190 (#[.string a0_0, .bool a0_1, .string a0_2, .bool a0_3, .bool a0_4, .string a0_5, .bool a0_6]) ?_; intro ge hg w4 hbox hb; refine Ya4 (below_step (be HB.out) hb) (hbox) (bs hg (be HB.out)) (bs hg (be HB.out)) ?_; clear HB; intro HB ad gg gh; clear hb hbox hg) | ((with_reducible refine gd 2 rfl ?_); refine bx 2 125 (#[.string (⟨#[]⟩ : ByteArray), .bool false, .string (⟨#[]⟩ : ByteArray), .bool false, .bool false, .string (⟨#[]⟩ : ByteArray), .bool false]) ?_; intro dj hg w5 hbox hb; refine Ya7 (bb ad hb) (below_step (bf HB.out) hb) (hbox) (bs hg (bf HB.out)) (bs hg (bf HB.out)) (bl hg ad) (br hg ad) ?_; clear ad HB; intro ad HB af gi gj dk dl; clear hb hbox hg) | ((with_reducible refine gd 3 rfl ?_); refine bx 3 125 (#[.string (⟨#[]⟩ : ByteArray), .bool false, .string (⟨#[]⟩ : ByteArray), .bool false, .bool false, .string (⟨#[]⟩ : ByteArray), .bool false]) ?_; intro bU hg w6 hbox hb; refine Ya10 (bb ad hb) (bb af hb) (below_step (bf HB.out) hb) (hbox) (bs hg (bf HB.out)) (bs hg (bf HB.out)) (bl hg ad) (br hg ad) (bl hg af) (br hg af) ?_; clear ad af HB; intro ad af HB aA gm gn bv dm bw dn; clear hb hbox hg; have hnb7 := dk.out; have hnc7 := dl.out; have hnb8 := bv.out; have hnc8 := dm.out; have ⟨cI, cJ, cK, cL, cM, cN, cO, cP, cQ, cR, cS, cT, cU, cV⟩ := Yc7 ad.out; have cc := dn.out; have cd := bw.out; have ⟨ce, cf, cg, ch, ci, cj, ck, cl, cm, cn, co, cp, cq, cr⟩ := Yc7 aA.out) | ((with_reducible refine gc 184 rfl ?_); refine gl (some 9) _ (#[.agg #[.bool a0_1, .string a0_2, .bool a0_3]]) Tryd.func184 ?_; (with_reducible refine (laws_toFile.calls a0_1 a0_2 a0_3 aY aZ b0 _ A2.out).mono ?_); rintro e w12 ⟨rfl, hb⟩; refine ⟨_, rfl, ?_⟩; refine Ya4 (bbf ad bv hb) (bbf af bw hb) (blk_below (g := bU) (o := .cells #[.string a0_0, .bool false, .string (⟨#[]⟩ : ByteArray), .bool false, .bool false, .string (⟨#[]⟩ : ByteArray), .bool false] 125 (0, 0)) (bp aA.out) hb) (below_step (bf HB.out) hb) ?_; clear ad af aA HB; intro ad af aA HB; (try clear hb); (try clear hb2); (try clear hk); (try clear hi); have ⟨gp, gq, gr, gt, gu, gv, gw, gx, gy, gz, gA, gB, gC, gD⟩ := Yc7 aA.out; have ⟨bD, bE, bF, bG, bH, bI, bJ, bK, bL, bM, bN, bO, bP, bQ⟩ := Yc7 ad.out) | ((with_reducible refine gc 184 rfl ?_); refine gl (some 13) _ (#[.agg #[.bool a0_4, .string a0_5, .bool a0_6]]) Tryd.func184 ?_; (with_reducible refine (laws_toFile.calls a0_4 a0_5 a0_6 bo bq bu _ A3.out).mono ?_); rintro e w15 ⟨rfl, hb⟩; refine ⟨_, rfl, ?_⟩; refine Ya4 (bbf ad bv hb) (bbf af bw hb) (blk_below (g := bU) (o := .cells #[.string a0_0, .bool aY, .string aZ, .bool b0, .bool false, .string (⟨#[]⟩ : ByteArray), .bool false] 125 (0, 0)) (bp aA.out) hb) (below_step (bf HB.out) hb) ?_; clear ad af aA HB; intro ad af aA HB; (try clear hb); (try clear hb2); (try clear hk); (try clear hi); have ⟨cX, cY, cZ, d0, d1, d2, d3, d4, d5, d6, d7, d8, d9, da⟩ := Yc7 aA.out; have ⟨gE, gF, gG, gH, gI, gJ, gK, gL, gM, gN, gO, gP, gQ, gR⟩ := Yc7 af.out))
 refine bodyPost_ret (results_cell_row rfl _ _ dj 125 #[.string a0_0, .bool aY, .string aZ, .bool b0, .bool bo, .string bq, .bool bu] (0, 0) _ rfl (bp af.out) Tryd.underlying125 rfl (by kernel_rfl)) rfl ?_; exact ⟨Ye2, (bf HB.out)⟩

/-! ### laws_toChangeS: function 107 -/
def laws_toChangeS.l0 : Nat → List (S190) → List (S125) → Int → Option ((List (S125)))
 | 0, _, _, _ => none
 | k + 1, x0, x3, x4 => if x4 < (x0.length : Int) then (if 0 ≤ x4 then ((laws_toChange.f ((rd_T190 x0 x4).f0) ((rd_T190 x0 x4).f1.f0) ((rd_T190 x0 x4).f1.f1) ((rd_T190 x0 x4).f1.f2) ((rd_T190 x0 x4).f2.f0) ((rd_T190 x0 x4).f2.f1) ((rd_T190 x0 x4).f2.f2)).bind fun bt1123 => (if x4 < (x3.length : Int) then (laws_toChangeS.l0 k x0 (x3.set (x4 : Int).toNat (⟨bt1123.1, (⟨bt1123.2.1, bt1123.2.2.1, bt1123.2.2.2.1⟩ : S122), (⟨bt1123.2.2.2.2.1, bt1123.2.2.2.2.2.1, bt1123.2.2.2.2.2.2⟩ : S122)⟩ : S125)) (wrap64 (x4 + 1))) else (none))) else (none)) else (some x3)
def laws_toChangeS.f (k : Nat) (l0 : List (S190)) : Option ((List (S125))) := if 0 ≤ (l0.length : Int) then (if ((l0.length : Int) : Int).toNat ≤ 3518437208883 then (laws_toChangeS.l0 k l0 (List.replicate ((l0.length : Int) : Int).toNat z125) 0) else (none)) else (none)
theorem laws_toChangeS.mono_l : ∀ k, (∀ y0 y1 y2, LeO (laws_toChangeS.l0 k y0 y1 y2) (laws_toChangeS.l0 (k + 1) y0 y1 y2))
 | 0 => fun _ _ _ r h => by simp [laws_toChangeS.l0] at h
 | k + 1 => by
  have ih0 := laws_toChangeS.mono_l k
  ·intro y0 y1 y2
   unfold laws_toChangeS.l0
   repeat' first
   | (with_reducible exact ih0 _ _ _)
   | (with_reducible exact LeO.refl _)
   | (with_reducible exact LeO.none _)
   | (with_reducible refine LeO.ite ?_ ?_)
   | (with_reducible refine LeO.bind ?_ (fun _ => ?_))
   | exact ih0 _ _ _
   | exact LeO.none _
   | refine LeO.ite ?_ ?_
   | refine LeO.bind ?_ (fun _ => ?_)
theorem laws_toChangeS.mono : ∀ a0 k, LeO (laws_toChangeS.f k a0) (laws_toChangeS.f (k + 1) a0) := by
 intro a0 k; have ih0 := laws_toChangeS.mono_l k
 unfold laws_toChangeS.f
 repeat' first
   | (with_reducible exact ih0 _ _ _)
   | (with_reducible exact LeO.refl _)
   | (with_reducible exact LeO.none _)
   | (with_reducible refine LeO.ite ?_ ?_)
   | (with_reducible refine LeO.bind ?_ (fun _ => ?_))
   | exact ih0 _ _ _
   | exact LeO.none _
   | refine LeO.ite ?_ ?_
   | refine LeO.bind ?_ (fun _ => ?_)
set_option maxHeartbeats 8000000 in
set_option maxRecDepth 100000 in
theorem laws_toChangeS.calls (k : Nat) (A0 : Option Addr) (c0 : Nat) (l0 : List (S190)) (r : List (S125)) (w : World) (hr0 : Kd.C k190 w A0 l0.length l0) (hc0 : l0.length ≤ c0) (h : laws_toChangeS.f k l0 = some r) :
  Calls Tryd.prog 107 #[.slice A0 l0.length c0] w fun e w' => ∃ v0_ : Value, e = .returned (v0_) ∧ Kd.R k125 125 w' w.heap.size (fun _ => True) v0_ r ∧ Below w.heap.size w w' := by
 have hu190 := Tryd.underlying190; have hu125 := Tryd.underlying125; have aE := Aside0.mk hr0; have HC0 := Aside0.mk hc0; clear hr0 hc0; have HB := Aside0.mk (Below.refl w.heap.size w); have H : (if 0 ≤ (l0.length : Int) then (if ((l0.length : Int) : Int).toNat ≤ 3518437208883 then (laws_toChangeS.l0 k l0 (List.replicate ((l0.length : Int) : Int).toNat z125) 0) else (none)) else (none)) = some r := h; clear h
 by_cases c2 : 0 ≤ (l0.length : Int)
 ·rw [if_pos c2] at H
  have dp := eq_true c2; have dq : decide (0 ≤ (l0.length : Int)) = true := decide_eq_true c2; clear c2
  by_cases c3 : ((l0.length : Int) : Int).toNat ≤ 3518437208883
  ·rw [if_pos c3] at H
   have ah := eq_true c3; have aV : decide (((l0.length : Int) : Int).toNat ≤ 3518437208883) = true := decide_eq_true c3; clear c3
   obtain ⟨bV, b1⟩ : ∃ y_ : List (S125), y_ = (List.replicate ((l0.length : Int) : Int).toNat z125) := ⟨_, rfl⟩
   replace H : (laws_toChangeS.l0 k l0 bV 0) = some r := by first | (rw [b1]; with_reducible exact H) | (have H2_ := (Option.bind_some _ _).symm.trans H; rw [b1]; with_reducible exact H2_) | (have H2_ := (Option.bind_some _ _).symm.trans H; with_reducible exact H2_) | with_reducible exact H | (rw [b1]; exact H) | exact H
   have bW := Aside0.mk b1; clear b1; have H' := Aside0.mk H; clear H
   go_enter Tryd.func107, Tryd.ntmps107
   go_wp2_with (first | ((with_reducible refine gd 7 rfl ?_); refine Kd.R_make k125 _ 125 rfl (N := 7) rfl 54 _ _ rfl (l0.length : Int) rfl rfl Tryd.underlying54 (.agg #[(.string ⟨#[]⟩), (.bool false), (.string ⟨#[]⟩), (.bool false), (.bool false), (.string ⟨#[]⟩), (.bool false)]) 80 info125 rfl (by decide) (by omega) z125 (ok := fun _ => True) (okp := fun _ => True) (k125_mkM _ _ _ z125 ) (fun _ hk => hk) trivial (oda) (Nat.le_trans (Nat.mul_le_mul_right _ (oda : (l0.length : Int).toNat ≤ 3518437208883)) (by omega)) (Below.refl _ _) (Nat.le_refl _) ?_; intro dr w4 ho5 hb hg_ hnew_; clear hg_ hnew_; (first | rw [← bW.out] at ho5 | (simp only [Int.reduceToNat] at ho5; rw [← bW.out] at ho5)); refine Ya2 (Kd.R_lower ho5 (below_size (be HB.out))) (below_step (be HB.out) hb) ?_; clear HB; intro dt HB; clear hb ho5))
   go_loopg [4] k (fun kq v4 w' => ∃ (aa : List (S125)) (a3 : Int), v4 = .int .i64 a3 ∧ Aside0 (laws_toChangeS.l0 kq l0 aa a3 = some r) ∧ Aside0 (kq ≤ k) ∧ Aside0 (Kd.R k125 125 w' w.heap.size (fun _ => True) dr aa) ∧ Aside0 (Below w.heap.size w w'))
   case atStart => exact ⟨(bV), (0), Ye1, H', ⟨Nat.le_refl _⟩, ⟨kr dt.out⟩, ⟨be HB.out⟩⟩
   case round =>
    clear H'; (try clear c1); (try clear c2); (try clear dp); (try clear dq); (try clear p2); (try clear c3); (try clear ah); (try clear aV); obtain ⟨aa, a3, rfl, HA, HK1, ag, HB⟩ := hrel
    cases gk with
    | zero => exact absurd HA.out (by simp [laws_toChangeS.l0])
    | succ k1 =>
     have H := HA.out; clear HA; simp only [laws_toChangeS.l0] at H
     by_cases c6 : a3 < (l0.length : Int)
     ·rw [if_pos c6] at H
      have bS : decide (a3 < (l0.length : Int)) = true := decide_eq_true c6; clear c6
      by_cases c7 : 0 ≤ a3
      ·rw [if_pos c7] at H
       have b4 : decide (0 ≤ a3) = true := decide_eq_true c7; clear c7; replace H := Option.bind_eq_some_iff.mp H; obtain ⟨⟨aM, aN, aO, aP, aQ, aR, aS⟩, A80, H⟩ := H; replace H : (if a3 < (aa.length : Int) then (laws_toChangeS.l0 k1 l0 (aa.set (a3 : Int).toNat (⟨aM, (⟨aN, aO, aP⟩ : S122), (⟨aQ, aR, aS⟩ : S122)⟩ : S125)) (wrap64 (a3 + 1))) else (none)) = some r := H; have A8 := Aside0.mk A80; clear A80
       by_cases c9 : a3 < (aa.length : Int)
       ·rw [if_pos c9] at H
        have c9b0 : decide (a3 < (aa.length : Int)) = true := decide_eq_true c9; clear c9
        obtain ⟨bz, b2⟩ : ∃ y_ : List (S125), y_ = (aa.set (a3 : Int).toNat (⟨aM, (⟨aN, aO, aP⟩ : S122), (⟨aQ, aR, aS⟩ : S122)⟩ : S125)) := ⟨_, rfl⟩
        replace H : (laws_toChangeS.l0 k1 l0 bz (wrap64 (a3 + 1))) = some r := by first | (rw [b2]; with_reducible exact H) | (have H2_ := (Option.bind_some _ _).symm.trans H; rw [b2]; with_reducible exact H2_) | (have H2_ := (Option.bind_some _ _).symm.trans H; with_reducible exact H2_) | with_reducible exact H | (rw [b2]; exact H) | exact H
        have du := Aside0.mk b2; clear b2; have H' := Aside0.mk H; clear H; have bA : 0 ≤ (a3 : Int) := oda; have bB : a3 < (l0.length : Int) := oda; obtain ⟨gS, dv, gT, gU, gV, gW, gX, gY, gZ⟩ := at_T190 (Kd.C_below aE.out HB.out) a3 bA bB
        cases dv
        replace bA := eq_true bA; replace bB := eq_true bB
        go_wp2_with (first | ((with_reducible refine gc 158 rfl ?_); refine gl (some 20) _ (#[.agg #[.string ((rd_T190 l0 a3).f0), .bool ((rd_T190 l0 a3).f1.f0), .string ((rd_T190 l0 a3).f1.f1), .bool ((rd_T190 l0 a3).f1.f2), .bool ((rd_T190 l0 a3).f2.f0), .string ((rd_T190 l0 a3).f2.f1), .bool ((rd_T190 l0 a3).f2.f2)]]) Tryd.func158 ?_; (with_reducible refine (laws_toChange.calls ((rd_T190 l0 a3).f0) ((rd_T190 l0 a3).f1.f0) ((rd_T190 l0 a3).f1.f1) ((rd_T190 l0 a3).f1.f2) ((rd_T190 l0 a3).f2.f0) ((rd_T190 l0 a3).f2.f1) ((rd_T190 l0 a3).f2.f2) aM aN aO aP aQ aR aS _ A8.out).mono ?_); rintro e ab ⟨rfl, hb⟩; refine ⟨_, rfl, ?_⟩; refine Ya2 (Kd.R_below (kr ag.out) hb) (below_step (be HB.out) hb) ?_; clear ag HB; intro ag HB; (try clear hb); (try clear hb2); (try clear hk); (try clear hi); have p10 : 0 ≤ (a3 : Int) := oda; have q10 : (a3 : Int) < ((aa.length : Int) : Int) := oda; obtain ⟨a9, bX, bY, bZ, gl10, cl10, HG10⟩ := Kd.R_form ag.out (by omega); (first | cases bY | (injection bY with ea_ en_ ec_; (first | subst ea_ | (injection ea_ with ea_; subst ea_)); subst ec_; clear en_)); have aT := Aside0.mk bZ; have GG10 := Aside0.mk HG10; clear bZ gl10 HG10; obtain ⟨ce10, hcl10, hM10, hcc10, hfr10⟩ := Kd.R_elem ag.out z125 (a3 : Int) p10 q10; obtain rfl := k125_openM hM10; have h0 : ab.cell? ⟨a9, (a3 : Int).toNat * 7, none⟩ = some (.string ((rd_T125 aa a3).f0)) := hcc10 0 _ rfl; have h1 : ab.cell? ⟨a9, (a3 : Int).toNat * 7 + 1, none⟩ = some (.bool ((rd_T125 aa a3).f1.f0)) := hcc10 1 _ rfl; have h2 : ab.cell? ⟨a9, (a3 : Int).toNat * 7 + 2, none⟩ = some (.string ((rd_T125 aa a3).f1.f1)) := hcc10 2 _ rfl; have h3 : ab.cell? ⟨a9, (a3 : Int).toNat * 7 + 3, none⟩ = some (.bool ((rd_T125 aa a3).f1.f2)) := hcc10 3 _ rfl; have h4 : ab.cell? ⟨a9, (a3 : Int).toNat * 7 + 4, none⟩ = some (.bool ((rd_T125 aa a3).f2.f0)) := hcc10 4 _ rfl; have h5 : ab.cell? ⟨a9, (a3 : Int).toNat * 7 + 5, none⟩ = some (.string ((rd_T125 aa a3).f2.f1)) := hcc10 5 _ rfl; have h6 : ab.cell? ⟨a9, (a3 : Int).toNat * 7 + 6, none⟩ = some (.bool ((rd_T125 aa a3).f2.f2)) := hcc10 6 _ rfl; have hf10_0 : ab.frozen? ⟨a9, (a3 : Int).toNat * 7, none⟩ = false := hfr10 0; have hf10_1 : ab.frozen? ⟨a9, (a3 : Int).toNat * 7 + 1, none⟩ = false := hfr10 1; have hf10_2 : ab.frozen? ⟨a9, (a3 : Int).toNat * 7 + 2, none⟩ = false := hfr10 2; have hf10_3 : ab.frozen? ⟨a9, (a3 : Int).toNat * 7 + 3, none⟩ = false := hfr10 3; have hf10_4 : ab.frozen? ⟨a9, (a3 : Int).toNat * 7 + 4, none⟩ = false := hfr10 4; have hf10_5 : ab.frozen? ⟨a9, (a3 : Int).toNat * 7 + 5, none⟩ = false := hfr10 5; have hf10_6 : ab.frozen? ⟨a9, (a3 : Int).toNat * 7 + 6, none⟩ = false := hfr10 6; (try clear hM10); clear hcl10 hcc10 hfr10; replace p10 := eq_true p10; replace q10 := eq_true q10; have ca := Aside0.mk (show Kd.R k125 125 ab w.heap.size (fun _ => True) (.slice (some ⟨a9, 0, none⟩) aa.length bX) aa from (kr ag.out)); obtain ⟨ce12, hcl12, hM12, hcc12, hfr12⟩ := Kd.R_elem ca.out z125 (a3 : Int) (oda) (by have h_ : (a3 : Int) < ((aa.length : Int) : Int) := oda; first | exact h_ | (have e_ := (Kd.R_reads' ag.out).1; omega) | simpa using h_); obtain rfl := k125_openM hM12; have bC := Kd.R_seg ca.out (a3 : Int) (oda) (by have h_ : (a3 : Int) < ((aa.length : Int) : Int) := oda; first | exact h_ | (have e_ := (Kd.R_reads' ag.out).1; omega) | simpa using h_) (seg := [.string aM, .bool aN, .string aO, .bool aP, .bool aQ, .string aR, .bool aS]) (j := 0) hcl12 hcc12 (show 7 ≤ 7 from by decide) (x' := (⟨aM, (⟨aN, aO, aP⟩ : S122), (⟨aQ, aR, aS⟩ : S122)⟩ : S125)) (k125_mkM _ _ _ (⟨aM, (⟨aN, aO, aP⟩ : S122), (⟨aQ, aR, aS⟩ : S122)⟩ : S125) ) (fun _ hk => hk); have dw := hcc12 0 _ rfl; (try simp only [show (k125).sz = 7 from rfl, Nat.mul_one, Nat.add_zero] at dw); have hf12_0 := hfr12 0; (try simp only [show (k125).sz = 7 from rfl, Nat.mul_one, Nat.add_zero] at hf12_0); have dx := hcc12 1 _ rfl; (try simp only [show (k125).sz = 7 from rfl, Nat.mul_one, Nat.add_zero] at dx); have hf12_1 := hfr12 1; (try simp only [show (k125).sz = 7 from rfl, Nat.mul_one, Nat.add_zero] at hf12_1); have dy := hcc12 2 _ rfl; (try simp only [show (k125).sz = 7 from rfl, Nat.mul_one, Nat.add_zero] at dy); have hf12_2 := hfr12 2; (try simp only [show (k125).sz = 7 from rfl, Nat.mul_one, Nat.add_zero] at hf12_2); have dA := hcc12 3 _ rfl; (try simp only [show (k125).sz = 7 from rfl, Nat.mul_one, Nat.add_zero] at dA); have hf12_3 := hfr12 3; (try simp only [show (k125).sz = 7 from rfl, Nat.mul_one, Nat.add_zero] at hf12_3); have dB := hcc12 4 _ rfl; (try simp only [show (k125).sz = 7 from rfl, Nat.mul_one, Nat.add_zero] at dB); have hf12_4 := hfr12 4; (try simp only [show (k125).sz = 7 from rfl, Nat.mul_one, Nat.add_zero] at hf12_4); have dC := hcc12 5 _ rfl; (try simp only [show (k125).sz = 7 from rfl, Nat.mul_one, Nat.add_zero] at dC); have hf12_5 := hfr12 5; (try simp only [show (k125).sz = 7 from rfl, Nat.mul_one, Nat.add_zero] at hf12_5); have dD := hcc12 6 _ rfl; (try simp only [show (k125).sz = 7 from rfl, Nat.mul_one, Nat.add_zero] at dD); have hf12_6 := hfr12 6; (try simp only [show (k125).sz = 7 from rfl, Nat.mul_one, Nat.add_zero] at hf12_6); (try clear hM12); clear hcl12 hcc12 hfr12) | ((with_reducible refine gate_store (t := 125) (p := 21) rfl ?_); refine store_event (t := 125) (p := 21) (v := ?vo_w13) (w1 := (((((((ab.setCell ⟨a9, (a3 : Int).toNat * 7, none⟩ (.string aM)).setCell ⟨a9, (a3 : Int).toNat * 7 + 1, none⟩ (.bool aN)).setCell ⟨a9, (a3 : Int).toNat * 7 + 2, none⟩ (.string aO)).setCell ⟨a9, (a3 : Int).toNat * 7 + 3, none⟩ (.bool aP)).setCell ⟨a9, (a3 : Int).toNat * 7 + 4, none⟩ (.bool aQ)).setCell ⟨a9, (a3 : Int).toNat * 7 + 5, none⟩ (.string aR)).setCell ⟨a9, (a3 : Int).toNat * 7 + 6, none⟩ (.bool aS))) ?hg ?ho ?hn ?hr ?_; (case ho => rfl); (case hg => rfl); (case hn => rfl); (case hr => first | (go_simp; done) | (go_simp; rfl)); intro aX hw; have hg : ab.grownBy aX (some a9) := (by rw [hw]; exact bC.2); have hp_ : Kd.R k125 125 aX w.heap.size (fun _ => True) (.slice (some ⟨a9, 0, none⟩) aa.length bX) bz := (by rw [hw, du.out]; exact bC.1); clear bC; refine Ya2 (hp_) ((by rw [hw]; exact below_set (below_set (below_set (below_set (below_set (below_set (below_set (HB.out) aT.out) aT.out) aT.out) aT.out) aT.out) aT.out) aT.out : Below w.heap.size w aX)) ?_; clear ag HB; intro ag HB; clear hg hw hp_))
        go_roundg k1
        case measure => have := HK1.out; omega
        case rel => exact ⟨(bz), (wrap64 (a3 + 1)), Ye1, H', ⟨by have := HK1.out; omega⟩, ⟨kr ag.out⟩, ⟨be HB.out⟩⟩
       ·rw [if_neg c9] at H
        exact absurd H (by simp)
      ·rw [if_neg c7] at H
       exact absurd H (by simp)
     ·rw [if_neg c6] at H
      have bS : decide (a3 < (l0.length : Int)) = false := decide_eq_false c6; clear c6; obtain rfl := Option.some.inj H
      go_wp2
      go_ret
      exact ⟨_, Ye2, kr ag.out, be HB.out⟩
  ·rw [if_neg c3] at H
   exact absurd H (by simp)
 ·rw [if_neg c2] at H
  exact absurd H (by simp)

end Go.Proofs.YtgnmledjkamojaaDoor.P


namespace Go.Proofs.YtgnmledjkamojaaDoor.P
open Go.RowKit Go.Proofs.YtgnmledjkamojaaDoorW.PrintWords Go.Proofs.YtgnmledjkamojaaDoorW.PrintLast Go.Proofs.YtgnmledjkamojaaDoorW.PrintMore
attribute [local go_sem] max2_int min2_int max_two min_two max_three min_three max_four min_four
set_option linter.unusedVariables false
set_option linter.unusedSimpArgs false

/-! ### laws_eqPatch: function 37 -/
def laws_eqPatch.f (k : Nat) (a2 : List (S125)) (a6 : List (S125)) : Option (Bool) := (laws_eqChangeS.f k a2 a6).bind fun ah => (if ah = true then (some true) else (some false))
theorem laws_eqPatch.mono : ∀ a0 a1 k, LeO (laws_eqPatch.f k a0 a1) (laws_eqPatch.f (k + 1) a0 a1) := by
 intro a0 a1 k
 unfold laws_eqPatch.f
 repeat' first
   | (with_reducible exact laws_eqChangeS.mono _ _ _)
   | (with_reducible exact LeO.refl _)
   | (with_reducible exact LeO.none _)
   | (with_reducible refine LeO.ite ?_ ?_)
   | (with_reducible refine LeO.bind ?_ (fun _ => ?_))
   | exact laws_eqChangeS.mono _ _ _
   | exact LeO.none _
   | refine LeO.ite ?_ ?_
   | refine LeO.bind ?_ (fun _ => ?_)
set_option maxHeartbeats 8000000 in
set_option maxRecDepth 100000 in
theorem laws_eqPatch.calls (k : Nat) (a4 : Option Addr) (a5 : Nat) (a2 : List (S125)) (ai : Option Addr) (aj : Nat) (a6 : List (S125)) (r : Bool) (w : World) (ad : Kd.C k125 w a4 a2.length a2) (ae : a2.length ≤ a5) (aq : Kd.C k125 w ai a6.length a6) (ar : a6.length ≤ aj) (h : laws_eqPatch.f k a2 a6 = some r) :
  Calls Tryd.prog 37 #[.agg #[.slice a4 a2.length a5], .agg #[.slice ai a6.length aj]] w fun e w' => e = .returned (.bool r) ∧ Below w.heap.size w w' := by
 have hu56 := Tryd.underlying56; have af := Aside0.mk ad; have ag := Aside0.mk ae; clear ad ae; have au := Aside0.mk aq; have av := Aside0.mk ar; clear aq ar; have HB := Aside0.mk (Below.refl w.heap.size w); have H : ((laws_eqChangeS.f k a2 a6).bind fun ah => (if ah = true then (some true) else (some false))) = some r := h; clear h; replace H := Option.bind_eq_some_iff.mp H; obtain ⟨ah, ak, H⟩ := H; replace H : (if ah = true then (some true) else (some false)) = some r := H; have A3 := Aside0.mk ak; clear ak
 by_cases c4 : ah = true
 ·subst c4
  have H1 : (some true) = some r := by rw [if_pos rfl] at H; exact H
  clear H; have H := H1; clear H1; obtain rfl := Option.some.inj H
  go_enter Tryd.func37, Tryd.ntmps37
  go_wp2_with (first | ((with_reducible refine gd 2 rfl ?_); refine bx 2 56 (#[.slice a4 a2.length a5]) ?_; intro ay hg w5 hbox hb; refine Ya4 (below_step (be HB.out) hb) (hbox) (bs hg (be HB.out)) (bs hg (be HB.out)) ?_; clear HB; intro HB a3 az aA; clear hb hbox hg) | ((with_reducible refine gd 3 rfl ?_); refine bx 3 56 (#[.slice ai a6.length aj]) ?_; intro aB hg w6 hbox hb; refine Ya7 (bb a3 hb) (below_step (bf HB.out) hb) (hbox) (bs hg (bf HB.out)) (bs hg (bf HB.out)) (bl hg a3) (br hg a3) ?_; clear a3 HB; intro a3 HB aa aC aD am an; clear hb hbox hg; have aE := am.out; have aF := an.out; have ⟨aG, aH⟩ := Yc1 a3.out; have ⟨aI, aJ⟩ := Yc1 aa.out) | ((with_reducible refine gc 100 rfl ?_); refine gl (some 9) _ (#[.slice a4 a2.length a5, .slice ai a6.length aj]) Tryd.func100 ?_; (with_reducible refine (laws_eqChangeS.calls k _ _ a2 _ _ a6 true _ ?side1 ?side2 ?side3 ?side4 A3.out).mono ?_); (case side1 => exact cb (Kd.C_below af.out HB.out)); (case side2 => exact ag.out); (case side3 => exact cb (Kd.C_below au.out HB.out)); (case side4 => exact av.out); rintro e w10 ⟨rfl, hb⟩; refine ⟨_, rfl, ?_⟩; refine Ya3 (bb a3 hb) (bb aa hb) (below_step (bf HB.out) hb) ?_; clear a3 aa HB; intro a3 aa HB; (try clear hb); (try clear hb2); (try clear hk); (try clear hi)))
  go_ret
  exact ⟨Ye2, (bf HB.out)⟩
 ·replace c4 := Bool.eq_false_iff.mpr c4; subst c4
  have H1 : (some false) = some r := by rw [if_neg (show ¬ (false = true) by decide)] at H; exact H
  clear H; have H := H1; clear H1; obtain rfl := Option.some.inj H
  go_enter Tryd.func37, Tryd.ntmps37
  go_wp2_with (first | ((with_reducible refine gd 2 rfl ?_); refine bx 2 56 (#[.slice a4 a2.length a5]) ?_; intro ay hg w11 hbox hb; refine Ya4 (below_step (be HB.out) hb) (hbox) (bs hg (be HB.out)) (bs hg (be HB.out)) ?_; clear HB; intro HB a3 az aA; clear hb hbox hg) | ((with_reducible refine gd 3 rfl ?_); refine bx 3 56 (#[.slice ai a6.length aj]) ?_; intro aB hg w12 hbox hb; refine Ya7 (bb a3 hb) (below_step (bf HB.out) hb) (hbox) (bs hg (bf HB.out)) (bs hg (bf HB.out)) (bl hg a3) (br hg a3) ?_; clear a3 HB; intro a3 HB aa aC aD am an; clear hb hbox hg; have hnb13 := am.out; have hnc13 := an.out; have ⟨aW, aX⟩ := Yc1 a3.out; have ⟨aY, aZ⟩ := Yc1 aa.out) | ((with_reducible refine gc 100 rfl ?_); refine gl (some 9) _ (#[.slice a4 a2.length a5, .slice ai a6.length aj]) Tryd.func100 ?_; (with_reducible refine (laws_eqChangeS.calls k _ _ a2 _ _ a6 false _ ?side1 ?side2 ?side3 ?side4 A3.out).mono ?_); (case side1 => exact cb (Kd.C_below af.out HB.out)); (case side2 => exact ag.out); (case side3 => exact cb (Kd.C_below au.out HB.out)); (case side4 => exact av.out); rintro e w16 ⟨rfl, hb⟩; refine ⟨_, rfl, ?_⟩; refine Ya3 (bb a3 hb) (bb aa hb) (below_step (bf HB.out) hb) ?_; clear a3 aa HB; intro a3 aa HB; (try clear hb); (try clear hb2); (try clear hk); (try clear hi)))
  go_ret
  exact ⟨Ye2, (bf HB.out)⟩

/-! ### laws_szPatch: function 40 -/
def laws_szPatch.f (k : Nat) (a2 : List (S190)) (a1 : Int) : Option (Int) := (laws_szChangeS.f k a2 a1).bind fun a8 => (if a8 < 0 then (some (-1)) else (some a8))
theorem laws_szPatch.mono : ∀ a0 a1 k, LeO (laws_szPatch.f k a0 a1) (laws_szPatch.f (k + 1) a0 a1) := by
 intro a0 a1 k
 unfold laws_szPatch.f
 repeat' first
   | (with_reducible exact laws_szChangeS.mono _ _ _)
   | (with_reducible exact LeO.refl _)
   | (with_reducible exact LeO.none _)
   | (with_reducible refine LeO.ite ?_ ?_)
   | (with_reducible refine LeO.bind ?_ (fun _ => ?_))
   | exact laws_szChangeS.mono _ _ _
   | exact LeO.none _
   | refine LeO.ite ?_ ?_
   | refine LeO.bind ?_ (fun _ => ?_)
set_option maxHeartbeats 8000000 in
set_option maxRecDepth 100000 in
theorem laws_szPatch.calls (k : Nat) (a4 : Option Addr) (a5 : Nat) (a2 : List (S190)) (a1 : Int) (r : Int) (w : World) (ad : Kd.C k190 w a4 a2.length a2) (ae : a2.length ≤ a5) (h : laws_szPatch.f k a2 a1 = some r) :
  Calls Tryd.prog 40 #[.agg #[.slice a4 a2.length a5], .int .i64 a1] w fun e w' => e = .returned (.int .i64 r) ∧ Below w.heap.size w w' := by
 have hu62 := Tryd.underlying62; have af := Aside0.mk ad; have ag := Aside0.mk ae; clear ad ae; have HB := Aside0.mk (Below.refl w.heap.size w); have H : ((laws_szChangeS.f k a2 a1).bind fun a8 => (if a8 < 0 then (some (-1)) else (some a8))) = some r := h; clear h; replace H := Option.bind_eq_some_iff.mp H; obtain ⟨a8, ak, H⟩ := H; replace H : (if a8 < 0 then (some (-1)) else (some a8)) = some r := H; have A3 := Aside0.mk ak; clear ak
 by_cases c4 : a8 < 0
 ·rw [if_pos c4] at H
  have aK : decide (a8 < 0) = true := decide_eq_true c4; clear c4; obtain rfl := Option.some.inj H
  go_enter Tryd.func40, Tryd.ntmps40
  go_wp2_with (first | ((with_reducible refine gd 2 rfl ?_); refine bx 2 62 (#[.slice a4 a2.length a5]) ?_; intro aL hg w5 hbox hb; refine Ya4 (below_step (be HB.out) hb) (hbox) (bs hg (be HB.out)) (bs hg (be HB.out)) ?_; clear HB; intro HB ab aM aN; clear hb hbox hg; have ⟨b0, b1⟩ := Yc1 ab.out) | ((with_reducible refine gc 103 rfl ?_); refine gl (some 8) _ (#[.slice a4 a2.length a5, .int .i64 a1]) Tryd.func103 ?_; (with_reducible refine (laws_szChangeS.calls k _ _ a2 a1 a8 _ ?side1 ?side2 A3.out).mono ?_); (case side1 => exact cb (Kd.C_below af.out HB.out)); (case side2 => exact ag.out); rintro e w7 ⟨rfl, hb⟩; refine ⟨_, rfl, ?_⟩; refine Ya2 (bb ab hb) (below_step (bf HB.out) hb) ?_; clear ab HB; intro ab HB; (try clear hb); (try clear hb2); (try clear hk); (try clear hi)))
  go_ret
  exact ⟨Ye2, (bf HB.out)⟩
 ·rw [if_neg c4] at H
  have aK : decide (a8 < 0) = false := decide_eq_false c4; clear c4; obtain rfl := Option.some.inj H
  go_enter Tryd.func40, Tryd.ntmps40
  go_wp2_with (first | ((with_reducible refine gd 2 rfl ?_); refine bx 2 62 (#[.slice a4 a2.length a5]) ?_; intro aL hg w8 hbox hb; refine Ya4 (below_step (be HB.out) hb) (hbox) (bs hg (be HB.out)) (bs hg (be HB.out)) ?_; clear HB; intro HB ab aM aN; clear hb hbox hg; have ⟨aI, aJ⟩ := Yc1 ab.out) | ((with_reducible refine gc 103 rfl ?_); refine gl (some 8) _ (#[.slice a4 a2.length a5, .int .i64 a1]) Tryd.func103 ?_; (with_reducible refine (laws_szChangeS.calls k _ _ a2 a1 a8 _ ?side1 ?side2 A3.out).mono ?_); (case side1 => exact cb (Kd.C_below af.out HB.out)); (case side2 => exact ag.out); rintro e w10 ⟨rfl, hb⟩; refine ⟨_, rfl, ?_⟩; refine Ya2 (bb ab hb) (below_step (bf HB.out) hb) ?_; clear ab HB; intro ab HB; (try clear hb); (try clear hb2); (try clear hk); (try clear hi)))
  go_ret
  exact ⟨Ye2, (bf HB.out)⟩

/-! ### laws_toPatch: function 42 -/
def laws_toPatch.f (k : Nat) (a2 : List (S190)) : Option ((List (S125))) := (laws_toChangeS.f k a2).bind fun ac => (some ac)
theorem laws_toPatch.mono : ∀ a0 k, LeO (laws_toPatch.f k a0) (laws_toPatch.f (k + 1) a0) := by
 intro a0 k
 unfold laws_toPatch.f
 repeat' first
   | (with_reducible exact laws_toChangeS.mono _ _)
   | (with_reducible exact LeO.refl _)
   | (with_reducible exact LeO.none _)
   | (with_reducible refine LeO.ite ?_ ?_)
   | (with_reducible refine LeO.bind ?_ (fun _ => ?_))
   | exact laws_toChangeS.mono _ _
   | exact LeO.none _
   | refine LeO.ite ?_ ?_
   | refine LeO.bind ?_ (fun _ => ?_)
set_option maxHeartbeats 8000000 in
set_option maxRecDepth 100000 in
theorem laws_toPatch.calls (k : Nat) (a4 : Option Addr) (a5 : Nat) (a2 : List (S190)) (r : List (S125)) (w : World) (ad : Kd.C k190 w a4 a2.length a2) (ae : a2.length ≤ a5) (h : laws_toPatch.f k a2 = some r) :
  Calls Tryd.prog 42 #[.agg #[.slice a4 a2.length a5]] w fun e w' => ∃ v0_ : Value, e = .returned (.agg #[v0_]) ∧ Kd.R k125 125 w' w.heap.size (fun _ => True) v0_ r ∧ Below w.heap.size w w' := by
 have hu62 := Tryd.underlying62; have hu56 := Tryd.underlying56; have af := Aside0.mk ad; have ag := Aside0.mk ae; clear ad ae; have HB := Aside0.mk (Below.refl w.heap.size w); have H : ((laws_toChangeS.f k a2).bind fun ac => (some ac)) = some r := h; clear h; replace H := Option.bind_eq_some_iff.mp H; obtain ⟨ac, A20, H⟩ := H; replace H : (some ac) = some r := H; have A2 := Aside0.mk A20; clear A20; obtain rfl := Option.some.inj H
 go_enter Tryd.func42, Tryd.ntmps42
 go_wp2_with (first | ((with_reducible refine gd 1 rfl ?_); refine bx 1 62 (#[.slice a4 a2.length a5]) ?_; intro b2 hg w3 hbox hb; refine Ya4 (below_step (be HB.out) hb) (hbox) (bs hg (be HB.out)) (bs hg (be HB.out)) ?_; clear HB; intro HB a7 b3 b4; clear hb hbox hg) | ((with_reducible refine gd 2 rfl ?_); refine bx 2 56 (#[.slice none 0 0]) ?_; intro aw hg w4 hbox hb; refine Ya7 (bb a7 hb) (below_step (bf HB.out) hb) (hbox) (bs hg (bf HB.out)) (bs hg (bf HB.out)) (bl hg a7) (br hg a7) ?_; clear a7 HB; intro a7 HB a9 b5 b6 aO aP; clear hb hbox hg) | ((with_reducible refine gd 3 rfl ?_); refine bx 3 56 (#[.slice none 0 0]) ?_; intro aQ hg w5 hbox hb; refine Ya10 (bb a7 hb) (bb a9 hb) (below_step (bf HB.out) hb) (hbox) (bs hg (bf HB.out)) (bs hg (bf HB.out)) (bl hg a7) (br hg a7) (bl hg a9) (br hg a9) ?_; clear a7 a9 HB; intro a7 a9 HB al b7 b8 aR aS aT aU; clear hb hbox hg; have hnb6 := aO.out; have hnc6 := aP.out; have aE := aR.out; have aF := aS.out; have ⟨aG, aH⟩ := Yc1 a7.out) | ((with_reducible refine gc 107 rfl ?_); refine gl (some 6) _ (#[.slice a4 a2.length a5]) Tryd.func107 ?_; (with_reducible refine (laws_toChangeS.calls k _ _ a2 ac _ ?side1 ?side2 A2.out).mono ?_); (case side1 => exact cb (Kd.C_below af.out HB.out)); (case side2 => exact ag.out); rintro e w9 ⟨v1135, rfl, ho0, hb⟩; refine ⟨_, rfl, ?_⟩; refine Ya5 (Kd.R_lower ho0 (below_size (bf HB.out))) (bb a7 hb) (bb a9 hb) (bb al hb) (below_step (bf HB.out) hb) ?_; clear a7 a9 al HB; intro ax a7 a9 al HB; (try clear hb); (try clear hb2); (try clear hk); (try clear hi); (try clear ho0); obtain ⟨ao, ap, aV⟩ := Kd.R_slice ax.out; subst aV; have hnb11 := aU.out; have hnc11 := aT.out; have ⟨b9, ba⟩ := Yc1 al.out; have ⟨bd, bg⟩ := Yc1 a9.out))
 refine bodyPost_ret (results_cell_row rfl _ _ aw 56 #[.slice ao ac.length ap] (0, 0) _ rfl (bp a9.out) Tryd.underlying56 rfl (by kernel_rfl)) rfl ?_; exact ⟨_, Ye2, by (with_reducible repeat (first | apply Kd.R_alloc | apply Kd.R_drewN | apply Kd.R_drew)); exact Kd.R_mono (Kd.R_far (p := ⟨aw, 0, none⟩) (Kd.R_far (p := ⟨aQ, 0, none⟩) (Kd.R_types (Kd.R_types ax.out al.out (by decide)) a9.out (by decide)) (fun _ hk => hk.1.2) (.slice ao ac.length ap)) (fun _ hk => hk.2) (.slice ao ac.length ap)) (fun _ hk => trivial), (bf HB.out)⟩

end Go.Proofs.YtgnmledjkamojaaDoor.P


namespace Go.Proofs.YtgnmledjkamojaaDoor.P
open Go.RowKit Go.Proofs.YtgnmledjkamojaaDoorW.PrintWords Go.Proofs.YtgnmledjkamojaaDoorW.PrintLast Go.Proofs.YtgnmledjkamojaaDoorW.PrintMore
attribute [local go_sem] max2_int min2_int max_two min_two max_three min_three max_four min_four
set_option linter.unusedVariables false
set_option linter.unusedSimpArgs false

/-! ### laws_szEntry: function 138 -/
def laws_szEntry.f (a0_0 : ByteArray) (a0_1 : ByteArray) (a0_2 : Bool) (a1 : Int) : Option (Int) := if (wrap64 (a1 - (a0_0.size : Int))) < 0 then (some (-1)) else (if (wrap64 ((wrap64 (a1 - (a0_0.size : Int))) - (a0_1.size : Int))) < 0 then (some (-1)) else (some (wrap64 ((wrap64 (a1 - (a0_0.size : Int))) - (a0_1.size : Int)))))
set_option maxHeartbeats 8000000 in
set_option maxRecDepth 100000 in
theorem laws_szEntry.calls (a0_0 : ByteArray) (a0_1 : ByteArray) (a0_2 : Bool) (a1 : Int) (r : Int) (w : World) (h : laws_szEntry.f a0_0 a0_1 a0_2 a1 = some r) :
  Calls Tryd.prog 138 #[.agg #[.string a0_0, .string a0_1, .bool a0_2], .int .i64 a1] w fun e w' => e = .returned (.int .i64 r) ∧ Below w.heap.size w w' := by
 have hu172 := Tryd.underlying172; have HB := Aside0.mk (Below.refl w.heap.size w); have H : (if (wrap64 (a1 - (a0_0.size : Int))) < 0 then (some (-1)) else (if (wrap64 ((wrap64 (a1 - (a0_0.size : Int))) - (a0_1.size : Int))) < 0 then (some (-1)) else (some (wrap64 ((wrap64 (a1 - (a0_0.size : Int))) - (a0_1.size : Int)))))) = some r := h; clear h
 by_cases c3 : (wrap64 (a1 - (a0_0.size : Int))) < 0
 ·rw [if_pos c3] at H
  have a8 : decide ((wrap64 (a1 - (a0_0.size : Int))) < 0) = true := decide_eq_true c3; clear c3; obtain rfl := Option.some.inj H
  go_enter Tryd.func138, Tryd.ntmps138
  go_wp2_with (first | ((with_reducible refine gd 2 rfl ?_); refine bx 2 172 (#[.string a0_0, .string a0_1, .bool a0_2]) ?_; intro aY hg w4 hbox hb; refine Ya4 (below_step (be HB.out) hb) (hbox) (bs hg (be HB.out)) (bs hg (be HB.out)) ?_; clear HB; intro HB aC aZ b0; clear hb hbox hg; have ⟨bX, bY, bZ, ca, cc, cd⟩ := Yc3 aC.out))
  go_ret
  exact ⟨Ye2, (bf HB.out)⟩
 ·rw [if_neg c3] at H
  have a8 : decide ((wrap64 (a1 - (a0_0.size : Int))) < 0) = false := decide_eq_false c3; clear c3
  by_cases c6 : (wrap64 ((wrap64 (a1 - (a0_0.size : Int))) - (a0_1.size : Int))) < 0
  ·rw [if_pos c6] at H
   have aG : decide ((wrap64 ((wrap64 (a1 - (a0_0.size : Int))) - (a0_1.size : Int))) < 0) = true := decide_eq_true c6; clear c6; obtain rfl := Option.some.inj H
   go_enter Tryd.func138, Tryd.ntmps138
   go_wp2_with (first | ((with_reducible refine gd 2 rfl ?_); refine bx 2 172 (#[.string a0_0, .string a0_1, .bool a0_2]) ?_; intro aY hg w7 hbox hb; refine Ya4 (below_step (be HB.out) hb) (hbox) (bs hg (be HB.out)) (bs hg (be HB.out)) ?_; clear HB; intro HB aC aZ b0; clear hb hbox hg; have ⟨ce, cf, cg, ch, ci, cj⟩ := Yc3 aC.out))
   go_ret
   exact ⟨Ye2, (bf HB.out)⟩
  ·rw [if_neg c6] at H
   have aG : decide ((wrap64 ((wrap64 (a1 - (a0_0.size : Int))) - (a0_1.size : Int))) < 0) = false := decide_eq_false c6; clear c6; obtain rfl := Option.some.inj H
   go_enter Tryd.func138, Tryd.ntmps138
   go_wp2_with (first | ((with_reducible refine gd 2 rfl ?_); refine bx 2 172 (#[.string a0_0, .string a0_1, .bool a0_2]) ?_; intro aY hg w9 hbox hb; refine Ya4 (below_step (be HB.out) hb) (hbox) (bs hg (be HB.out)) (bs hg (be HB.out)) ?_; clear HB; intro HB aC aZ b0; clear hb hbox hg; have ⟨b1, b2, b3, b4, b5, b6⟩ := Yc3 aC.out))
   go_ret
   exact ⟨Ye2, (bf HB.out)⟩

/-! ### laws_szEntryS: function 62 -/
def laws_szEntryS.l0 : Nat → List (S172) → Int → Int → Option (Int)
 | 0, _, _, _ => none
 | k + 1, x0, x1, x5 => if x5 < (x0.length : Int) then (if 0 ≤ x5 then ((laws_szEntry.f ((rd_T172 x0 x5).f0) ((rd_T172 x0 x5).f1) ((rd_T172 x0 x5).f2) x1).bind fun a9 => (if a9 < 0 then (some (-1)) else (laws_szEntryS.l0 k x0 a9 (wrap64 (x5 + 1))))) else (none)) else (some x1)
def laws_szEntryS.f (k : Nat) (l0 : List (S172)) (a1 : Int) : Option (Int) := if (wrap64 (a1 - (l0.length : Int))) < 0 then (some (-1)) else (laws_szEntryS.l0 k l0 (wrap64 (a1 - (l0.length : Int))) 0)
theorem laws_szEntryS.mono_l : ∀ k, (∀ y0 y1 y2, LeO (laws_szEntryS.l0 k y0 y1 y2) (laws_szEntryS.l0 (k + 1) y0 y1 y2))
 | 0 => fun _ _ _ r h => by simp [laws_szEntryS.l0] at h
 | k + 1 => by
  have ih0 := laws_szEntryS.mono_l k
  ·intro y0 y1 y2
   unfold laws_szEntryS.l0
   repeat' first
   | (with_reducible exact ih0 _ _ _)
   | (with_reducible exact LeO.refl _)
   | (with_reducible exact LeO.none _)
   | (with_reducible refine LeO.ite ?_ ?_)
   | (with_reducible refine LeO.bind ?_ (fun _ => ?_))
   | exact ih0 _ _ _
   | exact LeO.none _
   | refine LeO.ite ?_ ?_
   | refine LeO.bind ?_ (fun _ => ?_)
theorem laws_szEntryS.mono : ∀ a0 a1 k, LeO (laws_szEntryS.f k a0 a1) (laws_szEntryS.f (k + 1) a0 a1) := by
 intro a0 a1 k; have ih0 := laws_szEntryS.mono_l k
 unfold laws_szEntryS.f
 repeat' first
   | (with_reducible exact ih0 _ _ _)
   | (with_reducible exact LeO.refl _)
   | (with_reducible exact LeO.none _)
   | (with_reducible refine LeO.ite ?_ ?_)
   | (with_reducible refine LeO.bind ?_ (fun _ => ?_))
   | exact ih0 _ _ _
   | exact LeO.none _
   | refine LeO.ite ?_ ?_
   | refine LeO.bind ?_ (fun _ => ?_)
set_option maxHeartbeats 8000000 in
set_option maxRecDepth 100000 in
theorem laws_szEntryS.calls (k : Nat) (A0 : Option Addr) (c0 : Nat) (l0 : List (S172)) (a1 : Int) (r : Int) (w : World) (hr0 : Kd.C k172 w A0 l0.length l0) (hc0 : l0.length ≤ c0) (h : laws_szEntryS.f k l0 a1 = some r) :
  Calls Tryd.prog 62 #[.slice A0 l0.length c0, .int .i64 a1] w fun e w' => e = .returned (.int .i64 r) ∧ Below w.heap.size w w' := by
 have hu172 := Tryd.underlying172; have ak := Aside0.mk hr0; have HC0 := Aside0.mk hc0; clear hr0 hc0; have HB := Aside0.mk (Below.refl w.heap.size w); have H : (if (wrap64 (a1 - (l0.length : Int))) < 0 then (some (-1)) else (laws_szEntryS.l0 k l0 (wrap64 (a1 - (l0.length : Int))) 0)) = some r := h; clear h
 by_cases c3 : (wrap64 (a1 - (l0.length : Int))) < 0
 ·rw [if_pos c3] at H
  have a8 : decide ((wrap64 (a1 - (l0.length : Int))) < 0) = true := decide_eq_true c3; clear c3; obtain rfl := Option.some.inj H
  go_enter Tryd.func62, Tryd.ntmps62
  go_wp2
  go_ret
  exact ⟨Ye2, be HB.out⟩
 ·rw [if_neg c3] at H
  have a8 : decide ((wrap64 (a1 - (l0.length : Int))) < 0) = false := decide_eq_false c3; clear c3; have H' := Aside0.mk H; clear H
  go_enter Tryd.func62, Tryd.ntmps62
  go_wp2
  go_loopg [1, 5] k (fun kq v1 v5 w' => ∃ (al : Int) (a2 : Int), v1 = .int .i64 al ∧ v5 = .int .i64 a2 ∧ Aside0 (laws_szEntryS.l0 kq l0 al a2 = some r) ∧ Aside0 (kq ≤ k) ∧ Aside0 (Below w.heap.size w w'))
  case atStart => exact ⟨(wrap64 (a1 - (l0.length : Int))), (0), Ye1, Ye1, H', ⟨Nat.le_refl _⟩, ⟨be HB.out⟩⟩
  case round =>
   clear H'; (try clear p2); (try clear c3); (try clear a8); obtain ⟨al, a2, rfl, rfl, HA, HK1, HB⟩ := hrel
   cases gk with
   | zero => exact absurd HA.out (by simp [laws_szEntryS.l0])
   | succ k1 =>
    have H := HA.out; clear HA; simp only [laws_szEntryS.l0] at H
    by_cases c4 : a2 < (l0.length : Int)
    ·rw [if_pos c4] at H
     have aD : decide (a2 < (l0.length : Int)) = true := decide_eq_true c4; clear c4
     by_cases c5 : 0 ≤ a2
     ·rw [if_pos c5] at H
      have aI : decide (0 ≤ a2) = true := decide_eq_true c5; clear c5; replace H := Option.bind_eq_some_iff.mp H; obtain ⟨a9, A60, H⟩ := H; replace H : (if a9 < 0 then (some (-1)) else (laws_szEntryS.l0 k1 l0 a9 (wrap64 (a2 + 1)))) = some r := H; have A6 := Aside0.mk A60; clear A60
      by_cases c7 : a9 < 0
      ·rw [if_pos c7] at H
       have b7 : decide (a9 < 0) = true := decide_eq_true c7; clear c7; obtain rfl := Option.some.inj H; have am : 0 ≤ (a2 : Int) := oda; have an : a2 < (l0.length : Int) := oda; obtain ⟨bj, aJ, bm, bn, bo⟩ := at_T172 (Kd.C_below ak.out HB.out) a2 am an
       cases aJ
       replace am := eq_true am; replace an := eq_true an
       go_wp2_with (first | ((with_reducible refine gc 138 rfl ?_); refine gl (some 23) _ (#[.agg #[.string ((rd_T172 l0 a2).f0), .string ((rd_T172 l0 a2).f1), .bool ((rd_T172 l0 a2).f2)], .int .i64 al]) Tryd.func138 ?_; (with_reducible refine (laws_szEntry.calls ((rd_T172 l0 a2).f0) ((rd_T172 l0 a2).f1) ((rd_T172 l0 a2).f2) al a9 _ A6.out).mono ?_); rintro e w8 ⟨rfl, hb⟩; refine ⟨_, rfl, ?_⟩; refine Ya1 (below_step (be HB.out) hb) ?_; clear HB; intro HB; (try clear hb); (try clear hb2); (try clear hk); (try clear hi)))
       go_ret
       exact ⟨Ye2, be HB.out⟩
      ·rw [if_neg c7] at H
       have b7 : decide (a9 < 0) = false := decide_eq_false c7; clear c7; have H' := Aside0.mk H; clear H; have am : 0 ≤ (a2 : Int) := oda; have an : a2 < (l0.length : Int) := oda; obtain ⟨bj, aJ, bm, bn, bo⟩ := at_T172 (Kd.C_below ak.out HB.out) a2 am an
       cases aJ
       replace am := eq_true am; replace an := eq_true an
       go_wp2_with (first | ((with_reducible refine gc 138 rfl ?_); refine gl (some 23) _ (#[.agg #[.string ((rd_T172 l0 a2).f0), .string ((rd_T172 l0 a2).f1), .bool ((rd_T172 l0 a2).f2)], .int .i64 al]) Tryd.func138 ?_; (with_reducible refine (laws_szEntry.calls ((rd_T172 l0 a2).f0) ((rd_T172 l0 a2).f1) ((rd_T172 l0 a2).f2) al a9 _ A6.out).mono ?_); rintro e w9 ⟨rfl, hb⟩; refine ⟨_, rfl, ?_⟩; refine Ya1 (below_step (be HB.out) hb) ?_; clear HB; intro HB; (try clear hb); (try clear hb2); (try clear hk); (try clear hi)))
       go_roundg k1
       case measure => have := HK1.out; omega
       case rel => exact ⟨(a9), (wrap64 (a2 + 1)), Ye1, Ye1, H', ⟨by have := HK1.out; omega⟩, ⟨be HB.out⟩⟩
     ·rw [if_neg c5] at H
      exact absurd H (by simp)
    ·rw [if_neg c4] at H
     have aD : decide (a2 < (l0.length : Int)) = false := decide_eq_false c4; clear c4; obtain rfl := Option.some.inj H
     go_wp2
     go_ret
     exact ⟨Ye2, be HB.out⟩

/-! ### laws_toEntry: function 139 -/
def laws_toEntry.f (a0_0 : ByteArray) (a0_1 : ByteArray) (a0_2 : Bool) : Option (ByteArray × ByteArray × Bool) := some (a0_0, a0_1, a0_2)
set_option maxHeartbeats 8000000 in
set_option maxRecDepth 100000 in
theorem laws_toEntry.calls (a0_0 : ByteArray) (a0_1 : ByteArray) (a0_2 : Bool) (r1 : ByteArray) (r2 : ByteArray) (r3 : Bool) (w : World) (h : laws_toEntry.f a0_0 a0_1 a0_2 = some (r1, r2, r3)) :
  Calls Tryd.prog 139 #[.agg #[.string a0_0, .string a0_1, .bool a0_2]] w fun e w' => e = .returned (.agg #[.string r1, .string r2, .bool r3]) ∧ Below w.heap.size w w' := by
 have hu172 := Tryd.underlying172; have hu37 := Tryd.underlying37; have HB := Aside0.mk (Below.refl w.heap.size w); have H : (some (a0_0, a0_1, a0_2)) = some (r1, r2, r3) := h; clear h; simp only [Option.some.injEq, Prod.mk.injEq] at H; obtain ⟨rfl, rfl, rfl⟩ := H
 go_enter Tryd.func139, Tryd.ntmps139
 go_wp2_with (first | ((with_reducible refine gd 1 rfl ?_); refine bx 1 172 (#[.string a0_0, .string a0_1, .bool a0_2]) ?_; intro gb175 hg w2 hbox hb; refine Ya4 (below_step (be HB.out) hb) (hbox) (bs hg (be HB.out)) (bs hg (be HB.out)) ?_; clear HB; intro HB aa GW175 GE175; clear hb hbox hg) | ((with_reducible refine gd 2 rfl ?_); refine bx 2 37 (#[.string (⟨#[]⟩ : ByteArray), .string (⟨#[]⟩ : ByteArray), .bool false]) ?_; intro bq hg w3 hbox hb; refine Ya7 (bb aa hb) (below_step (bf HB.out) hb) (hbox) (bs hg (bf HB.out)) (bs hg (bf HB.out)) (bl hg aa) (br hg aa) ?_; clear aa HB; intro aa HB ao GW176 GE176 bu bv; clear hb hbox hg) | ((with_reducible refine gd 3 rfl ?_); refine bx 3 37 (#[.string (⟨#[]⟩ : ByteArray), .string (⟨#[]⟩ : ByteArray), .bool false]) ?_; intro gb177 hg w4 hbox hb; refine Ya10 (bb aa hb) (bb ao hb) (below_step (bf HB.out) hb) (hbox) (bs hg (bf HB.out)) (bs hg (bf HB.out)) (bl hg aa) (br hg aa) (bl hg ao) (br hg ao) ?_; clear aa ao HB; intro aa ao HB bw GW177 GE177 bz bA bB bC; clear hb hbox hg; have hnb5 := bu.out; have hnc5 := bv.out; have hnb6 := bz.out; have hnc6 := bA.out; have ⟨ck, cl, cm, cn, co, cp⟩ := Yc3 aa.out; have bD := bC.out; have bE := bB.out; have ⟨bF, bG, bH, bI, bJ, bK⟩ := Yc3 bw.out; have ⟨b1, b2, b3, b4, b5, b6⟩ := Yc3 ao.out))
 refine bodyPost_ret (results_cell_row rfl _ _ bq 37 #[.string a0_0, .string a0_1, .bool a0_2] (0, 0) _ rfl (bp ao.out) Tryd.underlying37 rfl (by kernel_rfl)) rfl ?_; exact ⟨Ye2, (bf HB.out)⟩

/-! ### laws_toEntryS: function 66 -/
def laws_toEntryS.l0 : Nat → List (S172) → List (S37) → Int → Option ((List (S37)))
 | 0, _, _, _ => none
 | k + 1, x0, x3, x4 => if x4 < (x0.length : Int) then (if 0 ≤ x4 then ((laws_toEntry.f ((rd_T172 x0 x4).f0) ((rd_T172 x0 x4).f1) ((rd_T172 x0 x4).f2)).bind fun bt182 => (if x4 < (x3.length : Int) then (laws_toEntryS.l0 k x0 (x3.set (x4 : Int).toNat (⟨bt182.1, bt182.2.1, bt182.2.2⟩ : S37)) (wrap64 (x4 + 1))) else (none))) else (none)) else (some x3)
def laws_toEntryS.f (k : Nat) (l0 : List (S172)) : Option ((List (S37))) := if 0 ≤ (l0.length : Int) then (if ((l0.length : Int) : Int).toNat ≤ 7036874417766 then (laws_toEntryS.l0 k l0 (List.replicate ((l0.length : Int) : Int).toNat z37) 0) else (none)) else (none)
theorem laws_toEntryS.mono_l : ∀ k, (∀ y0 y1 y2, LeO (laws_toEntryS.l0 k y0 y1 y2) (laws_toEntryS.l0 (k + 1) y0 y1 y2))
 | 0 => fun _ _ _ r h => by simp [laws_toEntryS.l0] at h
 | k + 1 => by
  have ih0 := laws_toEntryS.mono_l k
  ·intro y0 y1 y2
   unfold laws_toEntryS.l0
   repeat' first
   | (with_reducible exact ih0 _ _ _)
   | (with_reducible exact LeO.refl _)
   | (with_reducible exact LeO.none _)
   | (with_reducible refine LeO.ite ?_ ?_)
   | (with_reducible refine LeO.bind ?_ (fun _ => ?_))
   | exact ih0 _ _ _
   | exact LeO.none _
   | refine LeO.ite ?_ ?_
   | refine LeO.bind ?_ (fun _ => ?_)
theorem laws_toEntryS.mono : ∀ a0 k, LeO (laws_toEntryS.f k a0) (laws_toEntryS.f (k + 1) a0) := by
 intro a0 k; have ih0 := laws_toEntryS.mono_l k
 unfold laws_toEntryS.f
 repeat' first
   | (with_reducible exact ih0 _ _ _)
   | (with_reducible exact LeO.refl _)
   | (with_reducible exact LeO.none _)
   | (with_reducible refine LeO.ite ?_ ?_)
   | (with_reducible refine LeO.bind ?_ (fun _ => ?_))
   | exact ih0 _ _ _
   | exact LeO.none _
   | refine LeO.ite ?_ ?_
   | refine LeO.bind ?_ (fun _ => ?_)
set_option maxHeartbeats 8000000 in
set_option maxRecDepth 100000 in
theorem laws_toEntryS.calls (k : Nat) (A0 : Option Addr) (c0 : Nat) (l0 : List (S172)) (r : List (S37)) (w : World) (hr0 : Kd.C k172 w A0 l0.length l0) (hc0 : l0.length ≤ c0) (h : laws_toEntryS.f k l0 = some r) :
  Calls Tryd.prog 66 #[.slice A0 l0.length c0] w fun e w' => ∃ v0_ : Value, e = .returned (v0_) ∧ Kd.R k37 37 w' w.heap.size (fun _ => True) v0_ r ∧ Below w.heap.size w w' := by
 have hu172 := Tryd.underlying172; have hu37 := Tryd.underlying37; have ak := Aside0.mk hr0; have HC0 := Aside0.mk hc0; clear hr0 hc0; have HB := Aside0.mk (Below.refl w.heap.size w); have H : (if 0 ≤ (l0.length : Int) then (if ((l0.length : Int) : Int).toNat ≤ 7036874417766 then (laws_toEntryS.l0 k l0 (List.replicate ((l0.length : Int) : Int).toNat z37) 0) else (none)) else (none)) = some r := h; clear h
 by_cases c2 : 0 ≤ (l0.length : Int)
 ·rw [if_pos c2] at H
  have bL := eq_true c2; have bM : decide (0 ≤ (l0.length : Int)) = true := decide_eq_true c2; clear c2
  by_cases c3 : ((l0.length : Int) : Int).toNat ≤ 7036874417766
  ·rw [if_pos c3] at H
   have a8 := eq_true c3; have aB : decide (((l0.length : Int) : Int).toNat ≤ 7036874417766) = true := decide_eq_true c3; clear c3
   obtain ⟨b8, aE⟩ : ∃ y_ : List (S37), y_ = (List.replicate ((l0.length : Int) : Int).toNat z37) := ⟨_, rfl⟩
   replace H : (laws_toEntryS.l0 k l0 b8 0) = some r := by first | (rw [aE]; with_reducible exact H) | (have H2_ := (Option.bind_some _ _).symm.trans H; rw [aE]; with_reducible exact H2_) | (have H2_ := (Option.bind_some _ _).symm.trans H; with_reducible exact H2_) | with_reducible exact H | (rw [aE]; exact H) | exact H
   have b9 := Aside0.mk aE; clear aE; have H' := Aside0.mk H; clear H
   go_enter Tryd.func66, Tryd.ntmps66
   go_wp2_with (first | ((with_reducible refine gd 7 rfl ?_); refine Kd.R_make k37 _ 37 rfl (N := 7) rfl 26 _ _ rfl (l0.length : Int) rfl rfl Tryd.underlying26 (.agg #[(.string ⟨#[]⟩), (.string ⟨#[]⟩), (.bool false)]) 40 info37 rfl (by decide) (by omega) z37 (ok := fun _ => True) (okp := fun _ => True) (k37_mkM _ _ _ z37 ) (fun _ hk => hk) trivial (oda) (Nat.le_trans (Nat.mul_le_mul_right _ (oda : (l0.length : Int).toNat ≤ 7036874417766)) (by omega)) (Below.refl _ _) (Nat.le_refl _) ?_; intro bN w4 ho5 hb hg_ hnew_; clear hg_ hnew_; (first | rw [← b9.out] at ho5 | (simp only [Int.reduceToNat] at ho5; rw [← b9.out] at ho5)); refine Ya2 (Kd.R_lower ho5 (below_size (be HB.out))) (below_step (be HB.out) hb) ?_; clear HB; intro bO HB; clear hb ho5))
   go_loopg [4] k (fun kq v4 w' => ∃ (a5 : List (S37)) (a3 : Int), v4 = .int .i64 a3 ∧ Aside0 (laws_toEntryS.l0 kq l0 a5 a3 = some r) ∧ Aside0 (kq ≤ k) ∧ Aside0 (Kd.R k37 37 w' w.heap.size (fun _ => True) bN a5) ∧ Aside0 (Below w.heap.size w w'))
   case atStart => exact ⟨(b8), (0), Ye1, H', ⟨Nat.le_refl _⟩, ⟨kr bO.out⟩, ⟨be HB.out⟩⟩
   case round =>
    clear H'; (try clear c2); (try clear bL); (try clear bM); (try clear p2); (try clear c3); (try clear a8); (try clear aB); obtain ⟨a5, a3, rfl, HA, HK1, a6, HB⟩ := hrel
    cases gk with
    | zero => exact absurd HA.out (by simp [laws_toEntryS.l0])
    | succ k1 =>
     have H := HA.out; clear HA; simp only [laws_toEntryS.l0] at H
     by_cases c6 : a3 < (l0.length : Int)
     ·rw [if_pos c6] at H
      have aG : decide (a3 < (l0.length : Int)) = true := decide_eq_true c6; clear c6
      by_cases c7 : 0 ≤ a3
      ·rw [if_pos c7] at H
       have b7 : decide (0 ≤ a3) = true := decide_eq_true c7; clear c7; replace H := Option.bind_eq_some_iff.mp H; obtain ⟨⟨ap, aq, ar⟩, A80, H⟩ := H; replace H : (if a3 < (a5.length : Int) then (laws_toEntryS.l0 k1 l0 (a5.set (a3 : Int).toNat (⟨ap, aq, ar⟩ : S37)) (wrap64 (a3 + 1))) else (none)) = some r := H; have A8 := Aside0.mk A80; clear A80
       by_cases c9 : a3 < (a5.length : Int)
       ·rw [if_pos c9] at H
        have c9b0 : decide (a3 < (a5.length : Int)) = true := decide_eq_true c9; clear c9
        obtain ⟨aK, aF⟩ : ∃ y_ : List (S37), y_ = (a5.set (a3 : Int).toNat (⟨ap, aq, ar⟩ : S37)) := ⟨_, rfl⟩
        replace H : (laws_toEntryS.l0 k1 l0 aK (wrap64 (a3 + 1))) = some r := by first | (rw [aF]; with_reducible exact H) | (have H2_ := (Option.bind_some _ _).symm.trans H; rw [aF]; with_reducible exact H2_) | (have H2_ := (Option.bind_some _ _).symm.trans H; with_reducible exact H2_) | with_reducible exact H | (rw [aF]; exact H) | exact H
        have bP := Aside0.mk aF; clear aF; have H' := Aside0.mk H; clear H; have aL : 0 ≤ (a3 : Int) := oda; have aM : a3 < (l0.length : Int) := oda; obtain ⟨ad181, bQ, cq, cr, cs⟩ := at_T172 (Kd.C_below ak.out HB.out) a3 aL aM
        cases bQ
        replace aL := eq_true aL; replace aM := eq_true aM
        go_wp2_with (first | ((with_reducible refine gc 139 rfl ?_); refine gl (some 20) _ (#[.agg #[.string ((rd_T172 l0 a3).f0), .string ((rd_T172 l0 a3).f1), .bool ((rd_T172 l0 a3).f2)]]) Tryd.func139 ?_; (with_reducible refine (laws_toEntry.calls ((rd_T172 l0 a3).f0) ((rd_T172 l0 a3).f1) ((rd_T172 l0 a3).f2) ap aq ar _ A8.out).mono ?_); rintro e ab ⟨rfl, hb⟩; refine ⟨_, rfl, ?_⟩; refine Ya2 (Kd.R_below (kr a6.out) hb) (below_step (be HB.out) hb) ?_; clear a6 HB; intro a6 HB; (try clear hb); (try clear hb2); (try clear hk); (try clear hi); have p10 : 0 ≤ (a3 : Int) := oda; have q10 : (a3 : Int) < ((a5.length : Int) : Int) := oda; obtain ⟨a7, ba, bd, bg, gl10, cl10, HG10⟩ := Kd.R_form a6.out (by omega); (first | cases bd | (injection bd with ea_ en_ ec_; (first | subst ea_ | (injection ea_ with ea_; subst ea_)); subst ec_; clear en_)); have aN := Aside0.mk bg; have GG10 := Aside0.mk HG10; clear bg gl10 HG10; obtain ⟨ce10, hcl10, hM10, hcc10, hfr10⟩ := Kd.R_elem a6.out z37 (a3 : Int) p10 q10; obtain rfl := k37_openM hM10; have ct : ab.cell? ⟨a7, (a3 : Int).toNat * 3, none⟩ = some (.string ((rd_T37 a5 a3).f0)) := hcc10 0 _ rfl; have cu : ab.cell? ⟨a7, (a3 : Int).toNat * 3 + 1, none⟩ = some (.string ((rd_T37 a5 a3).f1)) := hcc10 1 _ rfl; have cv : ab.cell? ⟨a7, (a3 : Int).toNat * 3 + 2, none⟩ = some (.bool ((rd_T37 a5 a3).f2)) := hcc10 2 _ rfl; have hf10_0 : ab.frozen? ⟨a7, (a3 : Int).toNat * 3, none⟩ = false := hfr10 0; have hf10_1 : ab.frozen? ⟨a7, (a3 : Int).toNat * 3 + 1, none⟩ = false := hfr10 1; have hf10_2 : ab.frozen? ⟨a7, (a3 : Int).toNat * 3 + 2, none⟩ = false := hfr10 2; (try clear hM10); clear hcl10 hcc10 hfr10; replace p10 := eq_true p10; replace q10 := eq_true q10; have bh := Aside0.mk (show Kd.R k37 37 ab w.heap.size (fun _ => True) (.slice (some ⟨a7, 0, none⟩) a5.length ba) a5 from (kr a6.out)); obtain ⟨ce12, hcl12, hM12, hcc12, hfr12⟩ := Kd.R_elem bh.out z37 (a3 : Int) (oda) (by have h_ : (a3 : Int) < ((a5.length : Int) : Int) := oda; first | exact h_ | (have e_ := (Kd.R_reads' a6.out).1; omega) | simpa using h_); obtain rfl := k37_openM hM12; have aO := Kd.R_seg bh.out (a3 : Int) (oda) (by have h_ : (a3 : Int) < ((a5.length : Int) : Int) := oda; first | exact h_ | (have e_ := (Kd.R_reads' a6.out).1; omega) | simpa using h_) (seg := [.string ap, .string aq, .bool ar]) (j := 0) hcl12 hcc12 (show 3 ≤ 3 from by decide) (x' := (⟨ap, aq, ar⟩ : S37)) (k37_mkM _ _ _ (⟨ap, aq, ar⟩ : S37) ) (fun _ hk => hk); have bR := hcc12 0 _ rfl; (try simp only [show (k37).sz = 3 from rfl, Nat.mul_one, Nat.add_zero] at bR); have hf12_0 := hfr12 0; (try simp only [show (k37).sz = 3 from rfl, Nat.mul_one, Nat.add_zero] at hf12_0); have bS := hcc12 1 _ rfl; (try simp only [show (k37).sz = 3 from rfl, Nat.mul_one, Nat.add_zero] at bS); have hf12_1 := hfr12 1; (try simp only [show (k37).sz = 3 from rfl, Nat.mul_one, Nat.add_zero] at hf12_1); have bT := hcc12 2 _ rfl; (try simp only [show (k37).sz = 3 from rfl, Nat.mul_one, Nat.add_zero] at bT); have hf12_2 := hfr12 2; (try simp only [show (k37).sz = 3 from rfl, Nat.mul_one, Nat.add_zero] at hf12_2); (try clear hM12); clear hcl12 hcc12 hfr12) | ((with_reducible refine gate_store (t := 37) (p := 21) rfl ?_); refine store_event (t := 37) (p := 21) (v := ?vo_w13) (w1 := (((ab.setCell ⟨a7, (a3 : Int).toNat * 3, none⟩ (.string ap)).setCell ⟨a7, (a3 : Int).toNat * 3 + 1, none⟩ (.string aq)).setCell ⟨a7, (a3 : Int).toNat * 3 + 2, none⟩ (.bool ar))) ?hg ?ho ?hn ?hr ?_; (case ho => rfl); (case hg => rfl); (case hn => rfl); (case hr => first | (go_simp; done) | (go_simp; rfl)); intro aP hw; have hg : ab.grownBy aP (some a7) := (by rw [hw]; exact aO.2); have hp_ : Kd.R k37 37 aP w.heap.size (fun _ => True) (.slice (some ⟨a7, 0, none⟩) a5.length ba) aK := (by rw [hw, bP.out]; exact aO.1); clear aO; refine Ya2 (hp_) ((by rw [hw]; exact below_set (below_set (below_set (HB.out) aN.out) aN.out) aN.out : Below w.heap.size w aP)) ?_; clear a6 HB; intro a6 HB; clear hg hw hp_))
        go_roundg k1
        case measure => have := HK1.out; omega
        case rel => exact ⟨(aK), (wrap64 (a3 + 1)), Ye1, H', ⟨by have := HK1.out; omega⟩, ⟨kr a6.out⟩, ⟨be HB.out⟩⟩
       ·rw [if_neg c9] at H
        exact absurd H (by simp)
      ·rw [if_neg c7] at H
       exact absurd H (by simp)
     ·rw [if_neg c6] at H
      have aG : decide (a3 < (l0.length : Int)) = false := decide_eq_false c6; clear c6; obtain rfl := Option.some.inj H
      go_wp2
      go_ret
      exact ⟨_, Ye2, kr a6.out, be HB.out⟩
  ·rw [if_neg c3] at H
   exact absurd H (by simp)
 ·rw [if_neg c2] at H
  exact absurd H (by simp)

/-! ### laws_eqEntry: function 128 -/
def laws_eqEntry.f (a0_0 : ByteArray) (a0_1 : ByteArray) (a0_2 : Bool) (a1_0 : ByteArray) (a1_1 : ByteArray) (a1_2 : Bool) : Option (Bool) := if a0_0.toList = a1_0.toList then (if a0_1.toList = a1_1.toList then (if (a0_2 != a1_2) = true then (some false) else (some true)) else (some false)) else (some false)
set_option maxHeartbeats 8000000 in
set_option maxRecDepth 100000 in
theorem laws_eqEntry.calls (a0_0 : ByteArray) (a0_1 : ByteArray) (a0_2 : Bool) (a1_0 : ByteArray) (a1_1 : ByteArray) (a1_2 : Bool) (r : Bool) (w : World) (h : laws_eqEntry.f a0_0 a0_1 a0_2 a1_0 a1_1 a1_2 = some r) :
  Calls Tryd.prog 128 #[.agg #[.string a0_0, .string a0_1, .bool a0_2], .agg #[.string a1_0, .string a1_1, .bool a1_2]] w fun e w' => e = .returned (.bool r) ∧ Below w.heap.size w w' := by
 have hu37 := Tryd.underlying37; have HB := Aside0.mk (Below.refl w.heap.size w); have H : (if a0_0.toList = a1_0.toList then (if a0_1.toList = a1_1.toList then (if (a0_2 != a1_2) = true then (some false) else (some true)) else (some false)) else (some false)) = some r := h; clear h
 by_cases c3 : a0_0.toList = a1_0.toList
 ·rw [if_pos c3] at H
  have a8 : (a0_0.toList == a1_0.toList) = true := beq_iff_eq.mpr c3; have aB : (a0_0.toList != a1_0.toList) = false := bne_eq_false_iff_eq.mpr c3; clear c3
  by_cases c4 : a0_1.toList = a1_1.toList
  ·rw [if_pos c4] at H
   have aD : (a0_1.toList == a1_1.toList) = true := beq_iff_eq.mpr c4; have bU : (a0_1.toList != a1_1.toList) = false := bne_eq_false_iff_eq.mpr c4; clear c4
   by_cases c5 : (a0_2 != a1_2) = true
   ·rw [if_pos c5] at H
    have aI : (a0_2 != a1_2) = true := c5; (try (have bV : decide (a0_2 = a1_2) = false := by simpa using c5)); (try (have bW : (a0_2 == a1_2) = false := by simpa using c5)); (try (have c5b3 : ¬ (a0_2 = a1_2) := by simpa using c5)); clear c5; obtain rfl := Option.some.inj H
    go_enter Tryd.func128, Tryd.ntmps128
    go_wp2_with (first | ((with_reducible refine gd 2 rfl ?_); refine bx 2 37 (#[.string a0_0, .string a0_1, .bool a0_2]) ?_; intro aQ hg w6 hbox hb; refine Ya4 (below_step (be HB.out) hb) (hbox) (bs hg (be HB.out)) (bs hg (be HB.out)) ?_; clear HB; intro HB a4 aR aS; clear hb hbox hg) | ((with_reducible refine gd 3 rfl ?_); refine bx 3 37 (#[.string a1_0, .string a1_1, .bool a1_2]) ?_; intro aT hg w7 hbox hb; refine Ya7 (bb a4 hb) (below_step (bf HB.out) hb) (hbox) (bs hg (bf HB.out)) (bs hg (bf HB.out)) (bl hg a4) (br hg a4) ?_; clear a4 HB; intro a4 HB au aU aV av aw; clear hb hbox hg; have bD := av.out; have bE := aw.out; have ⟨bF, bG, bH, bI, bJ, bK⟩ := Yc3 a4.out; have ⟨b1, b2, b3, b4, b5, b6⟩ := Yc3 au.out))
    go_ret
    exact ⟨Ye2, (bf HB.out)⟩
   ·rw [if_neg c5] at H
    have aI : (a0_2 != a1_2) = false := by simpa using c5
    (try (have bV : decide (a0_2 = a1_2) = true := by simpa using c5)); (try (have bW : (a0_2 == a1_2) = true := by simpa using c5)); clear c5; obtain rfl := Option.some.inj H
    go_enter Tryd.func128, Tryd.ntmps128
    go_wp2_with (first | ((with_reducible refine gd 2 rfl ?_); refine bx 2 37 (#[.string a0_0, .string a0_1, .bool a0_2]) ?_; intro aQ hg ab hbox hb; refine Ya4 (below_step (be HB.out) hb) (hbox) (bs hg (be HB.out)) (bs hg (be HB.out)) ?_; clear HB; intro HB a4 aR aS; clear hb hbox hg) | ((with_reducible refine gd 3 rfl ?_); refine bx 3 37 (#[.string a1_0, .string a1_1, .bool a1_2]) ?_; intro aT hg w12 hbox hb; refine Ya7 (bb a4 hb) (below_step (bf HB.out) hb) (hbox) (bs hg (bf HB.out)) (bs hg (bf HB.out)) (bl hg a4) (br hg a4) ?_; clear a4 HB; intro a4 HB au aU aV av aw; clear hb hbox hg; have hnb13 := av.out; have hnc13 := aw.out; have ⟨cx, cy, cz, cA, cB, cC⟩ := Yc3 a4.out; have ⟨cD, cE, cF, cG, cH, cI⟩ := Yc3 au.out))
    go_ret
    exact ⟨Ye2, (bf HB.out)⟩
  ·rw [if_neg c4] at H
   have aD : (a0_1.toList == a1_1.toList) = false := beq_eq_false_iff_ne.mpr c4; have bU : (a0_1.toList != a1_1.toList) = true := bne_iff_ne.mpr c4; obtain rfl := Option.some.inj H
   go_enter Tryd.func128, Tryd.ntmps128
   go_wp2_with (first | ((with_reducible refine gd 2 rfl ?_); refine bx 2 37 (#[.string a0_0, .string a0_1, .bool a0_2]) ?_; intro aQ hg w16 hbox hb; refine Ya4 (below_step (be HB.out) hb) (hbox) (bs hg (be HB.out)) (bs hg (be HB.out)) ?_; clear HB; intro HB a4 aR aS; clear hb hbox hg) | ((with_reducible refine gd 3 rfl ?_); refine bx 3 37 (#[.string a1_0, .string a1_1, .bool a1_2]) ?_; intro aT hg w17 hbox hb; refine Ya7 (bb a4 hb) (below_step (bf HB.out) hb) (hbox) (bs hg (bf HB.out)) (bs hg (bf HB.out)) (bl hg a4) (br hg a4) ?_; clear a4 HB; intro a4 HB au aU aV av aw; clear hb hbox hg; have hnb18 := av.out; have hnc18 := aw.out; have ⟨cJ, cK, cL, cM, cN, cO⟩ := Yc3 a4.out; have ⟨cP, cQ, cR, cS, cT, cU⟩ := Yc3 au.out))
   go_ret
   exact ⟨Ye2, (bf HB.out)⟩
 ·rw [if_neg c3] at H
  have a8 : (a0_0.toList == a1_0.toList) = false := beq_eq_false_iff_ne.mpr c3; have aB : (a0_0.toList != a1_0.toList) = true := bne_iff_ne.mpr c3; obtain rfl := Option.some.inj H
  go_enter Tryd.func128, Tryd.ntmps128
  go_wp2_with (first | ((with_reducible refine gd 2 rfl ?_); refine bx 2 37 (#[.string a0_0, .string a0_1, .bool a0_2]) ?_; intro aQ hg w21 hbox hb; refine Ya4 (below_step (be HB.out) hb) (hbox) (bs hg (be HB.out)) (bs hg (be HB.out)) ?_; clear HB; intro HB a4 aR aS; clear hb hbox hg) | ((with_reducible refine gd 3 rfl ?_); refine bx 3 37 (#[.string a1_0, .string a1_1, .bool a1_2]) ?_; intro aT hg w22 hbox hb; refine Ya7 (bb a4 hb) (below_step (bf HB.out) hb) (hbox) (bs hg (bf HB.out)) (bs hg (bf HB.out)) (bl hg a4) (br hg a4) ?_; clear a4 HB; intro a4 HB au aU aV av aw; clear hb hbox hg; have hnb23 := av.out; have hnc23 := aw.out; have ⟨cV, cW, cX, cY, cZ, d0⟩ := Yc3 a4.out; have ⟨d1, d2, d3, d4, d5, d6⟩ := Yc3 au.out))
  go_ret
  exact ⟨Ye2, (bf HB.out)⟩

/-! ### laws_eqEntryS: function 72 -/
def laws_eqEntryS.l0 : Nat → List (S37) → List (S37) → Int → Option (Bool)
 | 0, _, _, _ => none
 | k + 1, x0, x1, x5 => if x5 < (x0.length : Int) then (if 0 ≤ x5 then (if x5 < (x1.length : Int) then ((laws_eqEntry.f ((rd_T37 x0 x5).f0) ((rd_T37 x0 x5).f1) ((rd_T37 x0 x5).f2) ((rd_T37 x1 x5).f0) ((rd_T37 x1 x5).f1) ((rd_T37 x1 x5).f2)).bind fun aH => (if aH = true then (laws_eqEntryS.l0 k x0 x1 (wrap64 (x5 + 1))) else (some false))) else (none)) else (none)) else (some true)
def laws_eqEntryS.f (k : Nat) (l0 : List (S37)) (l1 : List (S37)) : Option (Bool) := if (l0.length : Int) = (l1.length : Int) then (laws_eqEntryS.l0 k l0 l1 0) else (some false)
theorem laws_eqEntryS.mono_l : ∀ k, (∀ y0 y1 y2, LeO (laws_eqEntryS.l0 k y0 y1 y2) (laws_eqEntryS.l0 (k + 1) y0 y1 y2))
 | 0 => fun _ _ _ r h => by simp [laws_eqEntryS.l0] at h
 | k + 1 => by
  have ih0 := laws_eqEntryS.mono_l k
  ·intro y0 y1 y2
   unfold laws_eqEntryS.l0
   repeat' first
   | (with_reducible exact ih0 _ _ _)
   | (with_reducible exact LeO.refl _)
   | (with_reducible exact LeO.none _)
   | (with_reducible refine LeO.ite ?_ ?_)
   | (with_reducible refine LeO.bind ?_ (fun _ => ?_))
   | exact ih0 _ _ _
   | exact LeO.none _
   | refine LeO.ite ?_ ?_
   | refine LeO.bind ?_ (fun _ => ?_)
theorem laws_eqEntryS.mono : ∀ a0 a1 k, LeO (laws_eqEntryS.f k a0 a1) (laws_eqEntryS.f (k + 1) a0 a1) := by
 intro a0 a1 k; have ih0 := laws_eqEntryS.mono_l k
 unfold laws_eqEntryS.f
 repeat' first
   | (with_reducible exact ih0 _ _ _)
   | (with_reducible exact LeO.refl _)
   | (with_reducible exact LeO.none _)
   | (with_reducible refine LeO.ite ?_ ?_)
   | (with_reducible refine LeO.bind ?_ (fun _ => ?_))
   | exact ih0 _ _ _
   | exact LeO.none _
   | refine LeO.ite ?_ ?_
   | refine LeO.bind ?_ (fun _ => ?_)
def laws_eqEntryS.T6 : Bool × List (List Nat × List Nat) := (true, [([], []), ([], []), ([0, 1], [0, 1]), ([2], [2]), ([], []), ([], []), ([4, 5], [4, 5]), ([6], [6]), ([3, 7], [3, 7]), ([8], [8])])
def laws_eqEntryS.B6 : List Nat := [0, 0, 3, 7, 0, 0, 48, 112, 255, 511]
theorem laws_eqEntryS.tab6 : rtab .any (opsOf Tryd.f72 6) = laws_eqEntryS.T6 := by kernel_rfl
theorem laws_eqEntryS.bits6 : waitsOk laws_eqEntryS.T6.2 laws_eqEntryS.B6 = true := by kernel_rfl
set_option maxHeartbeats 8000000 in
set_option maxRecDepth 100000 in
theorem laws_eqEntryS.calls (k : Nat) (A0 : Option Addr) (c0 : Nat) (l0 : List (S37)) (A1 : Option Addr) (c1 : Nat) (l1 : List (S37)) (r : Bool) (w : World) (hr0 : Kd.C k37 w A0 l0.length l0) (hc0 : l0.length ≤ c0) (hr1 : Kd.C k37 w A1 l1.length l1) (hc1 : l1.length ≤ c1) (h : laws_eqEntryS.f k l0 l1 = some r) :
  Calls Tryd.prog 72 #[.slice A0 l0.length c0, .slice A1 l1.length c1] w fun e w' => e = .returned (.bool r) ∧ Below w.heap.size w w' := by
 have hu37 := Tryd.underlying37; have ak := Aside0.mk hr0; have HC0 := Aside0.mk hc0; clear hr0 hc0; have HR1 := Aside0.mk hr1; have HC1 := Aside0.mk hc1; clear hr1 hc1; have HB := Aside0.mk (Below.refl w.heap.size w); have H : (if (l0.length : Int) = (l1.length : Int) then (laws_eqEntryS.l0 k l0 l1 0) else (some false)) = some r := h; clear h
 by_cases c3 : (l0.length : Int) = (l1.length : Int)
 ·rw [if_pos c3] at H
  have a8 : ((l0.length : Int) == (l1.length : Int)) = true := beq_iff_eq.mpr c3; have aB : ((l0.length : Int) != (l1.length : Int)) = false := bne_eq_false_iff_eq.mpr c3
  have bi : (l0.length == l1.length) = true := by first | simpa using c3 | (simp at c3 ⊢; omega)
  clear c3; have H' := Aside0.mk H; clear H
  go_enter Tryd.func72, Tryd.ntmps72
  go_wp2
  go_loopg [5] k (fun kq v5 w' => ∃ (a2 : Int), v5 = .int .i64 a2 ∧ Aside0 (laws_eqEntryS.l0 kq l0 l1 a2 = some r) ∧ Aside0 (kq ≤ k) ∧ Aside0 (Below w.heap.size w w'))
  case atStart => exact ⟨(0), Ye1, H', ⟨Nat.le_refl _⟩, ⟨be HB.out⟩⟩
  case round =>
   clear H'; (try clear c1); (try clear p2); (try clear c3); (try clear a8); (try clear aB); (try clear bi); obtain ⟨a2, rfl, HA, HK1, HB⟩ := hrel
   cases gk with
   | zero => exact absurd HA.out (by simp [laws_eqEntryS.l0])
   | succ k1 =>
    have H := HA.out; clear HA; simp only [laws_eqEntryS.l0] at H
    by_cases c4 : a2 < (l0.length : Int)
    ·rw [if_pos c4] at H
     have aD : decide (a2 < (l0.length : Int)) = true := decide_eq_true c4; clear c4
     by_cases c5 : 0 ≤ a2
     ·rw [if_pos c5] at H
      have aI : decide (0 ≤ a2) = true := decide_eq_true c5; clear c5
      by_cases c6 : a2 < (l1.length : Int)
      ·rw [if_pos c6] at H
       have aG : decide (a2 < (l1.length : Int)) = true := decide_eq_true c6; clear c6; replace H := Option.bind_eq_some_iff.mp H; obtain ⟨aH, A70, H⟩ := H; replace H : (if aH = true then (laws_eqEntryS.l0 k1 l0 l1 (wrap64 (a2 + 1))) else (some false)) = some r := H; have A7 := Aside0.mk A70; clear A70
       by_cases c8 : aH = true
       ·subst c8
        have H1 : (laws_eqEntryS.l0 k1 l0 l1 (wrap64 (a2 + 1))) = some r := by rw [if_pos rfl] at H; exact H
        clear H; have H := H1; clear H1; have H' := Aside0.mk H; clear H
        try go_wp2
        refine Ya1 (below_drew1 HB.out) ?_; clear HB; intro HB; have ax : 0 ≤ (a2 : Int) := oda; have ay : a2 < (l0.length : Int) := oda; obtain ⟨ac, aW, ae, af, ag⟩ := at_T37 ak.out a2 ax ay; have hw233_2 := ag; have hw233_1 := af; have hw233_0 := ae
        cases aW
        replace ae := pw_cell_below HB.out ae; replace af := pw_cell_below HB.out af; replace ag := pw_cell_below HB.out ag; replace ax := eq_true ax; replace ay := eq_true ay; have az : 0 ≤ (a2 : Int) := oda; have aA : a2 < (l1.length : Int) := oda; obtain ⟨ad, aX, ah, ai, aj⟩ := at_T37 HR1.out a2 az aA; have hw234_2 := aj; have hw234_1 := ai; have hw234_0 := ah
        cases aX
        replace ah := pw_cell_below HB.out ah; replace ai := pw_cell_below HB.out ai; replace aj := pw_cell_below HB.out aj; replace az := eq_true az; replace aA := eq_true aA; refine start_ (n := 10) (S := fun w' => w'.cell? (ac.add ((a2).toNat * 3)) = some (.string ((rd_T37 l0 a2).f0)) ∧ w'.cell? ⟨(ac.add ((a2).toNat * 3)).block, (ac.add ((a2).toNat * 3)).off + 1, none⟩ = some (.string ((rd_T37 l0 a2).f1)) ∧ w'.cell? ⟨(ac.add ((a2).toNat * 3)).block, (ac.add ((a2).toNat * 3)).off + 2, none⟩ = some (.bool ((rd_T37 l0 a2).f2)) ∧ w'.cell? (ad.add ((a2).toNat * 3)) = some (.string ((rd_T37 l1 a2).f0)) ∧ w'.cell? ⟨(ad.add ((a2).toNat * 3)).block, (ad.add ((a2).toNat * 3)).off + 1, none⟩ = some (.string ((rd_T37 l1 a2).f1)) ∧ w'.cell? ⟨(ad.add ((a2).toNat * 3)).block, (ad.add ((a2).toNat * 3)).off + 2, none⟩ = some (.bool ((rd_T37 l1 a2).f2))) (ds := []) (fb 10 0) (by kernel_rfl) rfl rfl ⟨(pw_cell_below HB.out hw233_0), (pw_cell_below HB.out hw233_1), (pw_cell_below HB.out hw233_2), (pw_cell_below HB.out hw234_0), (pw_cell_below HB.out hw234_1), (pw_cell_below HB.out hw234_2)⟩ (fun hHeld => ?_); refine with_tabW laws_eqEntryS.tab6 laws_eqEntryS.bits6 (fun HT_ HW_ => ?_); generalize wr.drew = w9 at HB ae af ag ah ai aj hHeld ⊢; refine pu 0 17 (fb 10 1) HT_ ?_; refine pu 1 18 (fb 10 3) HT_ ?_; refine pu 2 19 (fb 10 7) HT_ ?_; refine pu 4 21 (fb 10 23) HT_ ?_; refine pu 5 22 (fb 10 55) HT_ ?_; refine pu 6 23 (fb 10 119) HT_ ?_; refine tk 3 20 (fb 10 127) HT_ HW_ hHeld ?_; refine tk 7 24 (fb 10 255) HT_ HW_ hHeld ?_; refine o1 8 (some 25) (fb 10 511) HT_ (fun K hK => ?_); refine gs _ (#[.agg #[.string ((rd_T37 l0 a2).f0), .string ((rd_T37 l0 a2).f1), .bool ((rd_T37 l0 a2).f2)], .agg #[.string ((rd_T37 l1 a2).f0), .string ((rd_T37 l1 a2).f1), .bool ((rd_T37 l1 a2).f2)]]) Tryd.func128 ?_; (with_reducible refine (laws_eqEntry.calls ((rd_T37 l0 a2).f0) ((rd_T37 l0 a2).f1) ((rd_T37 l0 a2).f2) ((rd_T37 l1 a2).f0) ((rd_T37 l1 a2).f1) ((rd_T37 l1 a2).f2) true _ A7.out).mono ?_); rintro e w10 ⟨rfl, hb⟩; refine ⟨_, rfl, ?_⟩; refine Ya1 (below_step (be HB.out) hb) ?_; clear HB; intro HB; (try clear hb); (try clear hb2); (try clear hk); (try clear hi); refine hK.out _ _ ⟨(pw_cell_below HB.out hw233_0), (pw_cell_below HB.out hw233_1), (pw_cell_below HB.out hw233_2), (pw_cell_below HB.out hw234_0), (pw_cell_below HB.out hw234_1), (pw_cell_below HB.out hw234_2)⟩ (fun hHeld => ?_); clear hK K; refine nm 25 ?_; refine pu 9 26 (fb 10 1023) HT_ ?_; refine done_ (done_of HT_.out (by kernel_rfl)) ?_
        try go_wp2
        go_roundg k1
        case measure => have := HK1.out; omega
        case rel => exact ⟨(wrap64 (a2 + 1)), Ye1, H', ⟨by have := HK1.out; omega⟩, ⟨be HB.out⟩⟩
       ·replace c8 := Bool.eq_false_iff.mpr c8; subst c8
        have H1 : (some false) = some r := by rw [if_neg (show ¬ (false = true) by decide)] at H; exact H
        clear H; have H := H1; clear H1; obtain rfl := Option.some.inj H
        try go_wp2
        refine Ya1 (below_drew1 HB.out) ?_; clear HB; intro HB; have ax : 0 ≤ (a2 : Int) := oda; have ay : a2 < (l0.length : Int) := oda; obtain ⟨ac, aW, ae, af, ag⟩ := at_T37 ak.out a2 ax ay; have hw233_2 := ag; have hw233_1 := af; have hw233_0 := ae
        cases aW
        replace ae := pw_cell_below HB.out ae; replace af := pw_cell_below HB.out af; replace ag := pw_cell_below HB.out ag; replace ax := eq_true ax; replace ay := eq_true ay; have az : 0 ≤ (a2 : Int) := oda; have aA : a2 < (l1.length : Int) := oda; obtain ⟨ad, aX, ah, ai, aj⟩ := at_T37 HR1.out a2 az aA; have hw234_2 := aj; have hw234_1 := ai; have hw234_0 := ah
        cases aX
        replace ah := pw_cell_below HB.out ah; replace ai := pw_cell_below HB.out ai; replace aj := pw_cell_below HB.out aj; replace az := eq_true az; replace aA := eq_true aA; refine start_ (n := 10) (S := fun w' => w'.cell? (ac.add ((a2).toNat * 3)) = some (.string ((rd_T37 l0 a2).f0)) ∧ w'.cell? ⟨(ac.add ((a2).toNat * 3)).block, (ac.add ((a2).toNat * 3)).off + 1, none⟩ = some (.string ((rd_T37 l0 a2).f1)) ∧ w'.cell? ⟨(ac.add ((a2).toNat * 3)).block, (ac.add ((a2).toNat * 3)).off + 2, none⟩ = some (.bool ((rd_T37 l0 a2).f2)) ∧ w'.cell? (ad.add ((a2).toNat * 3)) = some (.string ((rd_T37 l1 a2).f0)) ∧ w'.cell? ⟨(ad.add ((a2).toNat * 3)).block, (ad.add ((a2).toNat * 3)).off + 1, none⟩ = some (.string ((rd_T37 l1 a2).f1)) ∧ w'.cell? ⟨(ad.add ((a2).toNat * 3)).block, (ad.add ((a2).toNat * 3)).off + 2, none⟩ = some (.bool ((rd_T37 l1 a2).f2))) (ds := []) (fb 10 0) (by kernel_rfl) rfl rfl ⟨(pw_cell_below HB.out hw233_0), (pw_cell_below HB.out hw233_1), (pw_cell_below HB.out hw233_2), (pw_cell_below HB.out hw234_0), (pw_cell_below HB.out hw234_1), (pw_cell_below HB.out hw234_2)⟩ (fun hHeld => ?_); refine with_tabW laws_eqEntryS.tab6 laws_eqEntryS.bits6 (fun HT_ HW_ => ?_); generalize wr.drew = ab at HB ae af ag ah ai aj hHeld ⊢; refine pu 0 17 (fb 10 1) HT_ ?_; refine pu 1 18 (fb 10 3) HT_ ?_; refine pu 2 19 (fb 10 7) HT_ ?_; refine pu 4 21 (fb 10 23) HT_ ?_; refine pu 5 22 (fb 10 55) HT_ ?_; refine pu 6 23 (fb 10 119) HT_ ?_; refine tk 3 20 (fb 10 127) HT_ HW_ hHeld ?_; refine tk 7 24 (fb 10 255) HT_ HW_ hHeld ?_; refine o1 8 (some 25) (fb 10 511) HT_ (fun K hK => ?_); refine gs _ (#[.agg #[.string ((rd_T37 l0 a2).f0), .string ((rd_T37 l0 a2).f1), .bool ((rd_T37 l0 a2).f2)], .agg #[.string ((rd_T37 l1 a2).f0), .string ((rd_T37 l1 a2).f1), .bool ((rd_T37 l1 a2).f2)]]) Tryd.func128 ?_; (with_reducible refine (laws_eqEntry.calls ((rd_T37 l0 a2).f0) ((rd_T37 l0 a2).f1) ((rd_T37 l0 a2).f2) ((rd_T37 l1 a2).f0) ((rd_T37 l1 a2).f1) ((rd_T37 l1 a2).f2) false _ A7.out).mono ?_); rintro e w12 ⟨rfl, hb⟩; refine ⟨_, rfl, ?_⟩; refine Ya1 (below_step (be HB.out) hb) ?_; clear HB; intro HB; (try clear hb); (try clear hb2); (try clear hk); (try clear hi); refine hK.out _ _ ⟨(pw_cell_below HB.out hw233_0), (pw_cell_below HB.out hw233_1), (pw_cell_below HB.out hw233_2), (pw_cell_below HB.out hw234_0), (pw_cell_below HB.out hw234_1), (pw_cell_below HB.out hw234_2)⟩ (fun hHeld => ?_); clear hK K; refine nm 25 ?_; refine pu 9 26 (fb 10 1023) HT_ ?_; refine done_ (done_of HT_.out (by kernel_rfl)) ?_
        try go_wp2
        go_ret
        exact ⟨Ye2, be HB.out⟩
      ·rw [if_neg c6] at H
       exact absurd H (by simp)
     ·rw [if_neg c5] at H
      exact absurd H (by simp)
    ·rw [if_neg c4] at H
     have aD : decide (a2 < (l0.length : Int)) = false := decide_eq_false c4; clear c4; obtain rfl := Option.some.inj H
     go_wp2
     go_ret
     exact ⟨Ye2, be HB.out⟩
 ·rw [if_neg c3] at H
  have a8 : ((l0.length : Int) == (l1.length : Int)) = false := beq_eq_false_iff_ne.mpr c3; have aB : ((l0.length : Int) != (l1.length : Int)) = true := bne_iff_ne.mpr c3
  have bi : (l0.length == l1.length) = false := by first | simpa using c3 | (simp at c3 ⊢; omega)
  obtain rfl := Option.some.inj H
  go_enter Tryd.func72, Tryd.ntmps72
  go_wp2
  go_ret
  exact ⟨Ye2, be HB.out⟩

end Go.Proofs.YtgnmledjkamojaaDoor.P


namespace Go.Proofs.YtgnmledjkamojaaDoor.P
open Go.RowKit Go.Proofs.YtgnmledjkamojaaDoorW.PrintWords Go.Proofs.YtgnmledjkamojaaDoorW.PrintLast Go.Proofs.YtgnmledjkamojaaDoorW.PrintMore
attribute [local go_sem] max2_int min2_int max_two min_two max_three min_three max_four min_four
set_option linter.unusedVariables false
set_option linter.unusedSimpArgs false

/-! ### laws_szTree: function 13 -/
def laws_szTree.f (k : Nat) (a2 : List (S172)) (a1 : Int) : Option (Int) := (laws_szEntryS.f k a2 a1).bind fun a8 => (if a8 < 0 then (some (-1)) else (some a8))
theorem laws_szTree.mono : ∀ a0 a1 k, LeO (laws_szTree.f k a0 a1) (laws_szTree.f (k + 1) a0 a1) := by
 intro a0 a1 k
 unfold laws_szTree.f
 repeat' first
   | (with_reducible exact laws_szEntryS.mono _ _ _)
   | (with_reducible exact LeO.refl _)
   | (with_reducible exact LeO.none _)
   | (with_reducible refine LeO.ite ?_ ?_)
   | (with_reducible refine LeO.bind ?_ (fun _ => ?_))
   | exact laws_szEntryS.mono _ _ _
   | exact LeO.none _
   | refine LeO.ite ?_ ?_
   | refine LeO.bind ?_ (fun _ => ?_)
set_option maxHeartbeats 8000000 in
set_option maxRecDepth 100000 in
theorem laws_szTree.calls (k : Nat) (a4 : Option Addr) (a5 : Nat) (a2 : List (S172)) (a1 : Int) (r : Int) (w : World) (ad : Kd.C k172 w a4 a2.length a2) (ae : a2.length ≤ a5) (h : laws_szTree.f k a2 a1 = some r) :
  Calls Tryd.prog 13 #[.agg #[.slice a4 a2.length a5], .int .i64 a1] w fun e w' => e = .returned (.int .i64 r) ∧ Below w.heap.size w w' := by
 have hu24 := Tryd.underlying24; have af := Aside0.mk ad; have ag := Aside0.mk ae; clear ad ae; have HB := Aside0.mk (Below.refl w.heap.size w); have H : ((laws_szEntryS.f k a2 a1).bind fun a8 => (if a8 < 0 then (some (-1)) else (some a8))) = some r := h; clear h; replace H := Option.bind_eq_some_iff.mp H; obtain ⟨a8, ak, H⟩ := H; replace H : (if a8 < 0 then (some (-1)) else (some a8)) = some r := H; have A3 := Aside0.mk ak; clear ak
 by_cases c4 : a8 < 0
 ·rw [if_pos c4] at H
  have ay : decide (a8 < 0) = true := decide_eq_true c4; clear c4; obtain rfl := Option.some.inj H
  go_enter Tryd.func13, Tryd.ntmps13
  go_wp2_with (first | ((with_reducible refine gd 2 rfl ?_); refine bx 2 24 (#[.slice a4 a2.length a5]) ?_; intro az hg w5 hbox hb; refine Ya4 (below_step (be HB.out) hb) (hbox) (bs hg (be HB.out)) (bs hg (be HB.out)) ?_; clear HB; intro HB aa aA aB; clear hb hbox hg; have ⟨aW, aX⟩ := Yc1 aa.out) | ((with_reducible refine gc 62 rfl ?_); refine gl (some 8) _ (#[.slice a4 a2.length a5, .int .i64 a1]) Tryd.func62 ?_; (with_reducible refine (laws_szEntryS.calls k _ _ a2 a1 a8 _ ?side1 ?side2 A3.out).mono ?_); (case side1 => exact cb (Kd.C_below af.out HB.out)); (case side2 => exact ag.out); rintro e w7 ⟨rfl, hb⟩; refine ⟨_, rfl, ?_⟩; refine Ya2 (bb aa hb) (below_step (bf HB.out) hb) ?_; clear aa HB; intro aa HB; (try clear hb); (try clear hb2); (try clear hk); (try clear hi)))
  go_ret
  exact ⟨Ye2, (bf HB.out)⟩
 ·rw [if_neg c4] at H
  have ay : decide (a8 < 0) = false := decide_eq_false c4; clear c4; obtain rfl := Option.some.inj H
  go_enter Tryd.func13, Tryd.ntmps13
  go_wp2_with (first | ((with_reducible refine gd 2 rfl ?_); refine bx 2 24 (#[.slice a4 a2.length a5]) ?_; intro az hg w8 hbox hb; refine Ya4 (below_step (be HB.out) hb) (hbox) (bs hg (be HB.out)) (bs hg (be HB.out)) ?_; clear HB; intro HB aa aA aB; clear hb hbox hg; have ⟨aC, aD⟩ := Yc1 aa.out) | ((with_reducible refine gc 62 rfl ?_); refine gl (some 8) _ (#[.slice a4 a2.length a5, .int .i64 a1]) Tryd.func62 ?_; (with_reducible refine (laws_szEntryS.calls k _ _ a2 a1 a8 _ ?side1 ?side2 A3.out).mono ?_); (case side1 => exact cb (Kd.C_below af.out HB.out)); (case side2 => exact ag.out); rintro e w10 ⟨rfl, hb⟩; refine ⟨_, rfl, ?_⟩; refine Ya2 (bb aa hb) (below_step (bf HB.out) hb) ?_; clear aa HB; intro aa HB; (try clear hb); (try clear hb2); (try clear hk); (try clear hi)))
  go_ret
  exact ⟨Ye2, (bf HB.out)⟩

/-! ### laws_toTree: function 15 -/
def laws_toTree.f (k : Nat) (a2 : List (S172)) : Option ((List (S37))) := (laws_toEntryS.f k a2).bind fun ab => (some ab)
theorem laws_toTree.mono : ∀ a0 k, LeO (laws_toTree.f k a0) (laws_toTree.f (k + 1) a0) := by
 intro a0 k
 unfold laws_toTree.f
 repeat' first
   | (with_reducible exact laws_toEntryS.mono _ _)
   | (with_reducible exact LeO.refl _)
   | (with_reducible exact LeO.none _)
   | (with_reducible refine LeO.ite ?_ ?_)
   | (with_reducible refine LeO.bind ?_ (fun _ => ?_))
   | exact laws_toEntryS.mono _ _
   | exact LeO.none _
   | refine LeO.ite ?_ ?_
   | refine LeO.bind ?_ (fun _ => ?_)
set_option maxHeartbeats 8000000 in
set_option maxRecDepth 100000 in
theorem laws_toTree.calls (k : Nat) (a4 : Option Addr) (a5 : Nat) (a2 : List (S172)) (r : List (S37)) (w : World) (ad : Kd.C k172 w a4 a2.length a2) (ae : a2.length ≤ a5) (h : laws_toTree.f k a2 = some r) :
  Calls Tryd.prog 15 #[.agg #[.slice a4 a2.length a5]] w fun e w' => ∃ v0_ : Value, e = .returned (.agg #[v0_]) ∧ Kd.R k37 37 w' w.heap.size (fun _ => True) v0_ r ∧ Below w.heap.size w w' := by
 have hu24 := Tryd.underlying24; have hu28 := Tryd.underlying28; have af := Aside0.mk ad; have ag := Aside0.mk ae; clear ad ae; have HB := Aside0.mk (Below.refl w.heap.size w); have H : ((laws_toEntryS.f k a2).bind fun ab => (some ab)) = some r := h; clear h; replace H := Option.bind_eq_some_iff.mp H; obtain ⟨ab, A20, H⟩ := H; replace H : (some ab) = some r := H; have A2 := Aside0.mk A20; clear A20; obtain rfl := Option.some.inj H
 go_enter Tryd.func15, Tryd.ntmps15
 go_wp2_with (first | ((with_reducible refine gd 1 rfl ?_); refine bx 1 24 (#[.slice a4 a2.length a5]) ?_; intro gb186 hg w3 hbox hb; refine Ya4 (below_step (be HB.out) hb) (hbox) (bs hg (be HB.out)) (bs hg (be HB.out)) ?_; clear HB; intro HB a6 GW186 GE186; clear hb hbox hg) | ((with_reducible refine gd 2 rfl ?_); refine bx 2 28 (#[.slice none 0 0]) ?_; intro aq hg w4 hbox hb; refine Ya7 (bb a6 hb) (below_step (bf HB.out) hb) (hbox) (bs hg (bf HB.out)) (bs hg (bf HB.out)) (bl hg a6) (br hg a6) ?_; clear a6 HB; intro a6 HB a9 GW187 GE187 aE aF; clear hb hbox hg) | ((with_reducible refine gd 3 rfl ?_); refine bx 3 28 (#[.slice none 0 0]) ?_; intro aG hg w5 hbox hb; refine Ya10 (bb a6 hb) (bb a9 hb) (below_step (bf HB.out) hb) (hbox) (bs hg (bf HB.out)) (bs hg (bf HB.out)) (bl hg a6) (br hg a6) (bl hg a9) (br hg a9) ?_; clear a6 a9 HB; intro a6 a9 HB al GW188 GE188 aH aI aJ aK; clear hb hbox hg; have hnb6 := aE.out; have hnc6 := aF.out; have aL := aH.out; have aM := aI.out; have ⟨aN, aO⟩ := Yc1 a6.out) | ((with_reducible refine gc 66 rfl ?_); refine gl (some 6) _ (#[.slice a4 a2.length a5]) Tryd.func66 ?_; (with_reducible refine (laws_toEntryS.calls k _ _ a2 ab _ ?side1 ?side2 A2.out).mono ?_); (case side1 => exact cb (Kd.C_below af.out HB.out)); (case side2 => exact ag.out); rintro e w9 ⟨v190, rfl, ho0, hb⟩; refine ⟨_, rfl, ?_⟩; refine Ya5 (Kd.R_lower ho0 (below_size (bf HB.out))) (bb a6 hb) (bb a9 hb) (bb al hb) (below_step (bf HB.out) hb) ?_; clear a6 a9 al HB; intro ar a6 a9 al HB; (try clear hb); (try clear hb2); (try clear hk); (try clear hi); (try clear ho0); obtain ⟨am, an, aP⟩ := Kd.R_slice ar.out; subst aP; have hnb11 := aK.out; have hnc11 := aJ.out; have ⟨aY, aZ⟩ := Yc1 al.out; have ⟨b0, b1⟩ := Yc1 a9.out))
 refine bodyPost_ret (results_cell_row rfl _ _ aq 28 #[.slice am ab.length an] (0, 0) _ rfl (bp a9.out) Tryd.underlying28 rfl (by kernel_rfl)) rfl ?_; exact ⟨_, Ye2, by (with_reducible repeat (first | apply Kd.R_alloc | apply Kd.R_drewN | apply Kd.R_drew)); exact Kd.R_mono (Kd.R_far (p := ⟨aq, 0, none⟩) (Kd.R_far (p := ⟨aG, 0, none⟩) (Kd.R_types (Kd.R_types ar.out al.out (by decide)) a9.out (by decide)) (fun _ hk => hk.1.2) (.slice am ab.length an)) (fun _ hk => hk.2) (.slice am ab.length an)) (fun _ hk => trivial), (bf HB.out)⟩

/-! ### laws_eqTree: function 17 -/
def laws_eqTree.f (k : Nat) (a2 : List (S37)) (a7 : List (S37)) : Option (Bool) := (laws_eqEntryS.f k a2 a7).bind fun ah => (if ah = true then (some true) else (some false))
theorem laws_eqTree.mono : ∀ a0 a1 k, LeO (laws_eqTree.f k a0 a1) (laws_eqTree.f (k + 1) a0 a1) := by
 intro a0 a1 k
 unfold laws_eqTree.f
 repeat' first
   | (with_reducible exact laws_eqEntryS.mono _ _ _)
   | (with_reducible exact LeO.refl _)
   | (with_reducible exact LeO.none _)
   | (with_reducible refine LeO.ite ?_ ?_)
   | (with_reducible refine LeO.bind ?_ (fun _ => ?_))
   | exact laws_eqEntryS.mono _ _ _
   | exact LeO.none _
   | refine LeO.ite ?_ ?_
   | refine LeO.bind ?_ (fun _ => ?_)
set_option maxHeartbeats 8000000 in
set_option maxRecDepth 100000 in
theorem laws_eqTree.calls (k : Nat) (a4 : Option Addr) (a5 : Nat) (a2 : List (S37)) (ai : Option Addr) (aj : Nat) (a7 : List (S37)) (r : Bool) (w : World) (ad : Kd.C k37 w a4 a2.length a2) (ae : a2.length ≤ a5) (au : Kd.C k37 w ai a7.length a7) (av : a7.length ≤ aj) (h : laws_eqTree.f k a2 a7 = some r) :
  Calls Tryd.prog 17 #[.agg #[.slice a4 a2.length a5], .agg #[.slice ai a7.length aj]] w fun e w' => e = .returned (.bool r) ∧ Below w.heap.size w w' := by
 have hu28 := Tryd.underlying28; have af := Aside0.mk ad; have ag := Aside0.mk ae; clear ad ae; have aw := Aside0.mk au; have ax := Aside0.mk av; clear au av; have HB := Aside0.mk (Below.refl w.heap.size w); have H : ((laws_eqEntryS.f k a2 a7).bind fun ah => (if ah = true then (some true) else (some false))) = some r := h; clear h; replace H := Option.bind_eq_some_iff.mp H; obtain ⟨ah, ak, H⟩ := H; replace H : (if ah = true then (some true) else (some false)) = some r := H; have A3 := Aside0.mk ak; clear ak
 by_cases c4 : ah = true
 ·subst c4
  have H1 : (some true) = some r := by rw [if_pos rfl] at H; exact H
  clear H; have H := H1; clear H1; obtain rfl := Option.some.inj H
  go_enter Tryd.func17, Tryd.ntmps17
  go_wp2_with (first | ((with_reducible refine gd 2 rfl ?_); refine bx 2 28 (#[.slice a4 a2.length a5]) ?_; intro aQ hg w5 hbox hb; refine Ya4 (below_step (be HB.out) hb) (hbox) (bs hg (be HB.out)) (bs hg (be HB.out)) ?_; clear HB; intro HB a3 aR aS; clear hb hbox hg) | ((with_reducible refine gd 3 rfl ?_); refine bx 3 28 (#[.slice ai a7.length aj]) ?_; intro aT hg w6 hbox hb; refine Ya7 (bb a3 hb) (below_step (bf HB.out) hb) (hbox) (bs hg (bf HB.out)) (bs hg (bf HB.out)) (bl hg a3) (br hg a3) ?_; clear a3 HB; intro a3 HB ac aU aV ao ap; clear hb hbox hg; have aL := ao.out; have aM := ap.out; have ⟨aN, aO⟩ := Yc1 a3.out; have ⟨aC, aD⟩ := Yc1 ac.out) | ((with_reducible refine gc 72 rfl ?_); refine gl (some 9) _ (#[.slice a4 a2.length a5, .slice ai a7.length aj]) Tryd.func72 ?_; (with_reducible refine (laws_eqEntryS.calls k _ _ a2 _ _ a7 true _ ?side1 ?side2 ?side3 ?side4 A3.out).mono ?_); (case side1 => exact cb (Kd.C_below af.out HB.out)); (case side2 => exact ag.out); (case side3 => exact cb (Kd.C_below aw.out HB.out)); (case side4 => exact ax.out); rintro e w10 ⟨rfl, hb⟩; refine ⟨_, rfl, ?_⟩; refine Ya3 (bb a3 hb) (bb ac hb) (below_step (bf HB.out) hb) ?_; clear a3 ac HB; intro a3 ac HB; (try clear hb); (try clear hb2); (try clear hk); (try clear hi)))
  go_ret
  exact ⟨Ye2, (bf HB.out)⟩
 ·replace c4 := Bool.eq_false_iff.mpr c4; subst c4
  have H1 : (some false) = some r := by rw [if_neg (show ¬ (false = true) by decide)] at H; exact H
  clear H; have H := H1; clear H1; obtain rfl := Option.some.inj H
  go_enter Tryd.func17, Tryd.ntmps17
  go_wp2_with (first | ((with_reducible refine gd 2 rfl ?_); refine bx 2 28 (#[.slice a4 a2.length a5]) ?_; intro aQ hg w11 hbox hb; refine Ya4 (below_step (be HB.out) hb) (hbox) (bs hg (be HB.out)) (bs hg (be HB.out)) ?_; clear HB; intro HB a3 aR aS; clear hb hbox hg) | ((with_reducible refine gd 3 rfl ?_); refine bx 3 28 (#[.slice ai a7.length aj]) ?_; intro aT hg w12 hbox hb; refine Ya7 (bb a3 hb) (below_step (bf HB.out) hb) (hbox) (bs hg (bf HB.out)) (bs hg (bf HB.out)) (bl hg a3) (br hg a3) ?_; clear a3 HB; intro a3 HB ac aU aV ao ap; clear hb hbox hg; have hnb13 := ao.out; have hnc13 := ap.out; have ⟨b2, b3⟩ := Yc1 a3.out; have ⟨b4, b5⟩ := Yc1 ac.out) | ((with_reducible refine gc 72 rfl ?_); refine gl (some 9) _ (#[.slice a4 a2.length a5, .slice ai a7.length aj]) Tryd.func72 ?_; (with_reducible refine (laws_eqEntryS.calls k _ _ a2 _ _ a7 false _ ?side1 ?side2 ?side3 ?side4 A3.out).mono ?_); (case side1 => exact cb (Kd.C_below af.out HB.out)); (case side2 => exact ag.out); (case side3 => exact cb (Kd.C_below aw.out HB.out)); (case side4 => exact ax.out); rintro e w16 ⟨rfl, hb⟩; refine ⟨_, rfl, ?_⟩; refine Ya3 (bb a3 hb) (bb ac hb) (below_step (bf HB.out) hb) ?_; clear a3 ac HB; intro a3 ac HB; (try clear hb); (try clear hb2); (try clear hk); (try clear hi)))
  go_ret
  exact ⟨Ye2, (bf HB.out)⟩

end Go.Proofs.YtgnmledjkamojaaDoor.P


namespace Go.Proofs.YtgnmledjkamojaaDoor.P
open Go.RowKit Go.Proofs.YtgnmledjkamojaaDoorW.PrintWords Go.Proofs.YtgnmledjkamojaaDoorW.PrintLast Go.Proofs.YtgnmledjkamojaaDoorW.PrintMore
attribute [local go_sem] max2_int min2_int max_two min_two max_three min_three max_four min_four
set_option linter.unusedVariables false
set_option linter.unusedSimpArgs false

/-! ### spec_l6At: function 97 -/
def spec_l6At.l0 : Nat → ByteArray → Int → List (S37) → Option (Bool × ByteArray × Bool)
 | 0, _, _, _ => none
 | k + 1, x1, x5, ac => if x5 < (ac.length : Int) then (if 0 ≤ x5 then (if ((rd_T37 ac x5).f0).toList = x1.toList then (some (true, (rd_T37 ac x5).f1, (rd_T37 ac x5).f2)) else (spec_l6At.l0 k x1 (wrap64 (x5 + 1)) ac)) else (none)) else (some (false, (⟨#[]⟩ : ByteArray), false))
def spec_l6At.f (k : Nat) (a4 : List (S37)) (a1 : ByteArray) : Option (Bool × ByteArray × Bool) := spec_l6At.l0 k a1 0 a4
theorem spec_l6At.mono_l : ∀ k, (∀ y0 y1 y2, LeO (spec_l6At.l0 k y0 y1 y2) (spec_l6At.l0 (k + 1) y0 y1 y2))
 | 0 => fun _ _ _ r h => by simp [spec_l6At.l0] at h
 | k + 1 => by
  have ih0 := spec_l6At.mono_l k
  ·intro y0 y1 y2
   unfold spec_l6At.l0
   repeat' first
   | (with_reducible exact ih0 _ _ _)
   | (with_reducible exact LeO.refl _)
   | (with_reducible exact LeO.none _)
   | (with_reducible refine LeO.ite ?_ ?_)
   | (with_reducible refine LeO.bind ?_ (fun _ => ?_))
   | exact ih0 _ _ _
   | exact LeO.none _
   | refine LeO.ite ?_ ?_
   | refine LeO.bind ?_ (fun _ => ?_)
theorem spec_l6At.mono : ∀ a0 a1 k, LeO (spec_l6At.f k a0 a1) (spec_l6At.f (k + 1) a0 a1) := by
 intro a0 a1 k; have ih0 := spec_l6At.mono_l k
 unfold spec_l6At.f
 repeat' first
   | (with_reducible exact ih0 _ _ _)
   | (with_reducible exact LeO.refl _)
   | (with_reducible exact LeO.none _)
   | (with_reducible refine LeO.ite ?_ ?_)
   | (with_reducible refine LeO.bind ?_ (fun _ => ?_))
   | exact ih0 _ _ _
   | exact LeO.none _
   | refine LeO.ite ?_ ?_
   | refine LeO.bind ?_ (fun _ => ?_)
def spec_l6At.T5 : Bool × List (List Nat × List Nat) := (true, [([], []), ([0], [0]), ([], []), ([1, 2], [1, 2]), ([3], [3]), ([4], [4]), ([], []), ([6], [6]), ([], []), ([7, 8], [7, 8]), ([9], [9]), ([10], [10]), ([5, 11], [5, 11]), ([12, 0, 1, 2, 3, 4, 5, 6, 7, 8, 9, 10, 11, 12], [12])])
def spec_l6At.B5 : List Nat := [0, 1, 0, 7, 15, 31, 0, 64, 0, 448, 960, 1984, 4095, 8191]
theorem spec_l6At.tab5 : rtab .any (opsOf Tryd.f97 5) = spec_l6At.T5 := by kernel_rfl
theorem spec_l6At.bits5 : waitsOk spec_l6At.T5.2 spec_l6At.B5 = true := by kernel_rfl
set_option maxHeartbeats 8000000 in
set_option maxRecDepth 100000 in
theorem spec_l6At.calls (k : Nat) (ae : Option Addr) (ad : Nat) (a4 : List (S37)) (a1 : ByteArray) (r1 : Bool) (r2 : ByteArray) (r3 : Bool) (w : World) (ax : Kd.C k37 w ae a4.length a4) (ay : a4.length ≤ ad) (h : spec_l6At.f k a4 a1 = some (r1, r2, r3)) :
  Calls Tryd.prog 97 #[.agg #[.slice ae a4.length ad], .string a1] w fun e w' => e = .returned (.agg #[.bool r1, .string r2, .bool r3]) ∧ Below w.heap.size w w' := by
 have hu28 := Tryd.underlying28; have hu122 := Tryd.underlying122; have af := Aside0.mk ax; have HC0_0 := Aside0.mk ay; clear ax ay; have HB := Aside0.mk (Below.refl w.heap.size w); have H : (spec_l6At.l0 k a1 0 a4) = some (r1, r2, r3) := h; clear h; have H' := Aside0.mk H; clear H
 go_enter Tryd.func97, Tryd.ntmps97
 go_wp2_with (first | ((with_reducible refine gd 2 rfl ?_); refine bx 2 28 (#[.slice ae a4.length ad]) ?_; intro az hg w3 hbox hb; refine Ya4 (below_step (be HB.out) hb) (hbox) (bs hg (be HB.out)) (bs hg (be HB.out)) ?_; clear HB; intro HB a6 GW798 GE798; clear hb hbox hg) | ((with_reducible refine gd 4 rfl ?_); refine bx 4 122 (#[.bool false, .string (⟨#[]⟩ : ByteArray), .bool false]) ?_; intro a5 hg w4 hbox hb; refine Ya7 (bb a6 hb) (below_step (bf HB.out) hb) (hbox) (bs hg (bf HB.out)) (bs hg (bf HB.out)) (bl hg a6) (br hg a6) ?_; clear a6 HB; intro a6 HB a8 a2 GE799 a9 ag; clear hb hbox hg))
 go_loopg [5] k (fun kq v5 w' => ∃ (a3 : Int) (an : Bool) (ao : ByteArray) (ap : Bool), v5 = .int .i64 a3 ∧ Aside0 (spec_l6At.l0 kq a1 a3 a4 = some (r1, r2, r3)) ∧ Aside0 (kq ≤ k) ∧ Aside0 (w'.heap[az]? = some (.cells #[(.slice ae a4.length ad)] 28 (0, 0))) ∧ Aside0 (w'.heap[a5]? = some (.cells #[.bool an, .string ao, .bool ap] 122 (0, 0))) ∧ Aside0 (Below w.heap.size w w'))
 case atStart => exact ⟨(0), (false), ((⟨#[]⟩ : ByteArray)), (false), Ye1, H', ⟨Nat.le_refl _⟩, ⟨bk a6.out⟩, ⟨bk a8.out⟩, ⟨bf HB.out⟩⟩
 case round =>
  clear H'; (try clear p2); obtain ⟨a3, an, ao, ap, rfl, HA, HK1, a6, a8, HB⟩ := hrel
  cases gk with
  | zero => exact absurd HA.out (by simp [spec_l6At.l0])
  | succ k1 =>
   have H := HA.out; clear HA; simp only [spec_l6At.l0] at H
   by_cases c5 : a3 < (a4.length : Int)
   ·rw [if_pos c5] at H
    have aA : decide (a3 < (a4.length : Int)) = true := decide_eq_true c5; clear c5
    by_cases c6 : 0 ≤ a3
    ·rw [if_pos c6] at H
     have c6b0 : decide (0 ≤ a3) = true := decide_eq_true c6; clear c6
     by_cases c7 : ((rd_T37 a4 a3).f0).toList = a1.toList
     ·rw [if_pos c7] at H
      have aB : (((rd_T37 a4 a3).f0).toList == a1.toList) = true := beq_iff_eq.mpr c7; have aC : (((rd_T37 a4 a3).f0).toList != a1.toList) = false := bne_eq_false_iff_eq.mpr c7; clear c7; simp only [Option.some.injEq, Prod.mk.injEq] at H; obtain ⟨rfl, rfl, rfl⟩ := H; have hnb8 := a9.out; have hnc8 := ag.out; have ⟨aK, aL⟩ := Yc1 a6.out; have aa : 0 ≤ (a3 : Int) := oda; have ab : a3 < (a4.length : Int) := oda; obtain ⟨a7, aq, aD, aE, aF⟩ := at_T37 (Kd.C_below af.out HB.out) a3 aa ab
      cases aq
      replace aa := eq_true aa; replace ab := eq_true ab
      try go_wp2
      refine Ya3 (blk_drew a6.out) (blk_drew a8.out) (below_drew1 HB.out) ?_; clear a6 a8 HB; intro a6 a8 HB; have ar : 0 ≤ (a3 : Int) := oda; have au : a3 < (a4.length : Int) := oda; obtain ⟨aG, aH, ah, ai, aj⟩ := at_T37 af.out a3 ar au; have hw801_2 := aj; have hw801_1 := ai; have hw801_0 := ah
      obtain rfl : a7 = aG := (by injection aH)
      replace ah := pw_cell_below HB.out ah; replace ai := pw_cell_below HB.out ai; replace aj := pw_cell_below HB.out aj; replace ar := eq_true ar; replace au := eq_true au; have av : 0 ≤ (a3 : Int) := oda; have aw : a3 < (a4.length : Int) := oda; obtain ⟨aI, aJ, ak, al, am⟩ := at_T37 af.out a3 av aw; have hw802_2 := am; have hw802_1 := al; have hw802_0 := ak
      obtain rfl : a7 = aI := (by injection aJ)
      replace ak := pw_cell_below HB.out ak; replace al := pw_cell_below HB.out al; replace am := pw_cell_below HB.out am; replace av := eq_true av; replace aw := eq_true aw; refine start_ (n := 14) (S := fun w' => w'.cell? ⟨az, 0, none⟩ = some (.slice (some a7) a4.length ad) ∧ w'.cell? (a7.add ((a3).toNat * 3)) = some (.string ((rd_T37 a4 a3).f0)) ∧ w'.cell? ⟨(a7.add ((a3).toNat * 3)).block, (a7.add ((a3).toNat * 3)).off + 1, none⟩ = some (.string ((rd_T37 a4 a3).f1)) ∧ w'.cell? ⟨(a7.add ((a3).toNat * 3)).block, (a7.add ((a3).toNat * 3)).off + 2, none⟩ = some (.bool ((rd_T37 a4 a3).f2)) ∧ w'.cell? (a7.add ((a3).toNat * 3)) = some (.string ((rd_T37 a4 a3).f0)) ∧ w'.cell? ⟨(a7.add ((a3).toNat * 3)).block, (a7.add ((a3).toNat * 3)).off + 1, none⟩ = some (.string ((rd_T37 a4 a3).f1)) ∧ w'.cell? ⟨(a7.add ((a3).toNat * 3)).block, (a7.add ((a3).toNat * 3)).off + 2, none⟩ = some (.bool ((rd_T37 a4 a3).f2))) (ds := []) (fb 14 0) (by kernel_rfl) rfl rfl ⟨bc a6 0, (pw_cell_below HB.out hw801_0), (pw_cell_below HB.out hw801_1), (pw_cell_below HB.out hw801_2), (pw_cell_below HB.out hw802_0), (pw_cell_below HB.out hw802_1), (pw_cell_below HB.out hw802_2)⟩ (fun hHeld => ?_); refine with_tabW spec_l6At.tab5 spec_l6At.bits5 (fun HT_ HW_ => ?_); generalize wr.drew = w10 at a6 a8 HB ah ai aj ak al am hHeld ⊢; refine pu 0 21 (fb 14 1) HT_ ?_; refine pu 2 23 (fb 14 5) HT_ ?_; refine pu 6 27 (fb 14 69) HT_ ?_; refine pu 8 29 (fb 14 325) HT_ ?_; refine tk 1 22 (fb 14 327) HT_ HW_ hHeld ?_; refine pu 3 24 (fb 14 335) HT_ ?_; refine pu 4 25 (fb 14 351) HT_ ?_; refine tk 5 26 (fb 14 383) HT_ HW_ hHeld ?_; refine tk 7 28 (fb 14 511) HT_ HW_ hHeld ?_; refine pu 9 30 (fb 14 1023) HT_ ?_; refine pu 10 31 (fb 14 2047) HT_ ?_; refine tk 11 32 (fb 14 4095) HT_ HW_ hHeld ?_; refine pu 12 33 (fb 14 8191) HT_ ?_; refine o1 13 none (fb 14 16383) HT_ (fun K hK => ?_); have ⟨hs11, hs12, hs13, hfs11, hfs12, hfs13⟩ := Yc3 a8.out; have aM := a9.out; have aN := ag.out; refine skip_ (w1 := ?_) (by rfl) rfl ?_ ?_; rotate_left
      ·go_simp; rfl
      refine hK.out _ _ ⟨((cell_far (p := ⟨a5, _, none⟩) a9.out _).trans (((cell_far (p := ⟨a5, _, none⟩) a9.out _).trans (((cell_far (p := ⟨a5, _, none⟩) a9.out _).trans (hHeld.1)))))), ((cell_far (p := ⟨a5, _, none⟩) (by first | exact Nat.ne_of_lt (Nat.lt_of_lt_of_le (by have := World.block_lt_of_cell? _ _ hw801_0; first | rwa [add_block] at this | exact this) a2.out) | (rw [add_block]; exact Nat.ne_of_lt (Nat.lt_of_lt_of_le (by have := World.block_lt_of_cell? _ _ hw801_0; first | rwa [add_block] at this | exact this) a2.out)) | (show (Addr.add _ _).block ≠ _; rw [add_block]; exact Nat.ne_of_lt (Nat.lt_of_lt_of_le (by have := World.block_lt_of_cell? _ _ hw801_0; first | rwa [add_block] at this | exact this) a2.out)) | (dsimp only; exact Nat.ne_of_lt (Nat.lt_of_lt_of_le (by have := World.block_lt_of_cell? _ _ hw801_0; first | rwa [add_block] at this | exact this) a2.out))) _).trans (((cell_far (p := ⟨a5, _, none⟩) (by first | exact Nat.ne_of_lt (Nat.lt_of_lt_of_le (by have := World.block_lt_of_cell? _ _ hw801_0; first | rwa [add_block] at this | exact this) a2.out) | (rw [add_block]; exact Nat.ne_of_lt (Nat.lt_of_lt_of_le (by have := World.block_lt_of_cell? _ _ hw801_0; first | rwa [add_block] at this | exact this) a2.out)) | (show (Addr.add _ _).block ≠ _; rw [add_block]; exact Nat.ne_of_lt (Nat.lt_of_lt_of_le (by have := World.block_lt_of_cell? _ _ hw801_0; first | rwa [add_block] at this | exact this) a2.out)) | (dsimp only; exact Nat.ne_of_lt (Nat.lt_of_lt_of_le (by have := World.block_lt_of_cell? _ _ hw801_0; first | rwa [add_block] at this | exact this) a2.out))) _).trans (((cell_far (p := ⟨a5, _, none⟩) (by first | exact Nat.ne_of_lt (Nat.lt_of_lt_of_le (by have := World.block_lt_of_cell? _ _ hw801_0; first | rwa [add_block] at this | exact this) a2.out) | (rw [add_block]; exact Nat.ne_of_lt (Nat.lt_of_lt_of_le (by have := World.block_lt_of_cell? _ _ hw801_0; first | rwa [add_block] at this | exact this) a2.out)) | (show (Addr.add _ _).block ≠ _; rw [add_block]; exact Nat.ne_of_lt (Nat.lt_of_lt_of_le (by have := World.block_lt_of_cell? _ _ hw801_0; first | rwa [add_block] at this | exact this) a2.out)) | (dsimp only; exact Nat.ne_of_lt (Nat.lt_of_lt_of_le (by have := World.block_lt_of_cell? _ _ hw801_0; first | rwa [add_block] at this | exact this) a2.out))) _).trans (hHeld.2.1)))))), ((cell_far (p := ⟨a5, _, none⟩) (by first | exact Nat.ne_of_lt (Nat.lt_of_lt_of_le (by have := World.block_lt_of_cell? _ _ hw801_1; first | rwa [add_block] at this | exact this) a2.out) | (rw [add_block]; exact Nat.ne_of_lt (Nat.lt_of_lt_of_le (by have := World.block_lt_of_cell? _ _ hw801_1; first | rwa [add_block] at this | exact this) a2.out)) | (show (Addr.add _ _).block ≠ _; rw [add_block]; exact Nat.ne_of_lt (Nat.lt_of_lt_of_le (by have := World.block_lt_of_cell? _ _ hw801_1; first | rwa [add_block] at this | exact this) a2.out)) | (dsimp only; exact Nat.ne_of_lt (Nat.lt_of_lt_of_le (by have := World.block_lt_of_cell? _ _ hw801_1; first | rwa [add_block] at this | exact this) a2.out))) _).trans (((cell_far (p := ⟨a5, _, none⟩) (by first | exact Nat.ne_of_lt (Nat.lt_of_lt_of_le (by have := World.block_lt_of_cell? _ _ hw801_1; first | rwa [add_block] at this | exact this) a2.out) | (rw [add_block]; exact Nat.ne_of_lt (Nat.lt_of_lt_of_le (by have := World.block_lt_of_cell? _ _ hw801_1; first | rwa [add_block] at this | exact this) a2.out)) | (show (Addr.add _ _).block ≠ _; rw [add_block]; exact Nat.ne_of_lt (Nat.lt_of_lt_of_le (by have := World.block_lt_of_cell? _ _ hw801_1; first | rwa [add_block] at this | exact this) a2.out)) | (dsimp only; exact Nat.ne_of_lt (Nat.lt_of_lt_of_le (by have := World.block_lt_of_cell? _ _ hw801_1; first | rwa [add_block] at this | exact this) a2.out))) _).trans (((cell_far (p := ⟨a5, _, none⟩) (by first | exact Nat.ne_of_lt (Nat.lt_of_lt_of_le (by have := World.block_lt_of_cell? _ _ hw801_1; first | rwa [add_block] at this | exact this) a2.out) | (rw [add_block]; exact Nat.ne_of_lt (Nat.lt_of_lt_of_le (by have := World.block_lt_of_cell? _ _ hw801_1; first | rwa [add_block] at this | exact this) a2.out)) | (show (Addr.add _ _).block ≠ _; rw [add_block]; exact Nat.ne_of_lt (Nat.lt_of_lt_of_le (by have := World.block_lt_of_cell? _ _ hw801_1; first | rwa [add_block] at this | exact this) a2.out)) | (dsimp only; exact Nat.ne_of_lt (Nat.lt_of_lt_of_le (by have := World.block_lt_of_cell? _ _ hw801_1; first | rwa [add_block] at this | exact this) a2.out))) _).trans (hHeld.2.2.1)))))), ((cell_far (p := ⟨a5, _, none⟩) (by first | exact Nat.ne_of_lt (Nat.lt_of_lt_of_le (by have := World.block_lt_of_cell? _ _ hw801_2; first | rwa [add_block] at this | exact this) a2.out) | (rw [add_block]; exact Nat.ne_of_lt (Nat.lt_of_lt_of_le (by have := World.block_lt_of_cell? _ _ hw801_2; first | rwa [add_block] at this | exact this) a2.out)) | (show (Addr.add _ _).block ≠ _; rw [add_block]; exact Nat.ne_of_lt (Nat.lt_of_lt_of_le (by have := World.block_lt_of_cell? _ _ hw801_2; first | rwa [add_block] at this | exact this) a2.out)) | (dsimp only; exact Nat.ne_of_lt (Nat.lt_of_lt_of_le (by have := World.block_lt_of_cell? _ _ hw801_2; first | rwa [add_block] at this | exact this) a2.out))) _).trans (((cell_far (p := ⟨a5, _, none⟩) (by first | exact Nat.ne_of_lt (Nat.lt_of_lt_of_le (by have := World.block_lt_of_cell? _ _ hw801_2; first | rwa [add_block] at this | exact this) a2.out) | (rw [add_block]; exact Nat.ne_of_lt (Nat.lt_of_lt_of_le (by have := World.block_lt_of_cell? _ _ hw801_2; first | rwa [add_block] at this | exact this) a2.out)) | (show (Addr.add _ _).block ≠ _; rw [add_block]; exact Nat.ne_of_lt (Nat.lt_of_lt_of_le (by have := World.block_lt_of_cell? _ _ hw801_2; first | rwa [add_block] at this | exact this) a2.out)) | (dsimp only; exact Nat.ne_of_lt (Nat.lt_of_lt_of_le (by have := World.block_lt_of_cell? _ _ hw801_2; first | rwa [add_block] at this | exact this) a2.out))) _).trans (((cell_far (p := ⟨a5, _, none⟩) (by first | exact Nat.ne_of_lt (Nat.lt_of_lt_of_le (by have := World.block_lt_of_cell? _ _ hw801_2; first | rwa [add_block] at this | exact this) a2.out) | (rw [add_block]; exact Nat.ne_of_lt (Nat.lt_of_lt_of_le (by have := World.block_lt_of_cell? _ _ hw801_2; first | rwa [add_block] at this | exact this) a2.out)) | (show (Addr.add _ _).block ≠ _; rw [add_block]; exact Nat.ne_of_lt (Nat.lt_of_lt_of_le (by have := World.block_lt_of_cell? _ _ hw801_2; first | rwa [add_block] at this | exact this) a2.out)) | (dsimp only; exact Nat.ne_of_lt (Nat.lt_of_lt_of_le (by have := World.block_lt_of_cell? _ _ hw801_2; first | rwa [add_block] at this | exact this) a2.out))) _).trans (hHeld.2.2.2.1)))))), ((cell_far (p := ⟨a5, _, none⟩) (by first | exact Nat.ne_of_lt (Nat.lt_of_lt_of_le (by have := World.block_lt_of_cell? _ _ hw802_0; first | rwa [add_block] at this | exact this) a2.out) | (rw [add_block]; exact Nat.ne_of_lt (Nat.lt_of_lt_of_le (by have := World.block_lt_of_cell? _ _ hw802_0; first | rwa [add_block] at this | exact this) a2.out)) | (show (Addr.add _ _).block ≠ _; rw [add_block]; exact Nat.ne_of_lt (Nat.lt_of_lt_of_le (by have := World.block_lt_of_cell? _ _ hw802_0; first | rwa [add_block] at this | exact this) a2.out)) | (dsimp only; exact Nat.ne_of_lt (Nat.lt_of_lt_of_le (by have := World.block_lt_of_cell? _ _ hw802_0; first | rwa [add_block] at this | exact this) a2.out))) _).trans (((cell_far (p := ⟨a5, _, none⟩) (by first | exact Nat.ne_of_lt (Nat.lt_of_lt_of_le (by have := World.block_lt_of_cell? _ _ hw802_0; first | rwa [add_block] at this | exact this) a2.out) | (rw [add_block]; exact Nat.ne_of_lt (Nat.lt_of_lt_of_le (by have := World.block_lt_of_cell? _ _ hw802_0; first | rwa [add_block] at this | exact this) a2.out)) | (show (Addr.add _ _).block ≠ _; rw [add_block]; exact Nat.ne_of_lt (Nat.lt_of_lt_of_le (by have := World.block_lt_of_cell? _ _ hw802_0; first | rwa [add_block] at this | exact this) a2.out)) | (dsimp only; exact Nat.ne_of_lt (Nat.lt_of_lt_of_le (by have := World.block_lt_of_cell? _ _ hw802_0; first | rwa [add_block] at this | exact this) a2.out))) _).trans (((cell_far (p := ⟨a5, _, none⟩) (by first | exact Nat.ne_of_lt (Nat.lt_of_lt_of_le (by have := World.block_lt_of_cell? _ _ hw802_0; first | rwa [add_block] at this | exact this) a2.out) | (rw [add_block]; exact Nat.ne_of_lt (Nat.lt_of_lt_of_le (by have := World.block_lt_of_cell? _ _ hw802_0; first | rwa [add_block] at this | exact this) a2.out)) | (show (Addr.add _ _).block ≠ _; rw [add_block]; exact Nat.ne_of_lt (Nat.lt_of_lt_of_le (by have := World.block_lt_of_cell? _ _ hw802_0; first | rwa [add_block] at this | exact this) a2.out)) | (dsimp only; exact Nat.ne_of_lt (Nat.lt_of_lt_of_le (by have := World.block_lt_of_cell? _ _ hw802_0; first | rwa [add_block] at this | exact this) a2.out))) _).trans (hHeld.2.2.2.2.1)))))), ((cell_far (p := ⟨a5, _, none⟩) (by first | exact Nat.ne_of_lt (Nat.lt_of_lt_of_le (by have := World.block_lt_of_cell? _ _ hw802_1; first | rwa [add_block] at this | exact this) a2.out) | (rw [add_block]; exact Nat.ne_of_lt (Nat.lt_of_lt_of_le (by have := World.block_lt_of_cell? _ _ hw802_1; first | rwa [add_block] at this | exact this) a2.out)) | (show (Addr.add _ _).block ≠ _; rw [add_block]; exact Nat.ne_of_lt (Nat.lt_of_lt_of_le (by have := World.block_lt_of_cell? _ _ hw802_1; first | rwa [add_block] at this | exact this) a2.out)) | (dsimp only; exact Nat.ne_of_lt (Nat.lt_of_lt_of_le (by have := World.block_lt_of_cell? _ _ hw802_1; first | rwa [add_block] at this | exact this) a2.out))) _).trans (((cell_far (p := ⟨a5, _, none⟩) (by first | exact Nat.ne_of_lt (Nat.lt_of_lt_of_le (by have := World.block_lt_of_cell? _ _ hw802_1; first | rwa [add_block] at this | exact this) a2.out) | (rw [add_block]; exact Nat.ne_of_lt (Nat.lt_of_lt_of_le (by have := World.block_lt_of_cell? _ _ hw802_1; first | rwa [add_block] at this | exact this) a2.out)) | (show (Addr.add _ _).block ≠ _; rw [add_block]; exact Nat.ne_of_lt (Nat.lt_of_lt_of_le (by have := World.block_lt_of_cell? _ _ hw802_1; first | rwa [add_block] at this | exact this) a2.out)) | (dsimp only; exact Nat.ne_of_lt (Nat.lt_of_lt_of_le (by have := World.block_lt_of_cell? _ _ hw802_1; first | rwa [add_block] at this | exact this) a2.out))) _).trans (((cell_far (p := ⟨a5, _, none⟩) (by first | exact Nat.ne_of_lt (Nat.lt_of_lt_of_le (by have := World.block_lt_of_cell? _ _ hw802_1; first | rwa [add_block] at this | exact this) a2.out) | (rw [add_block]; exact Nat.ne_of_lt (Nat.lt_of_lt_of_le (by have := World.block_lt_of_cell? _ _ hw802_1; first | rwa [add_block] at this | exact this) a2.out)) | (show (Addr.add _ _).block ≠ _; rw [add_block]; exact Nat.ne_of_lt (Nat.lt_of_lt_of_le (by have := World.block_lt_of_cell? _ _ hw802_1; first | rwa [add_block] at this | exact this) a2.out)) | (dsimp only; exact Nat.ne_of_lt (Nat.lt_of_lt_of_le (by have := World.block_lt_of_cell? _ _ hw802_1; first | rwa [add_block] at this | exact this) a2.out))) _).trans (hHeld.2.2.2.2.2.1)))))), ((cell_far (p := ⟨a5, _, none⟩) (by first | exact Nat.ne_of_lt (Nat.lt_of_lt_of_le (by have := World.block_lt_of_cell? _ _ hw802_2; first | rwa [add_block] at this | exact this) a2.out) | (rw [add_block]; exact Nat.ne_of_lt (Nat.lt_of_lt_of_le (by have := World.block_lt_of_cell? _ _ hw802_2; first | rwa [add_block] at this | exact this) a2.out)) | (show (Addr.add _ _).block ≠ _; rw [add_block]; exact Nat.ne_of_lt (Nat.lt_of_lt_of_le (by have := World.block_lt_of_cell? _ _ hw802_2; first | rwa [add_block] at this | exact this) a2.out)) | (dsimp only; exact Nat.ne_of_lt (Nat.lt_of_lt_of_le (by have := World.block_lt_of_cell? _ _ hw802_2; first | rwa [add_block] at this | exact this) a2.out))) _).trans (((cell_far (p := ⟨a5, _, none⟩) (by first | exact Nat.ne_of_lt (Nat.lt_of_lt_of_le (by have := World.block_lt_of_cell? _ _ hw802_2; first | rwa [add_block] at this | exact this) a2.out) | (rw [add_block]; exact Nat.ne_of_lt (Nat.lt_of_lt_of_le (by have := World.block_lt_of_cell? _ _ hw802_2; first | rwa [add_block] at this | exact this) a2.out)) | (show (Addr.add _ _).block ≠ _; rw [add_block]; exact Nat.ne_of_lt (Nat.lt_of_lt_of_le (by have := World.block_lt_of_cell? _ _ hw802_2; first | rwa [add_block] at this | exact this) a2.out)) | (dsimp only; exact Nat.ne_of_lt (Nat.lt_of_lt_of_le (by have := World.block_lt_of_cell? _ _ hw802_2; first | rwa [add_block] at this | exact this) a2.out))) _).trans (((cell_far (p := ⟨a5, _, none⟩) (by first | exact Nat.ne_of_lt (Nat.lt_of_lt_of_le (by have := World.block_lt_of_cell? _ _ hw802_2; first | rwa [add_block] at this | exact this) a2.out) | (rw [add_block]; exact Nat.ne_of_lt (Nat.lt_of_lt_of_le (by have := World.block_lt_of_cell? _ _ hw802_2; first | rwa [add_block] at this | exact this) a2.out)) | (show (Addr.add _ _).block ≠ _; rw [add_block]; exact Nat.ne_of_lt (Nat.lt_of_lt_of_le (by have := World.block_lt_of_cell? _ _ hw802_2; first | rwa [add_block] at this | exact this) a2.out)) | (dsimp only; exact Nat.ne_of_lt (Nat.lt_of_lt_of_le (by have := World.block_lt_of_cell? _ _ hw802_2; first | rwa [add_block] at this | exact this) a2.out))) _).trans (hHeld.2.2.2.2.2.2))))))⟩ (fun hHeld => ?_)
      clear hK K; refine done_ (done_of HT_.out (by kernel_rfl)) ?_
      try go_wp2
      refine bodyPost_ret (results_cell_row rfl _ _ a5 122 #[.bool true, .string ((rd_T37 a4 a3).f1), .bool ((rd_T37 a4 a3).f2)] (0, 0) _ rfl (bp a8.out) Tryd.underlying122 rfl (by kernel_rfl)) rfl ?_; exact ⟨Ye2, (bf HB.out)⟩
     ·rw [if_neg c7] at H
      have aB : (((rd_T37 a4 a3).f0).toList == a1.toList) = false := beq_eq_false_iff_ne.mpr c7; have aC : (((rd_T37 a4 a3).f0).toList != a1.toList) = true := bne_iff_ne.mpr c7; have H' := Aside0.mk H; clear H; have hnb14 := a9.out; have hnc14 := ag.out; have ⟨aO, aP⟩ := Yc1 a6.out; have aa : 0 ≤ (a3 : Int) := oda; have ab : a3 < (a4.length : Int) := oda; obtain ⟨a7, aq, aD, aE, aF⟩ := at_T37 (Kd.C_below af.out HB.out) a3 aa ab
      cases aq
      replace aa := eq_true aa; replace ab := eq_true ab
      go_wp2
      go_roundg k1
      case measure => have := HK1.out; omega
      case rel => exact ⟨(wrap64 (a3 + 1)), (an), (ao), (ap), Ye1, H', ⟨by have := HK1.out; omega⟩, ⟨bk a6.out⟩, ⟨bk a8.out⟩, ⟨bf HB.out⟩⟩
    ·rw [if_neg c6] at H
     exact absurd H (by simp)
   ·rw [if_neg c5] at H
    have aA : decide (a3 < (a4.length : Int)) = false := decide_eq_false c5; clear c5; simp only [Option.some.injEq, Prod.mk.injEq] at H; obtain ⟨rfl, rfl, rfl⟩ := H; have hnb16 := a9.out; have hnc16 := ag.out; have ⟨aQ, aR⟩ := Yc1 a6.out; have ⟨aS, aT, aU, aV, aW, aX⟩ := Yc3 a8.out
    go_wp2
    refine bodyPost_ret (results_cell_row rfl _ _ a5 122 #[.bool false, .string (⟨#[]⟩ : ByteArray), .bool false] (0, 0) _ rfl (bp a8.out) Tryd.underlying122 rfl (by kernel_rfl)) rfl ?_; exact ⟨Ye2, (bf HB.out)⟩

end Go.Proofs.YtgnmledjkamojaaDoor.P


namespace Go.Proofs.YtgnmledjkamojaaDoor.P
open Go.RowKit Go.Proofs.YtgnmledjkamojaaDoorW.PrintWords Go.Proofs.YtgnmledjkamojaaDoorW.PrintLast Go.Proofs.YtgnmledjkamojaaDoorW.PrintMore
attribute [local go_sem] max2_int min2_int max_two min_two max_three min_three max_four min_four
set_option linter.unusedVariables false
set_option linter.unusedSimpArgs false

/-! ### spec_l6Name: function 105 -/
mutual
def spec_l6Name.l0 : Nat → List ByteArray → ByteArray → List ByteArray → Bool → Int → Option (List ByteArray)
 | 0, _, _, _, _, _ => none
 | k + 1, x0, x1, x5, x6, x7 => if x7 < (x0.length : Int) then (if x6 = true then (spec_l6Name.j1 k x0 x1 x5 x6 x7 false) else (if 0 ≤ x7 then (spec_l6Name.j1 k x0 x1 x5 x6 x7 (!(Op.bytesLess ((rdOf ByteArray.empty x0 x7).toList) x1.toList))) else (none))) else (if x6 = true then (some x5) else (if x5.length < 8796093022208 then (some (x5 ++ [x1])) else (none)))
def spec_l6Name.j1 : Nat → List ByteArray → ByteArray → List ByteArray → Bool → Int → Bool → Option (List ByteArray)
 | 0, _, _, _, _, _, _ => none
 | k + 1, x0, x1, x5, x6, x7, x24 => if x24 = true then (if x5.length < 8796093022208 then ((some (x5 ++ [x1] : List ByteArray)).bind fun a4 => (if 0 ≤ x7 then (if x7 < (x0.length : Int) then (if (rdOf ByteArray.empty x0 x7).toList = x1.toList then (spec_l6Name.l0 k x0 x1 a4 true (wrap64 (x7 + 1))) else (if a4.length < 8796093022208 then (spec_l6Name.l0 k x0 x1 (a4 ++ [rdOf ByteArray.empty x0 x7]) true (wrap64 (x7 + 1))) else (none))) else (none)) else (none))) else (none)) else (if 0 ≤ x7 then (if x7 < (x0.length : Int) then (if (rdOf ByteArray.empty x0 x7).toList = x1.toList then (spec_l6Name.l0 k x0 x1 x5 x6 (wrap64 (x7 + 1))) else (if x5.length < 8796093022208 then (spec_l6Name.l0 k x0 x1 (x5 ++ [rdOf ByteArray.empty x0 x7]) x6 (wrap64 (x7 + 1))) else (none))) else (none)) else (none))
end
def spec_l6Name.f (k : Nat) (l0 : List ByteArray) (a1 : ByteArray) : Option (List ByteArray) := spec_l6Name.l0 k l0 a1 (([] : List ByteArray)) false 0
theorem spec_l6Name.mono_l : ∀ k, (∀ y0 y1 y2 y3 y4, LeO (spec_l6Name.l0 k y0 y1 y2 y3 y4) (spec_l6Name.l0 (k + 1) y0 y1 y2 y3 y4)) ∧ (∀ y0 y1 y2 y3 y4 y5, LeO (spec_l6Name.j1 k y0 y1 y2 y3 y4 y5) (spec_l6Name.j1 (k + 1) y0 y1 y2 y3 y4 y5))
 | 0 => ⟨fun _ _ _ _ _ r h => by simp [spec_l6Name.l0] at h, fun _ _ _ _ _ _ r h => by simp [spec_l6Name.j1] at h⟩
 | k + 1 => by
  obtain ⟨ih0, ih1⟩ := spec_l6Name.mono_l k; refine ⟨?_, ?_⟩
  ·intro y0 y1 y2 y3 y4
   unfold spec_l6Name.l0
   repeat' first
   | (with_reducible exact ih0 _ _ _ _ _)
   | (with_reducible exact ih1 _ _ _ _ _ _)
   | (with_reducible exact LeO.refl _)
   | (with_reducible exact LeO.none _)
   | (with_reducible refine LeO.ite ?_ ?_)
   | (with_reducible refine LeO.bind ?_ (fun _ => ?_))
   | exact ih0 _ _ _ _ _
   | exact ih1 _ _ _ _ _ _
   | exact LeO.none _
   | refine LeO.ite ?_ ?_
   | refine LeO.bind ?_ (fun _ => ?_)
  ·intro y0 y1 y2 y3 y4 y5
   unfold spec_l6Name.j1
   repeat' first
   | (with_reducible exact ih0 _ _ _ _ _)
   | (with_reducible exact ih1 _ _ _ _ _ _)
   | (with_reducible exact LeO.refl _)
   | (with_reducible exact LeO.none _)
   | (with_reducible refine LeO.ite ?_ ?_)
   | (with_reducible refine LeO.bind ?_ (fun _ => ?_))
   | exact ih0 _ _ _ _ _
   | exact ih1 _ _ _ _ _ _
   | exact LeO.none _
   | refine LeO.ite ?_ ?_
   | refine LeO.bind ?_ (fun _ => ?_)
theorem spec_l6Name.mono : ∀ a0 a1 k, LeO (spec_l6Name.f k a0 a1) (spec_l6Name.f (k + 1) a0 a1) := by
 intro a0 a1 k; obtain ⟨ih0, ih1⟩ := spec_l6Name.mono_l k
 unfold spec_l6Name.f
 repeat' first
   | (with_reducible exact ih0 _ _ _ _ _)
   | (with_reducible exact ih1 _ _ _ _ _ _)
   | (with_reducible exact LeO.refl _)
   | (with_reducible exact LeO.none _)
   | (with_reducible refine LeO.ite ?_ ?_)
   | (with_reducible refine LeO.bind ?_ (fun _ => ?_))
   | exact ih0 _ _ _ _ _
   | exact ih1 _ _ _ _ _ _
   | exact LeO.none _
   | refine LeO.ite ?_ ?_
   | refine LeO.bind ?_ (fun _ => ?_)
set_option maxHeartbeats 8000000 in
set_option maxRecDepth 100000 in
theorem spec_l6Name.calls (k : Nat) (A0 : Option Addr) (c0 : Nat) (l0 : List ByteArray) (a1 : ByteArray) (r : List ByteArray) (w : World) (hr0 : Kd.C Kd.string w A0 l0.length l0) (hc0 : l0.length ≤ c0) (h : spec_l6Name.f k l0 a1 = some r) :
  Calls Tryd.prog 105 #[.slice A0 l0.length c0, .string a1] w fun e w' => ∃ v0_ : Value, e = .returned (v0_) ∧ Kd.R Kd.string 9 w' w.heap.size (fun _ => True) v0_ r ∧ Below w.heap.size w w' := by
 have a8 := Aside0.mk hr0; have HC0 := Aside0.mk hc0; clear hr0 hc0; have HB := Aside0.mk (Below.refl w.heap.size w); have H : (spec_l6Name.l0 k l0 a1 (([] : List ByteArray)) false 0) = some r := h; clear h
 obtain ⟨aJ, af⟩ : ∃ y_ : List ByteArray, y_ = (([] : List ByteArray)) := ⟨_, rfl⟩
 replace H : (spec_l6Name.l0 k l0 a1 aJ false 0) = some r := by first | (rw [af]; with_reducible exact H) | (have H2_ := (Option.bind_some _ _).symm.trans H; rw [af]; with_reducible exact H2_) | (have H2_ := (Option.bind_some _ _).symm.trans H; with_reducible exact H2_) | with_reducible exact H | (rw [af]; exact H) | exact H
 have aK := Aside0.mk af; clear af; have H' := Aside0.mk H; clear H
 go_enter Tryd.func105, Tryd.ntmps105
 go_wp2_with (first | ((with_reducible refine gd 8 rfl ?_); refine Kd.R_lit Kd.string _ 9 ?hg (N := 8) ?hd (xs := ([] : List ByteArray)) (inner := []) (ok := fun _ => True) (okp := fun _ => True) ?hr ?hp (fun _ hk => hk) trivial (Below.refl _ _) (Nat.le_refl _) (by simp) ?_; (case hd => rfl); (case hg => rfl); (case hr => first | (go_simp; done) | (go_simp; rfl)); (case hp => exact (Reps.none _ _)); intro v770 w3 ho4 hb hg_ hnew_; clear hg_ hnew_; (first | rw [← aK.out] at ho4 | (simp only [Int.reduceToNat] at ho4; rw [← aK.out] at ho4)); refine Ya2 (Kd.R_lower ho4 (below_size (be HB.out))) (below_step (be HB.out) hb) ?_; clear HB; intro aZ HB; clear hb ho4))
 go_loopg [5, 6, 7] k (fun kq v5 v6 v7 w' => ∃ (a3 : List ByteArray) (a7 : Bool) (a2 : Int), v6 = .bool a7 ∧ v7 = .int .i64 a2 ∧ Aside0 (spec_l6Name.l0 kq l0 a1 a3 a7 a2 = some r) ∧ Aside0 (kq ≤ k) ∧ Aside0 (Kd.R Kd.string 9 w' w.heap.size (fun _ => True) v5 a3) ∧ Aside0 (Below w.heap.size w w'))
 case atStart => exact ⟨(aJ), (false), (0), Ye1, Ye1, H', ⟨Nat.le_refl _⟩, ⟨kr aZ.out⟩, ⟨be HB.out⟩⟩
 case round =>
  clear H'; (try clear c1); (try clear p2); obtain ⟨a3, a7, a2, rfl, rfl, HA, HK1, a5, HB⟩ := hrel
  cases gk with
  | zero => exact absurd HA.out (by simp [spec_l6Name.l0])
  | succ k1 =>
   have H := HA.out; clear HA; simp only [spec_l6Name.l0] at H
   by_cases c5 : a2 < (l0.length : Int)
   ·rw [if_pos c5] at H
    have aM : decide (a2 < (l0.length : Int)) = true := decide_eq_true c5; clear c5; have az := Aside0.mk H; clear H
    go_upto_region 6 with (fail)
    go_cut [24] (fun v24 wc => ∃ (kq : Nat) (al : Bool), v24 = .bool al ∧ Aside0 (spec_l6Name.j1 kq l0 a1 a3 a7 a2 al = some r) ∧ Aside0 (kq ≤ k1) ∧ Aside0 (Kd.R Kd.string 9 wc w.heap.size (fun _ => True) u5 a3) ∧ Aside0 (Below w.heap.size w wc))
    case first =>
     have H := az.out; clear az
     by_cases c7 : a7 = true
     ·subst c7
      have H1 : (spec_l6Name.j1 k1 l0 a1 a3 true a2 false) = some r := by rw [if_pos rfl] at H; exact H
      clear H; have H := H1; clear H1; have H' := Aside0.mk H; clear H
      go_wp2
      go_meet
      case rel => exact ⟨_, (false), Ye1, H', ⟨by have := HK1.out; first | omega | exact Nat.le_refl _⟩, ⟨kr a5.out⟩, ⟨be HB.out⟩⟩
     ·replace c7 := Bool.eq_false_iff.mpr c7; subst c7
      have H1 : (if 0 ≤ a2 then (spec_l6Name.j1 k1 l0 a1 a3 false a2 (!(Op.bytesLess ((rdOf ByteArray.empty l0 a2).toList) a1.toList))) else (none)) = some r := by rw [if_neg (show ¬ (false = true) by decide)] at H; exact H
      clear H; have H := H1; clear H1
      by_cases c8 : 0 ≤ a2
      ·rw [if_pos c8] at H
       have aA : decide (0 ≤ a2) = true := decide_eq_true c8; clear c8; (first | rw [aA] | (simp only [i64_w, i32_w]; rw [aA]) | skip); have H' := Aside0.mk H; clear H; have am : 0 ≤ (a2 : Int) := oda; have an : a2 < (l0.length : Int) := oda; obtain ⟨ad775, b0, b1⟩ := Kd.at_string (Kd.C_below a8.out HB.out) a2 am an
       cases b0
       replace am := eq_true am; replace an := eq_true an
       go_wp2
       go_meet
       case rel => exact ⟨_, (!(Op.bytesLess ((rdOf ByteArray.empty l0 a2).toList) a1.toList)), Ye1, H', ⟨by have := HK1.out; first | omega | exact Nat.le_refl _⟩, ⟨kr a5.out⟩, ⟨be HB.out⟩⟩
      ·rw [if_neg c8] at H
       exact absurd H (by simp)
    case rest =>
     clear az; (try clear c1); (try clear p2); (try clear c5); (try clear aM); (try clear c7); (try clear p7); (try clear q7); (try clear hx7); (try clear c8); (try clear aA); (try clear b1); (try clear p2); (try clear am); (try clear an); obtain ⟨kq, al, rfl, HA, HJ5, a5, HB⟩ := hcut
     cases kq with
     | zero => exact absurd HA.out (by simp [spec_l6Name.j1])
     | succ a6 =>
      have H := HA.out; clear HA; simp only [spec_l6Name.j1] at H
      by_cases c9 : al = true
      ·subst c9
       have H1 : (if a3.length < 8796093022208 then ((some (a3 ++ [a1] : List ByteArray)).bind fun a4 => (if 0 ≤ a2 then (if a2 < (l0.length : Int) then (if (rdOf ByteArray.empty l0 a2).toList = a1.toList then (spec_l6Name.l0 a6 l0 a1 a4 true (wrap64 (a2 + 1))) else (if a4.length < 8796093022208 then (spec_l6Name.l0 a6 l0 a1 (a4 ++ [rdOf ByteArray.empty l0 a2]) true (wrap64 (a2 + 1))) else (none))) else (none)) else (none))) else (none)) = some r := by rw [if_pos rfl] at H; exact H
       clear H; have H := H1; clear H1
       by_cases c10 : a3.length < 8796093022208
       ·rw [if_pos c10] at H
        have aN := Aside0.mk c10; clear c10
        obtain ⟨a4, ag⟩ : ∃ y_ : List ByteArray, y_ = (a3 ++ [a1]) := ⟨_, rfl⟩
        replace H : (if 0 ≤ a2 then (if a2 < (l0.length : Int) then (if (rdOf ByteArray.empty l0 a2).toList = a1.toList then (spec_l6Name.l0 a6 l0 a1 a4 true (wrap64 (a2 + 1))) else (if a4.length < 8796093022208 then (spec_l6Name.l0 a6 l0 a1 (a4 ++ [rdOf ByteArray.empty l0 a2]) true (wrap64 (a2 + 1))) else (none))) else (none)) else (none)) = some r := by first | (rw [ag]; with_reducible exact H) | (have H2_ := (Option.bind_some _ _).symm.trans H; rw [ag]; with_reducible exact H2_) | (have H2_ := (Option.bind_some _ _).symm.trans H; with_reducible exact H2_) | with_reducible exact H | (rw [ag]; exact H) | exact H
        have aQ := Aside0.mk ag; clear ag
        by_cases ao : 0 ≤ a2
        ·rw [if_pos ao] at H
         have c11b0 : decide (0 ≤ a2) = true := decide_eq_true ao; clear ao
         by_cases ap : a2 < (l0.length : Int)
         ·rw [if_pos ap] at H
          have c12b0 : decide (a2 < (l0.length : Int)) = true := decide_eq_true ap; clear ap
          by_cases a9 : (rdOf ByteArray.empty l0 a2).toList = a1.toList
          ·rw [if_pos a9] at H
           have b2 : ((rdOf ByteArray.empty l0 a2).toList == a1.toList) = true := beq_iff_eq.mpr a9; have b3 : ((rdOf ByteArray.empty l0 a2).toList != a1.toList) = false := bne_eq_false_iff_eq.mpr a9; clear a9; have H' := Aside0.mk H; clear H
           go_wp2_with (first | ((with_reducible refine gate_builtin (b := .append) (xs := #[.tmp 25, .tmp 27]) rfl ?_); at_builtin; refine Kd.R_append Kd.string (w0 := w) w.heap.size rfl (.tmp 25) (.tmp 27) 50 9 (.string ⟨#[]⟩) 16 rfl Tryd.underlying50 info9 rfl (by decide) (by omega) u5 a3 a1 [.string a1] (fun _ => True) (fun _ => False) rfl rfl ?aP (fun _ hk => hk.elim) ?aF ?aO ?aB ?aS ?aL ?_; (case aP => exact rfl); (case aB => exact (be HB.out)); (case aF => exact (fun _ _ => trivial)); (case aO => exact (kr a5.out)); (case aS => exact (below_size (be HB.out))); (case aL => have := aN.out; omega); intro aR w14 ho hb hg hat; rw [← aQ.out] at ho; refine Ya2 (hb) (ho) ?_; clear HB a5; intro HB aq; clear ho hb hg hat; have aa : 0 ≤ (a2 : Int) := oda; have ab : a2 < (l0.length : Int) := oda; obtain ⟨aT, aC, ah⟩ := Kd.at_string a8.out a2 aa ab; cases aC; replace ah := pw_cell_below HB.out ah; replace aa := eq_true aa; replace ab := eq_true ab))
           go_roundg a6
           case measure => have := HK1.out; have := HJ5.out; omega
           case rel => exact ⟨(a4), (true), (wrap64 (a2 + 1)), Ye1, Ye1, H', ⟨by have := HK1.out; have := HJ5.out; omega⟩, ⟨kr aq.out⟩, ⟨be HB.out⟩⟩
          ·rw [if_neg a9] at H
           have b2 : ((rdOf ByteArray.empty l0 a2).toList == a1.toList) = false := beq_eq_false_iff_ne.mpr a9; have b3 : ((rdOf ByteArray.empty l0 a2).toList != a1.toList) = true := bne_iff_ne.mpr a9
           by_cases ar : a4.length < 8796093022208
           ·rw [if_pos ar] at H
            have b4 := Aside0.mk ar; clear ar
            obtain ⟨aU, ai⟩ : ∃ y_ : List ByteArray, y_ = (a4 ++ [rdOf ByteArray.empty l0 a2]) := ⟨_, rfl⟩
            replace H : (spec_l6Name.l0 a6 l0 a1 aU true (wrap64 (a2 + 1))) = some r := by first | (rw [ai]; with_reducible exact H) | (have H2_ := (Option.bind_some _ _).symm.trans H; rw [ai]; with_reducible exact H2_) | (have H2_ := (Option.bind_some _ _).symm.trans H; with_reducible exact H2_) | with_reducible exact H | (rw [ai]; exact H) | exact H
            have b5 := Aside0.mk ai; clear ai; have H' := Aside0.mk H; clear H
            go_wp2_with (first | ((with_reducible refine gate_builtin (b := .append) (xs := #[.tmp 25, .tmp 27]) rfl ?_); at_builtin; refine Kd.R_append Kd.string (w0 := w) w.heap.size rfl (.tmp 25) (.tmp 27) 50 9 (.string ⟨#[]⟩) 16 rfl Tryd.underlying50 info9 rfl (by decide) (by omega) u5 a3 a1 [.string a1] (fun _ => True) (fun _ => False) rfl rfl ?aP (fun _ hk => hk.elim) ?aF ?aO ?aB ?aS ?aL ?_; (case aP => exact rfl); (case aB => exact (be HB.out)); (case aF => exact (fun _ _ => trivial)); (case aO => exact (kr a5.out)); (case aS => exact (below_size (be HB.out))); (case aL => have := aN.out; omega); intro aR w16 ho hb hg hat; rw [← aQ.out] at ho; refine Ya2 (hb) (ho) ?_; clear HB a5; intro HB aq; clear ho hb hg hat; have aa : 0 ≤ (a2 : Int) := oda; have ab : a2 < (l0.length : Int) := oda; obtain ⟨aT, aC, ah⟩ := Kd.at_string a8.out a2 aa ab; cases aC; replace ah := pw_cell_below HB.out ah; replace aa := eq_true aa; replace ab := eq_true ab; have aD : 0 ≤ (a2 : Int) := oda; have aE : a2 < (l0.length : Int) := oda; obtain ⟨b6, b7, aV⟩ := Kd.at_string a8.out a2 aD aE; obtain rfl : aT = b6 := (by injection b7); replace aV := pw_cell_below HB.out aV; replace aD := eq_true aD; replace aE := eq_true aE) | ((with_reducible refine gate_builtin (b := .append) (xs := #[.tmp 35, .tmp 40]) rfl ?_); at_builtin; refine Kd.R_append Kd.string (w0 := w) w.heap.size rfl (.tmp 35) (.tmp 40) 50 9 (.string ⟨#[]⟩) 16 rfl Tryd.underlying50 info9 rfl (by decide) (by omega) aR a4 (rdOf ByteArray.empty l0 a2) [.string (rdOf ByteArray.empty l0 a2)] (fun _ => True) (fun _ => False) rfl rfl ?aP (fun _ hk => hk.elim) ?aF ?aO ?aB ?aS ?aL ?_; (case aP => exact rfl); (case aB => exact (be HB.out)); (case aF => exact (fun _ _ => trivial)); (case aO => exact (kr aq.out)); (case aS => exact (below_size (be HB.out))); (case aL => have := b4.out; omega); intro v782 w17 ho hb hg hat; rw [← b5.out] at ho; refine Ya2 (hb) (ho) ?_; clear HB aq; intro HB b8; clear ho hb hg hat))
            go_roundg a6
            case measure => have := HK1.out; have := HJ5.out; omega
            case rel => exact ⟨(aU), (true), (wrap64 (a2 + 1)), Ye1, Ye1, H', ⟨by have := HK1.out; have := HJ5.out; omega⟩, ⟨kr b8.out⟩, ⟨be HB.out⟩⟩
           ·rw [if_neg ar] at H
            exact absurd H (by simp)
         ·rw [if_neg ap] at H
          exact absurd H (by simp)
        ·rw [if_neg ao] at H
         exact absurd H (by simp)
       ·rw [if_neg c10] at H
        exact absurd H (by simp)
      ·replace c9 := Bool.eq_false_iff.mpr c9; subst c9
       have H1 : (if 0 ≤ a2 then (if a2 < (l0.length : Int) then (if (rdOf ByteArray.empty l0 a2).toList = a1.toList then (spec_l6Name.l0 a6 l0 a1 a3 a7 (wrap64 (a2 + 1))) else (if a3.length < 8796093022208 then (spec_l6Name.l0 a6 l0 a1 (a3 ++ [rdOf ByteArray.empty l0 a2]) a7 (wrap64 (a2 + 1))) else (none))) else (none)) else (none)) = some r := by rw [if_neg (show ¬ (false = true) by decide)] at H; exact H
       clear H; have H := H1; clear H1
       by_cases au : 0 ≤ a2
       ·rw [if_pos au] at H
        have c18b0 : decide (0 ≤ a2) = true := decide_eq_true au; clear au
        by_cases av : a2 < (l0.length : Int)
        ·rw [if_pos av] at H
         have c19b0 : decide (a2 < (l0.length : Int)) = true := decide_eq_true av; clear av
         by_cases ac : (rdOf ByteArray.empty l0 a2).toList = a1.toList
         ·rw [if_pos ac] at H
          have b9 : ((rdOf ByteArray.empty l0 a2).toList == a1.toList) = true := beq_iff_eq.mpr ac; have ba : ((rdOf ByteArray.empty l0 a2).toList != a1.toList) = false := bne_eq_false_iff_eq.mpr ac; clear ac; have H' := Aside0.mk H; clear H; have ad : 0 ≤ (a2 : Int) := oda; have ae : a2 < (l0.length : Int) := oda; obtain ⟨aW, aG, bd⟩ := Kd.at_string (Kd.C_below a8.out HB.out) a2 ad ae
          cases aG
          replace ad := eq_true ad; replace ae := eq_true ae
          go_wp2
          go_roundg a6
          case measure => have := HK1.out; have := HJ5.out; omega
          case rel => exact ⟨(a3), (a7), (wrap64 (a2 + 1)), Ye1, Ye1, H', ⟨by have := HK1.out; have := HJ5.out; omega⟩, ⟨kr a5.out⟩, ⟨be HB.out⟩⟩
         ·rw [if_neg ac] at H
          have b9 : ((rdOf ByteArray.empty l0 a2).toList == a1.toList) = false := beq_eq_false_iff_ne.mpr ac; have ba : ((rdOf ByteArray.empty l0 a2).toList != a1.toList) = true := bne_iff_ne.mpr ac
          by_cases aw : a3.length < 8796093022208
          ·rw [if_pos aw] at H
           have bg := Aside0.mk aw; clear aw
           obtain ⟨aX, aj⟩ : ∃ y_ : List ByteArray, y_ = (a3 ++ [rdOf ByteArray.empty l0 a2]) := ⟨_, rfl⟩
           replace H : (spec_l6Name.l0 a6 l0 a1 aX a7 (wrap64 (a2 + 1))) = some r := by first | (rw [aj]; with_reducible exact H) | (have H2_ := (Option.bind_some _ _).symm.trans H; rw [aj]; with_reducible exact H2_) | (have H2_ := (Option.bind_some _ _).symm.trans H; with_reducible exact H2_) | with_reducible exact H | (rw [aj]; exact H) | exact H
           have bh := Aside0.mk aj; clear aj; have H' := Aside0.mk H; clear H; have ad : 0 ≤ (a2 : Int) := oda; have ae : a2 < (l0.length : Int) := oda; obtain ⟨aW, aG, bd⟩ := Kd.at_string (Kd.C_below a8.out HB.out) a2 ad ae
           cases aG
           replace ad := eq_true ad; replace ae := eq_true ae; have aH : 0 ≤ (a2 : Int) := oda; have aI : a2 < (l0.length : Int) := oda; obtain ⟨bi, bj, aY⟩ := Kd.at_string a8.out a2 aH aI
           obtain rfl : aW = bi := (by injection bj)
           replace aY := pw_cell_below HB.out aY; replace aH := eq_true aH; replace aI := eq_true aI
           go_wp2_with (first | ((with_reducible refine gate_builtin (b := .append) (xs := #[.tmp 35, .tmp 40]) rfl ?_); at_builtin; refine Kd.R_append Kd.string (w0 := w) w.heap.size rfl (.tmp 35) (.tmp 40) 50 9 (.string ⟨#[]⟩) 16 rfl Tryd.underlying50 info9 rfl (by decide) (by omega) u5 a3 (rdOf ByteArray.empty l0 a2) [.string (rdOf ByteArray.empty l0 a2)] (fun _ => True) (fun _ => False) rfl rfl ?aP (fun _ hk => hk.elim) ?aF ?aO ?aB ?aS ?aL ?_; (case aP => exact rfl); (case aB => exact (be HB.out)); (case aF => exact (fun _ _ => trivial)); (case aO => exact (kr a5.out)); (case aS => exact (below_size (be HB.out))); (case aL => have := bg.out; omega); intro v787 w22 ho hb hg hat; rw [← bh.out] at ho; refine Ya2 (hb) (ho) ?_; clear HB a5; intro HB bm; clear ho hb hg hat))
           go_roundg a6
           case measure => have := HK1.out; have := HJ5.out; omega
           case rel => exact ⟨(aX), (a7), (wrap64 (a2 + 1)), Ye1, Ye1, H', ⟨by have := HK1.out; have := HJ5.out; omega⟩, ⟨kr bm.out⟩, ⟨be HB.out⟩⟩
          ·rw [if_neg aw] at H
           exact absurd H (by simp)
        ·rw [if_neg av] at H
         exact absurd H (by simp)
       ·rw [if_neg au] at H
        exact absurd H (by simp)
   ·rw [if_neg c5] at H
    have aM : decide (a2 < (l0.length : Int)) = false := decide_eq_false c5; clear c5
    by_cases ax : a7 = true
    ·subst ax
     have H1 : (some a3) = some r := by rw [if_pos rfl] at H; exact H
     clear H; have H := H1; clear H1; obtain rfl := Option.some.inj H
     go_wp2
     go_ret
     exact ⟨_, Ye2, kr a5.out, be HB.out⟩
    ·replace ax := Bool.eq_false_iff.mpr ax; subst ax
     have H1 : (if a3.length < 8796093022208 then (some (a3 ++ [a1])) else (none)) = some r := by rw [if_neg (show ¬ (false = true) by decide)] at H; exact H
     clear H; have H := H1; clear H1
     by_cases ay : a3.length < 8796093022208
     ·rw [if_pos ay] at H
      have bn := Aside0.mk ay; clear ay
      obtain ⟨bo, ak⟩ : ∃ y_ : List ByteArray, y_ = (a3 ++ [a1]) := ⟨_, rfl⟩
      replace H : (some bo) = some r := by first | (rw [ak]; with_reducible exact H) | (have H2_ := (Option.bind_some _ _).symm.trans H; rw [ak]; with_reducible exact H2_) | (have H2_ := (Option.bind_some _ _).symm.trans H; with_reducible exact H2_) | with_reducible exact H | (rw [ak]; exact H) | exact H
      have bq := Aside0.mk ak; clear ak; obtain rfl := Option.some.inj H
      go_wp2_with (first | ((with_reducible refine gate_builtin (b := .append) (xs := #[.tmp 44, .tmp 46]) rfl ?_); at_builtin; refine Kd.R_append Kd.string (w0 := w) w.heap.size rfl (.tmp 44) (.tmp 46) 50 9 (.string ⟨#[]⟩) 16 rfl Tryd.underlying50 info9 rfl (by decide) (by omega) u5 a3 a1 [.string a1] (fun _ => True) (fun _ => False) rfl rfl ?aP (fun _ hk => hk.elim) ?aF ?aO ?aB ?aS ?aL ?_; (case aP => exact rfl); (case aB => exact (be HB.out)); (case aF => exact (fun _ _ => trivial)); (case aO => exact (kr a5.out)); (case aS => exact (below_size (be HB.out))); (case aL => have := bn.out; omega); intro v773 w25 ho hb hg hat; rw [← bq.out] at ho; refine Ya2 (hb) (ho) ?_; clear HB a5; intro HB bu; clear ho hb hg hat))
      go_ret
      exact ⟨_, Ye2, kr bu.out, be HB.out⟩
     ·rw [if_neg ay] at H
      exact absurd H (by simp)

end Go.Proofs.YtgnmledjkamojaaDoor.P


namespace Go.Proofs.YtgnmledjkamojaaDoor.P
open Go.RowKit Go.Proofs.YtgnmledjkamojaaDoorW.PrintWords Go.Proofs.YtgnmledjkamojaaDoorW.PrintLast Go.Proofs.YtgnmledjkamojaaDoorW.PrintMore
attribute [local go_sem] max2_int min2_int max_two min_two max_three min_three max_four min_four
set_option linter.unusedVariables false
set_option linter.unusedSimpArgs false

/-! ### spec_l6Paths: function 96 -/
mutual
def spec_l6Paths.l0 : Nat → List (S28) → List ByteArray → Int → Option (List ByteArray)
 | 0, _, _, _ => none
 | k + 1, x0, x3, x4 => if x4 < (x0.length : Int) then (spec_l6Paths.l1 k x0 x3 x4 0) else (some x3)
def spec_l6Paths.l1 : Nat → List (S28) → List ByteArray → Int → Int → Option (List ByteArray)
 | 0, _, _, _, _ => none
 | k + 1, x0, x3, x4, x5 => if 0 ≤ x4 then (if x4 < (x0.length : Int) then (if x5 < (((rd_T28 x0 x4).f0).length : Int) then (if 0 ≤ x5 then ((spec_l6Name.f k x3 ((rd_T37 ((rd_T28 x0 x4).f0) x5).f0)).bind fun a8 => (spec_l6Paths.l1 k x0 a8 x4 (wrap64 (x5 + 1)))) else (none)) else (spec_l6Paths.l0 k x0 x3 (wrap64 (x4 + 1)))) else (none)) else (none)
end
def spec_l6Paths.f (k : Nat) (l0 : List (S28)) : Option (List ByteArray) := spec_l6Paths.l0 k l0 (([] : List ByteArray)) 0
theorem spec_l6Paths.mono_l : ∀ k, (∀ y0 y1 y2, LeO (spec_l6Paths.l0 k y0 y1 y2) (spec_l6Paths.l0 (k + 1) y0 y1 y2)) ∧ (∀ y0 y1 y2 y3, LeO (spec_l6Paths.l1 k y0 y1 y2 y3) (spec_l6Paths.l1 (k + 1) y0 y1 y2 y3))
 | 0 => ⟨fun _ _ _ r h => by simp [spec_l6Paths.l0] at h, fun _ _ _ _ r h => by simp [spec_l6Paths.l1] at h⟩
 | k + 1 => by
  obtain ⟨ih0, ih1⟩ := spec_l6Paths.mono_l k; refine ⟨?_, ?_⟩
  ·intro y0 y1 y2
   unfold spec_l6Paths.l0
   repeat' first
   | (with_reducible exact ih0 _ _ _)
   | (with_reducible exact ih1 _ _ _ _)
   | (with_reducible exact spec_l6Name.mono _ _ _)
   | (with_reducible exact LeO.refl _)
   | (with_reducible exact LeO.none _)
   | (with_reducible refine LeO.ite ?_ ?_)
   | (with_reducible refine LeO.bind ?_ (fun _ => ?_))
   | exact ih0 _ _ _
   | exact ih1 _ _ _ _
   | exact spec_l6Name.mono _ _ _
   | exact LeO.none _
   | refine LeO.ite ?_ ?_
   | refine LeO.bind ?_ (fun _ => ?_)
  ·intro y0 y1 y2 y3
   unfold spec_l6Paths.l1
   repeat' first
   | (with_reducible exact ih0 _ _ _)
   | (with_reducible exact ih1 _ _ _ _)
   | (with_reducible exact spec_l6Name.mono _ _ _)
   | (with_reducible exact LeO.refl _)
   | (with_reducible exact LeO.none _)
   | (with_reducible refine LeO.ite ?_ ?_)
   | (with_reducible refine LeO.bind ?_ (fun _ => ?_))
   | exact ih0 _ _ _
   | exact ih1 _ _ _ _
   | exact spec_l6Name.mono _ _ _
   | exact LeO.none _
   | refine LeO.ite ?_ ?_
   | refine LeO.bind ?_ (fun _ => ?_)
theorem spec_l6Paths.mono : ∀ a0 k, LeO (spec_l6Paths.f k a0) (spec_l6Paths.f (k + 1) a0) := by
 intro a0 k; obtain ⟨ih0, ih1⟩ := spec_l6Paths.mono_l k
 unfold spec_l6Paths.f
 repeat' first
   | (with_reducible exact ih0 _ _ _)
   | (with_reducible exact ih1 _ _ _ _)
   | (with_reducible exact spec_l6Name.mono _ _ _)
   | (with_reducible exact LeO.refl _)
   | (with_reducible exact LeO.none _)
   | (with_reducible refine LeO.ite ?_ ?_)
   | (with_reducible refine LeO.bind ?_ (fun _ => ?_))
   | exact ih0 _ _ _
   | exact ih1 _ _ _ _
   | exact spec_l6Name.mono _ _ _
   | exact LeO.none _
   | refine LeO.ite ?_ ?_
   | refine LeO.bind ?_ (fun _ => ?_)
set_option maxHeartbeats 8000000 in
set_option maxRecDepth 100000 in
theorem spec_l6Paths.calls (k : Nat) (A0 : Option Addr) (c0 : Nat) (l0 : List (S28)) (r : List ByteArray) (w : World) (hr0 : Kd.C k28 w A0 l0.length l0) (hc0 : l0.length ≤ c0) (h : spec_l6Paths.f k l0 = some r) :
  Calls Tryd.prog 96 #[.slice A0 l0.length c0] w fun e w' => ∃ v0_ : Value, e = .returned (v0_) ∧ Kd.R Kd.string 9 w' w.heap.size (fun _ => True) v0_ r ∧ Below w.heap.size w w' := by
 have ab := Aside0.mk hr0; have HC0 := Aside0.mk hc0; clear hr0 hc0; have HB := Aside0.mk (Below.refl w.heap.size w); have H : (spec_l6Paths.l0 k l0 (([] : List ByteArray)) 0) = some r := h; clear h
 obtain ⟨ai, a9⟩ : ∃ y_ : List ByteArray, y_ = (([] : List ByteArray)) := ⟨_, rfl⟩
 replace H : (spec_l6Paths.l0 k l0 ai 0) = some r := by first | (rw [a9]; with_reducible exact H) | (have H2_ := (Option.bind_some _ _).symm.trans H; rw [a9]; with_reducible exact H2_) | (have H2_ := (Option.bind_some _ _).symm.trans H; with_reducible exact H2_) | with_reducible exact H | (rw [a9]; exact H) | exact H
 have aj := Aside0.mk a9; clear a9; have H' := Aside0.mk H; clear H
 go_enter Tryd.func96, Tryd.ntmps96
 go_wp2_with (first | ((with_reducible refine gd 6 rfl ?_); refine Kd.R_lit Kd.string _ 9 ?hg (N := 6) ?hd (xs := ([] : List ByteArray)) (inner := []) (ok := fun _ => True) (okp := fun _ => True) ?hr ?hp (fun _ hk => hk) trivial (Below.refl _ _) (Nat.le_refl _) (by simp) ?_; (case hd => rfl); (case hg => rfl); (case hr => first | (go_simp; done) | (go_simp; rfl)); (case hp => exact (Reps.none _ _)); intro v790 w2 ho3 hb hg_ hnew_; clear hg_ hnew_; (first | rw [← aj.out] at ho3 | (simp only [Int.reduceToNat] at ho3; rw [← aj.out] at ho3)); refine Ya2 (Kd.R_lower ho3 (below_size (be HB.out))) (below_step (be HB.out) hb) ?_; clear HB; intro am HB; clear hb ho3))
 go_loopg [3, 4] k (fun kq v3 v4 w' => ∃ (aa : List ByteArray) (a1 : Int), v4 = .int .i64 a1 ∧ Aside0 (spec_l6Paths.l0 kq l0 aa a1 = some r) ∧ Aside0 (kq ≤ k) ∧ Aside0 (Kd.R Kd.string 9 w' w.heap.size (fun _ => True) v3 aa) ∧ Aside0 (Below w.heap.size w w'))
 case atStart => exact ⟨(ai), (0), Ye1, H', ⟨Nat.le_refl _⟩, ⟨kr am.out⟩, ⟨be HB.out⟩⟩
 case round =>
  clear H'; (try clear p2); obtain ⟨aa, a1, rfl, HA, HK1, a3, HB⟩ := hrel
  cases gk with
  | zero => exact absurd HA.out (by simp [spec_l6Paths.l0])
  | succ k1 =>
   have H := HA.out; clear HA; simp only [spec_l6Paths.l0] at H
   by_cases c4 : a1 < (l0.length : Int)
   ·rw [if_pos c4] at H
    have ak : decide (a1 < (l0.length : Int)) = true := decide_eq_true c4; clear c4; have H' := Aside0.mk H; clear H
    go_wp2
    go_loopg [3, 5] k1 (fun kq v3 v5 w' => ∃ (a6 : List ByteArray) (a2 : Int), v5 = .int .i64 a2 ∧ Aside0 (spec_l6Paths.l1 kq l0 a6 a1 a2 = some r) ∧ Aside0 (kq ≤ k1) ∧ Aside0 (Kd.R Kd.string 9 w' w.heap.size (fun _ => True) v3 a6) ∧ Aside0 (Below w.heap.size w w'))
    case atStart => exact ⟨(aa), (0), Ye1, H', ⟨Nat.le_refl _⟩, ⟨kr a3.out⟩, ⟨be HB.out⟩⟩
    case round =>
     clear H'; (try clear p2); (try clear c4); (try clear ak); (try clear p2); obtain ⟨a6, a2, rfl, HA, HK2, a3, HB⟩ := hrel
     cases gk with
     | zero => exact absurd HA.out (by simp [spec_l6Paths.l1])
     | succ k2 =>
      have H := HA.out; clear HA; simp only [spec_l6Paths.l1] at H
      by_cases c5 : 0 ≤ a1
      ·rw [if_pos c5] at H
       have c5b0 : decide (0 ≤ a1) = true := decide_eq_true c5; clear c5
       by_cases c6 : a1 < (l0.length : Int)
       ·rw [if_pos c6] at H
        have c6b0 : decide (a1 < (l0.length : Int)) = true := decide_eq_true c6; clear c6
        by_cases c7 : a2 < (((rd_T28 l0 a1).f0).length : Int)
        ·rw [if_pos c7] at H
         have an : decide (a2 < (((rd_T28 l0 a1).f0).length : Int)) = true := decide_eq_true c7; clear c7
         by_cases c8 : 0 ≤ a2
         ·rw [if_pos c8] at H
          have c8b0 : decide (0 ≤ a2) = true := decide_eq_true c8; clear c8; replace H := Option.bind_eq_some_iff.mp H; obtain ⟨a8, A90, H⟩ := H; replace H : (spec_l6Paths.l1 k2 l0 a8 a1 (wrap64 (a2 + 1))) = some r := H; have A9 := Aside0.mk A90; clear A90; have H' := Aside0.mk H; clear H; have a4 : 0 ≤ (a1 : Int) := oda; have a5 : a1 < (l0.length : Int) := oda; obtain ⟨al, ao, ap, ac, a7, hl792_0, hi792_0⟩ := at_T28 ab.out a1 a4 a5
          cases ac
          replace a7 := pw_cell_below HB.out a7; have aq := Aside0.mk hi792_0; have ar := Aside0.mk hl792_0; clear hi792_0 hl792_0; replace a4 := eq_true a4; replace a5 := eq_true a5; have ad : 0 ≤ (a1 : Int) := oda; have ae : a1 < (l0.length : Int) := oda; obtain ⟨au, aC, aD, av, af, hl793_0, hi793_0⟩ := at_T28 ab.out a1 ad ae
          obtain rfl : al = au := (by injection av)
          replace af := pw_cell_below HB.out af; have aw := Aside0.mk hi793_0; have aE := Aside0.mk hl793_0; clear hi793_0 hl793_0; replace ad := eq_true ad; replace ae := eq_true ae; have ea_ := Option.some.inj (a7.symm.trans af)
          injection ea_ with ea_ en_ ec_
          subst ea_; subst ec_; clear en_; have ag : 0 ≤ (a2 : Int) := oda; have ah : a2 < (((rd_T28 l0 a1).f0).length : Int) := oda; obtain ⟨ad794, ax, aF, aG, aH⟩ := at_T37 (Kd.C_below aw.out HB.out) a2 ag ah
          cases ax
          replace ag := eq_true ag; replace ah := eq_true ah; obtain ⟨ay, az, aA⟩ := Kd.R_slice a3.out; subst aA
          go_wp2_with (first | ((with_reducible refine gc 105 rfl ?_); refine gl (some 33) _ (#[.slice ay a6.length az, .string ((rd_T37 ((rd_T28 l0 a1).f0) a2).f0)]) Tryd.func105 ?_; (with_reducible refine (spec_l6Name.calls k2 _ _ a6 ((rd_T37 ((rd_T28 l0 a1).f0) a2).f0) a8 _ ?side1 ?side2 A9.out).mono ?_); (case side1 => repeat (first | exact (Kd.R_reads' a3.out).2.2 | (with_reducible refine Kd.C_alloc ?_ _) | (with_reducible refine Kd.C_drewN ?_ _) | (with_reducible refine Kd.C_drew ?_))); (case side2 => exact (Kd.R_reads' a3.out).2.1); rintro e w11 ⟨v796, rfl, ho0, hb⟩; refine ⟨_, rfl, ?_⟩; refine Ya3 (Kd.R_elder' (kr a3.out) (Kd.R_base ho0) hb) (Kd.R_lower (Kd.R_new' ho0 (Kd.R_lt (kr a3.out))) (below_size (be HB.out))) (below_step (be HB.out) hb) ?_; clear a3 HB; intro a3 aB HB; (try clear hb); (try clear hb2); (try clear hk); (try clear hi); (try clear ho0)))
          go_roundg k2
          case measure => have := HK1.out; have := HK2.out; omega
          case rel => exact ⟨(a8), (wrap64 (a2 + 1)), Ye1, H', ⟨by have := HK1.out; have := HK2.out; omega⟩, ⟨by (with_reducible repeat (first | apply Kd.R_alloc | apply Kd.R_drewN | apply Kd.R_drew)); exact Kd.R_mono aB.out (fun _ hk => trivial)⟩, ⟨be HB.out⟩⟩
         ·rw [if_neg c8] at H
          exact absurd H (by simp)
        ·rw [if_neg c7] at H
         have an : decide (a2 < (((rd_T28 l0 a1).f0).length : Int)) = false := decide_eq_false c7; clear c7; have H' := Aside0.mk H; clear H; have a4 : 0 ≤ (a1 : Int) := oda; have a5 : a1 < (l0.length : Int) := oda; obtain ⟨al, ao, ap, ac, a7, hl792_0, hi792_0⟩ := at_T28 ab.out a1 a4 a5
         cases ac
         replace a7 := pw_cell_below HB.out a7; have aq := Aside0.mk hi792_0; have ar := Aside0.mk hl792_0; clear hi792_0 hl792_0; replace a4 := eq_true a4; replace a5 := eq_true a5
         go_wp2
         go_roundg k2
         case measure => have := HK1.out; have := HK2.out; omega
         case rel => exact ⟨(a6), (wrap64 (a1 + 1)), Ye1, H', ⟨by have := HK1.out; have := HK2.out; omega⟩, ⟨kr a3.out⟩, ⟨be HB.out⟩⟩
       ·rw [if_neg c6] at H
        exact absurd H (by simp)
      ·rw [if_neg c5] at H
       exact absurd H (by simp)
   ·rw [if_neg c4] at H
    have ak : decide (a1 < (l0.length : Int)) = false := decide_eq_false c4; clear c4; obtain rfl := Option.some.inj H
    go_wp2
    go_ret
    exact ⟨_, Ye2, kr a3.out, be HB.out⟩

end Go.Proofs.YtgnmledjkamojaaDoor.P


namespace Go.Proofs.YtgnmledjkamojaaDoor.P
open Go.RowKit Go.Proofs.YtgnmledjkamojaaDoorW.PrintWords Go.Proofs.YtgnmledjkamojaaDoorW.PrintLast Go.Proofs.YtgnmledjkamojaaDoorW.PrintMore
attribute [local go_sem] max2_int min2_int max_two min_two max_three min_three max_four min_four
set_option linter.unusedVariables false
set_option linter.unusedSimpArgs false

/-! ### spec_l5Begins: function 64 -/
def spec_l5Begins.f (a0 : ByteArray) (a1 : ByteArray) : Option (Bool) := if (a1.size : Int) > (a0.size : Int) then (if 0 ≤ (a0.size : Int) then (if (a0.size : Int) ≤ (a1.size : Int) then (if (a1.extract 0 ((a0.size : Int) : Int).toNat).toList = a0.toList then (if (a0.size : Int) < (a1.size : Int) then (some ((bt a1 (a0.size : Int)) == 47)) else (none)) else (some false)) else (none)) else (none)) else (some false)
set_option maxHeartbeats 8000000 in
set_option maxRecDepth 100000 in
theorem spec_l5Begins.calls (a0 : ByteArray) (a1 : ByteArray) (r : Bool) (w : World) (h : spec_l5Begins.f a0 a1 = some r) :
  Calls Tryd.prog 64 #[.string a0, .string a1] w fun e w' => e = .returned (.bool r) ∧ Drawn0 w w' := by
 have H : (if (a1.size : Int) > (a0.size : Int) then (if 0 ≤ (a0.size : Int) then (if (a0.size : Int) ≤ (a1.size : Int) then (if (a1.extract 0 ((a0.size : Int) : Int).toNat).toList = a0.toList then (if (a0.size : Int) < (a1.size : Int) then (some ((bt a1 (a0.size : Int)) == 47)) else (none)) else (some false)) else (none)) else (none)) else (some false)) = some r := h; clear h
 by_cases c3 : (a1.size : Int) > (a0.size : Int)
 ·rw [if_pos c3] at H
  have a6 : decide ((a0.size : Int) < (a1.size : Int)) = true := decide_eq_true c3; have a7 : decide (a0.size < a1.size) = true := decide_eq_true (Int.ofNat_lt.mp c3); clear c3
  by_cases c4 : 0 ≤ (a0.size : Int)
  ·rw [if_pos c4] at H
   have c4b0 := eq_true c4; have c4b1 : decide (0 ≤ (a0.size : Int)) = true := decide_eq_true c4; clear c4
   by_cases c5 : (a0.size : Int) ≤ (a1.size : Int)
   ·rw [if_pos c5] at H
    have c5b0 := eq_true c5; have c5b1 : decide ((a0.size : Int) ≤ (a1.size : Int)) = true := decide_eq_true c5; clear c5
    by_cases c6 : (a1.extract 0 ((a0.size : Int) : Int).toNat).toList = a0.toList
    ·rw [if_pos c6] at H
     have a2 : ((a1.extract 0 ((a0.size : Int) : Int).toNat).toList == a0.toList) = true := beq_iff_eq.mpr c6; have a3 := a2; (try simp only [Int.toNat_natCast] at a3); have a4 : ((a1.extract 0 ((a0.size : Int) : Int).toNat).toList != a0.toList) = false := bne_eq_false_iff_eq.mpr c6; have a5 := a4; (try simp only [Int.toNat_natCast] at a5); clear c6
     by_cases c7 : (a0.size : Int) < (a1.size : Int)
     ·rw [if_pos c7] at H
      have c7b0 : decide ((a0.size : Int) < (a1.size : Int)) = true := decide_eq_true c7; have c7b1 : decide (a0.size < a1.size) = true := decide_eq_true (Int.ofNat_lt.mp c7); clear c7; obtain rfl := Option.some.inj H; have p8 : 0 ≤ ((a0.size : Int) : Int) := oda; have q8 : (a0.size : Int) < (a1.size : Int) := oda; have hx8 := bt_at a1 (a0.size : Int); (try have hx8n := hx8 (by omega)); (try simp only [Int.toNat_natCast] at hx8n); replace p8 := eq_true p8; replace q8 := eq_true q8
      go_enter Tryd.func64, Tryd.ntmps64
      go_wp2
      go_ret
      exact ⟨Ye1, dz⟩
     ·rw [if_neg c7] at H
      exact absurd H (by simp)
    ·rw [if_neg c6] at H
     have a2 : ((a1.extract 0 ((a0.size : Int) : Int).toNat).toList == a0.toList) = false := beq_eq_false_iff_ne.mpr c6; have a3 := a2; (try simp only [Int.toNat_natCast] at a3); have a4 : ((a1.extract 0 ((a0.size : Int) : Int).toNat).toList != a0.toList) = true := bne_iff_ne.mpr c6; have a5 := a4; (try simp only [Int.toNat_natCast] at a5); obtain rfl := Option.some.inj H
     go_enter Tryd.func64, Tryd.ntmps64
     go_wp2
     go_ret
     exact ⟨Ye1, dz⟩
   ·rw [if_neg c5] at H
    exact absurd H (by simp)
  ·rw [if_neg c4] at H
   exact absurd H (by simp)
 ·rw [if_neg c3] at H
  have a6 : decide ((a0.size : Int) < (a1.size : Int)) = false := decide_eq_false c3; have a7 : decide (a0.size < a1.size) = false := decide_eq_false (fun h => c3 (Int.ofNat_lt.mpr h)); clear c3; obtain rfl := Option.some.inj H
  go_enter Tryd.func64, Tryd.ntmps64
  go_wp2
  go_ret
  exact ⟨Ye1, dz⟩

end Go.Proofs.YtgnmledjkamojaaDoor.P


namespace Go.Proofs.YtgnmledjkamojaaDoor.P
open Go.RowKit Go.Proofs.YtgnmledjkamojaaDoorW.PrintWords Go.Proofs.YtgnmledjkamojaaDoorW.PrintLast Go.Proofs.YtgnmledjkamojaaDoorW.PrintMore
attribute [local go_sem] max2_int min2_int max_two min_two max_three min_three max_four min_four
set_option linter.unusedVariables false
set_option linter.unusedSimpArgs false

/-! ### spec_l1In: function 119 -/
def spec_l1In.f (a0 : Int) (a1 : Int) (a2 : Int) : Option (Bool) := if a0 ≥ a1 then (some (decide (a0 ≤ a2))) else (some false)
set_option maxHeartbeats 8000000 in
set_option maxRecDepth 100000 in
theorem spec_l1In.calls (a0 : Int) (a1 : Int) (a2 : Int) (r : Bool) (w : World) (h : spec_l1In.f a0 a1 a2 = some r) :
  Calls Tryd.prog 119 #[.int .i64 a0, .int .i64 a1, .int .i64 a2] w fun e w' => e = .returned (.bool r) ∧ Drawn0 w w' := by
 have H : (if a0 ≥ a1 then (some (decide (a0 ≤ a2))) else (some false)) = some r := h; clear h
 by_cases c4 : a0 ≥ a1
 ·rw [if_pos c4] at H
  have a3 : decide (a1 ≤ a0) = true := decide_eq_true c4; clear c4; obtain rfl := Option.some.inj H
  go_enter Tryd.func119, Tryd.ntmps119
  go_wp2
  go_ret
  exact ⟨Ye1, dz⟩
 ·rw [if_neg c4] at H
  have a3 : decide (a1 ≤ a0) = false := decide_eq_false c4; clear c4; obtain rfl := Option.some.inj H
  go_enter Tryd.func119, Tryd.ntmps119
  go_wp2
  go_ret
  exact ⟨Ye1, dz⟩

end Go.Proofs.YtgnmledjkamojaaDoor.P


namespace Go.Proofs.YtgnmledjkamojaaDoor.P
open Go.RowKit Go.Proofs.YtgnmledjkamojaaDoorW.PrintWords Go.Proofs.YtgnmledjkamojaaDoorW.PrintLast Go.Proofs.YtgnmledjkamojaaDoorW.PrintMore
attribute [local go_sem] max2_int min2_int max_two min_two max_three min_three max_four min_four
set_option linter.unusedVariables false
set_option linter.unusedSimpArgs false

/-! ### spec_l4PartOk: function 152 -/
mutual
def spec_l4PartOk.j0 : Nat → ByteArray → Bool → Bool → Option (Bool)
 | 0, _, _, _ => none
 | k + 1, x0, x1, x17 => if x17 = true then (some false) else (spec_l4PartOk.l0 k x0 x1 0)
def spec_l4PartOk.l0 : Nat → ByteArray → Bool → Int → Option (Bool)
 | 0, _, _, _ => none
 | k + 1, x0, x1, x5 => if x5 < (x0.size : Int) then (if 0 ≤ x5 then (if (bt x0 x5) < 33 then (some false) else (if (bt x0 x5) > 126 then (some false) else (if (bt x0 x5) = 47 then (some false) else (if (bt x0 x5) = 34 then (some false) else (if x1 = true then (spec_l4PartOk.l0 k x0 x1 (wrap64 (x5 + 1))) else (if (bt x0 x5) = 42 then (some false) else (if (bt x0 x5) = 63 then (some false) else (spec_l4PartOk.l0 k x0 x1 (wrap64 (x5 + 1)))))))))) else (none)) else (some true)
end
def spec_l4PartOk.f (k : Nat) (a0 : ByteArray) (a1 : Bool) : Option (Bool) := (spec_l1In.f (a0.size : Int) 1 20).bind fun a8 => (if a8 = true then (if a0.toList = ([46] : List UInt8) then (spec_l4PartOk.j0 k a0 a1 true) else (spec_l4PartOk.j0 k a0 a1 (a0.toList == ([46, 46] : List UInt8)))) else (spec_l4PartOk.j0 k a0 a1 true))
theorem spec_l4PartOk.mono_l : ∀ k, (∀ y0 y1 y2, LeO (spec_l4PartOk.j0 k y0 y1 y2) (spec_l4PartOk.j0 (k + 1) y0 y1 y2)) ∧ (∀ y0 y1 y2, LeO (spec_l4PartOk.l0 k y0 y1 y2) (spec_l4PartOk.l0 (k + 1) y0 y1 y2))
 | 0 => ⟨fun _ _ _ r h => by simp [spec_l4PartOk.j0] at h, fun _ _ _ r h => by simp [spec_l4PartOk.l0] at h⟩
 | k + 1 => by
  obtain ⟨ih0, ih1⟩ := spec_l4PartOk.mono_l k; refine ⟨?_, ?_⟩
  ·intro y0 y1 y2
   unfold spec_l4PartOk.j0
   repeat' first
   | (with_reducible exact ih0 _ _ _)
   | (with_reducible exact ih1 _ _ _)
   | (with_reducible exact LeO.refl _)
   | (with_reducible exact LeO.none _)
   | (with_reducible refine LeO.ite ?_ ?_)
   | (with_reducible refine LeO.bind ?_ (fun _ => ?_))
   | exact ih0 _ _ _
   | exact ih1 _ _ _
   | exact LeO.none _
   | refine LeO.ite ?_ ?_
   | refine LeO.bind ?_ (fun _ => ?_)
  ·intro y0 y1 y2
   unfold spec_l4PartOk.l0
   repeat' first
   | (with_reducible exact ih0 _ _ _)
   | (with_reducible exact ih1 _ _ _)
   | (with_reducible exact LeO.refl _)
   | (with_reducible exact LeO.none _)
   | (with_reducible refine LeO.ite ?_ ?_)
   | (with_reducible refine LeO.bind ?_ (fun _ => ?_))
   | exact ih0 _ _ _
   | exact ih1 _ _ _
   | exact LeO.none _
   | refine LeO.ite ?_ ?_
   | refine LeO.bind ?_ (fun _ => ?_)
theorem spec_l4PartOk.mono : ∀ a0 a1 k, LeO (spec_l4PartOk.f k a0 a1) (spec_l4PartOk.f (k + 1) a0 a1) := by
 intro a0 a1 k; obtain ⟨ih0, ih1⟩ := spec_l4PartOk.mono_l k
 unfold spec_l4PartOk.f
 repeat' first
   | (with_reducible exact ih0 _ _ _)
   | (with_reducible exact ih1 _ _ _)
   | (with_reducible exact LeO.refl _)
   | (with_reducible exact LeO.none _)
   | (with_reducible refine LeO.ite ?_ ?_)
   | (with_reducible refine LeO.bind ?_ (fun _ => ?_))
   | exact ih0 _ _ _
   | exact ih1 _ _ _
   | exact LeO.none _
   | refine LeO.ite ?_ ?_
   | refine LeO.bind ?_ (fun _ => ?_)
set_option maxHeartbeats 8000000 in
set_option maxRecDepth 100000 in
theorem spec_l4PartOk.calls (k : Nat) (a0 : ByteArray) (a1 : Bool) (r : Bool) (w : World) (h : spec_l4PartOk.f k a0 a1 = some r) :
  Calls Tryd.prog 152 #[.string a0, .bool a1] w fun e w' => e = .returned (.bool r) ∧ Drawn0 w w' := by
 have H : ((spec_l1In.f (a0.size : Int) 1 20).bind fun a8 => (if a8 = true then (if a0.toList = ([46] : List UInt8) then (spec_l4PartOk.j0 k a0 a1 true) else (spec_l4PartOk.j0 k a0 a1 (a0.toList == ([46, 46] : List UInt8)))) else (spec_l4PartOk.j0 k a0 a1 true))) = some r := h; clear h; have ad := Aside0.mk H; clear H
 go_enter Tryd.func152, Tryd.ntmps152
 go_upto_region 1 with (fail)
 go_cut [17] (fun v17 wc => ∃ (kq : Nat) (ab : Bool), v17 = .bool ab ∧ Aside0 (spec_l4PartOk.j0 kq a0 a1 ab = some r) ∧ Aside0 (kq ≤ k) ∧ Drawn0 w wc)
 case first =>
  have H := ad.out; clear ad; replace H := Option.bind_eq_some_iff.mp H; obtain ⟨a8, A40, H⟩ := H; replace H : (if a8 = true then (if a0.toList = ([46] : List UInt8) then (spec_l4PartOk.j0 k a0 a1 true) else (spec_l4PartOk.j0 k a0 a1 (a0.toList == ([46, 46] : List UInt8)))) else (spec_l4PartOk.j0 k a0 a1 true)) = some r := H; have A4 := Aside0.mk A40; clear A40
  by_cases c5 : a8 = true
  ·subst c5
   have H1 : (if a0.toList = ([46] : List UInt8) then (spec_l4PartOk.j0 k a0 a1 true) else (spec_l4PartOk.j0 k a0 a1 (a0.toList == ([46, 46] : List UInt8)))) = some r := by rw [if_pos rfl] at H; exact H
   clear H; have H := H1; clear H1
   by_cases c6 : a0.toList = ([46] : List UInt8)
   ·rw [if_pos c6] at H
    have a3 : (a0.toList == ([46] : List UInt8)) = true := beq_iff_eq.mpr c6; have ae : (a0.toList != ([46] : List UInt8)) = false := bne_eq_false_iff_eq.mpr c6; clear c6; (first | rw [a3] | (simp only [i64_w, i32_w]; rw [a3]) | skip); have H' := Aside0.mk H; clear H
    go_wp2_with (first | ((with_reducible refine gc 119 rfl ?_); refine gl (some 8) _ (#[.int .i64 (a0.size : Int), .int .i64 1, .int .i64 20]) Tryd.func119 ?_; (with_reducible refine (spec_l1In.calls (a0.size : Int) 1 20 true _ A4.out).mono ?_); rintro e w' ⟨rfl, ⟨nd, rfl⟩⟩; refine ⟨_, rfl, ?_⟩))
    go_meet
    case rel => exact ⟨_, (true), Ye1, H', ⟨by first | omega | exact Nat.le_refl _⟩, dz⟩
   ·rw [if_neg c6] at H
    have a3 : (a0.toList == ([46] : List UInt8)) = false := beq_eq_false_iff_ne.mpr c6; have ae : (a0.toList != ([46] : List UInt8)) = true := bne_iff_ne.mpr c6; (first | rw [a3] | (simp only [i64_w, i32_w]; rw [a3]) | skip); have H' := Aside0.mk H; clear H
    go_wp2_with (first | ((with_reducible refine gc 119 rfl ?_); refine gl (some 8) _ (#[.int .i64 (a0.size : Int), .int .i64 1, .int .i64 20]) Tryd.func119 ?_; (with_reducible refine (spec_l1In.calls (a0.size : Int) 1 20 true _ A4.out).mono ?_); rintro e w' ⟨rfl, ⟨nd, rfl⟩⟩; refine ⟨_, rfl, ?_⟩))
    go_meet
    case rel => exact ⟨_, ((a0.toList == ([46, 46] : List UInt8))), Ye1, H', ⟨by first | omega | exact Nat.le_refl _⟩, dz⟩
  ·replace c5 := Bool.eq_false_iff.mpr c5; subst c5
   have H1 : (spec_l4PartOk.j0 k a0 a1 true) = some r := by rw [if_neg (show ¬ (false = true) by decide)] at H; exact H
   clear H; have H := H1; clear H1; have H' := Aside0.mk H; clear H
   go_wp2_with (first | ((with_reducible refine gc 119 rfl ?_); refine gl (some 8) _ (#[.int .i64 (a0.size : Int), .int .i64 1, .int .i64 20]) Tryd.func119 ?_; (with_reducible refine (spec_l1In.calls (a0.size : Int) 1 20 false _ A4.out).mono ?_); rintro e w' ⟨rfl, ⟨nd, rfl⟩⟩; refine ⟨_, rfl, ?_⟩))
   go_meet
   case rel => exact ⟨_, (true), Ye1, H', ⟨by first | omega | exact Nat.le_refl _⟩, dz⟩
 case rest =>
  clear ad; (try clear c1); (try clear p2); (try clear c5); (try clear c6); (try clear a3); (try clear ae); obtain ⟨kq, ab, rfl, HA, HJ2, ⟨mc2, rfl⟩⟩ := hcut
  cases kq with
  | zero => exact absurd HA.out (by simp [spec_l4PartOk.j0])
  | succ af =>
   have H := HA.out; clear HA; simp only [spec_l4PartOk.j0] at H
   by_cases c7 : ab = true
   ·subst c7
    have H1 : (some false) = some r := by rw [if_pos rfl] at H; exact H
    clear H; have H := H1; clear H1; obtain rfl := Option.some.inj H
    go_wp2
    go_ret
    exact ⟨Ye1, dz⟩
   ·replace c7 := Bool.eq_false_iff.mpr c7; subst c7
    have H1 : (spec_l4PartOk.l0 af a0 a1 0) = some r := by rw [if_neg (show ¬ (false = true) by decide)] at H; exact H
    clear H; have H := H1; clear H1; have H' := Aside0.mk H; clear H
    go_wp2
    go_loopg [5] af (fun kq v5 w' => ∃ (a2 : Int), v5 = .int .i64 a2 ∧ Aside0 (spec_l4PartOk.l0 kq a0 a1 a2 = some r) ∧ Aside0 (kq ≤ af) ∧ Drawn0 w w')
    case atStart => exact ⟨(0), Ye1, H', ⟨Nat.le_refl _⟩, dz⟩
    case round =>
     clear H'; (try clear c1); (try clear c2); (try clear p2); (try clear c5); (try clear c6); (try clear a3); (try clear ae); (try clear c7); (try clear p2); obtain ⟨a2, rfl, HA, HK2, ⟨m2, rfl⟩⟩ := hrel
     cases gk with
     | zero => exact absurd HA.out (by simp [spec_l4PartOk.l0])
     | succ k2 =>
      have H := HA.out; clear HA; simp only [spec_l4PartOk.l0] at H
      by_cases c8 : a2 < (a0.size : Int)
      ·rw [if_pos c8] at H
       have ag : decide (a2 < (a0.size : Int)) = true := decide_eq_true c8; clear c8
       by_cases c9 : 0 ≤ a2
       ·rw [if_pos c9] at H
        have c9b0 : decide (0 ≤ a2) = true := decide_eq_true c9; clear c9
        by_cases a9 : (bt a0 a2) < 33
        ·rw [if_pos a9] at H
         have ah : decide ((bt a0 a2) < 33) = true := decide_eq_true a9; clear a9; obtain rfl := Option.some.inj H; have p10 : 0 ≤ (a2 : Int) := oda; have q10 : a2 < (a0.size : Int) := oda; have hx10 := bt_at a0 a2; replace p10 := eq_true p10; replace q10 := eq_true q10
         go_wp2
         go_ret
         exact ⟨Ye1, dz⟩
        ·rw [if_neg a9] at H
         have ah : decide ((bt a0 a2) < 33) = false := decide_eq_false a9; clear a9
         by_cases aa : (bt a0 a2) > 126
         ·rw [if_pos aa] at H
          have ai : decide (126 < (bt a0 a2)) = true := decide_eq_true aa; clear aa; obtain rfl := Option.some.inj H; have p10 : 0 ≤ (a2 : Int) := oda; have q10 : a2 < (a0.size : Int) := oda; have hx10 := bt_at a0 a2; replace p10 := eq_true p10; replace q10 := eq_true q10; have p12 : 0 ≤ (a2 : Int) := oda; have q12 : a2 < (a0.size : Int) := oda; have hx12 := bt_at a0 a2; replace p12 := eq_true p12; replace q12 := eq_true q12
          go_wp2
          go_ret
          exact ⟨Ye1, dz⟩
         ·rw [if_neg aa] at H
          have ai : decide (126 < (bt a0 a2)) = false := decide_eq_false aa; clear aa
          by_cases a4 : (bt a0 a2) = 47
          ·rw [if_pos a4] at H
           have aj : ((bt a0 a2) == 47) = true := beq_iff_eq.mpr a4; have ak : ((bt a0 a2) != 47) = false := bne_eq_false_iff_eq.mpr a4; clear a4; obtain rfl := Option.some.inj H; have p10 : 0 ≤ (a2 : Int) := oda; have q10 : a2 < (a0.size : Int) := oda; have hx10 := bt_at a0 a2; replace p10 := eq_true p10; replace q10 := eq_true q10; have p12 : 0 ≤ (a2 : Int) := oda; have q12 : a2 < (a0.size : Int) := oda; have hx12 := bt_at a0 a2; replace p12 := eq_true p12; replace q12 := eq_true q12; have p14 : 0 ≤ (a2 : Int) := oda; have q14 : a2 < (a0.size : Int) := oda; have hx14 := bt_at a0 a2; replace p14 := eq_true p14; replace q14 := eq_true q14
           go_wp2
           go_ret
           exact ⟨Ye1, dz⟩
          ·rw [if_neg a4] at H
           have aj : ((bt a0 a2) == 47) = false := beq_eq_false_iff_ne.mpr a4; have ak : ((bt a0 a2) != 47) = true := bne_iff_ne.mpr a4
           by_cases a5 : (bt a0 a2) = 34
           ·rw [if_pos a5] at H
            have al : ((bt a0 a2) == 34) = true := beq_iff_eq.mpr a5; have am : ((bt a0 a2) != 34) = false := bne_eq_false_iff_eq.mpr a5; clear a5; obtain rfl := Option.some.inj H; have p10 : 0 ≤ (a2 : Int) := oda; have q10 : a2 < (a0.size : Int) := oda; have hx10 := bt_at a0 a2; replace p10 := eq_true p10; replace q10 := eq_true q10; have p12 : 0 ≤ (a2 : Int) := oda; have q12 : a2 < (a0.size : Int) := oda; have hx12 := bt_at a0 a2; replace p12 := eq_true p12; replace q12 := eq_true q12; have p14 : 0 ≤ (a2 : Int) := oda; have q14 : a2 < (a0.size : Int) := oda; have hx14 := bt_at a0 a2; replace p14 := eq_true p14; replace q14 := eq_true q14; have p16 : 0 ≤ (a2 : Int) := oda; have q16 : a2 < (a0.size : Int) := oda; have hx16 := bt_at a0 a2; replace p16 := eq_true p16; replace q16 := eq_true q16
            go_wp2
            go_ret
            exact ⟨Ye1, dz⟩
           ·rw [if_neg a5] at H
            have al : ((bt a0 a2) == 34) = false := beq_eq_false_iff_ne.mpr a5; have am : ((bt a0 a2) != 34) = true := bne_iff_ne.mpr a5
            by_cases ac : a1 = true
            ·subst ac
             have H1 : (spec_l4PartOk.l0 k2 a0 true (wrap64 (a2 + 1))) = some r := by rw [if_pos rfl] at H; exact H
             clear H; have H := H1; clear H1; have H' := Aside0.mk H; clear H; have p10 : 0 ≤ (a2 : Int) := oda; have q10 : a2 < (a0.size : Int) := oda; have hx10 := bt_at a0 a2; replace p10 := eq_true p10; replace q10 := eq_true q10; have p12 : 0 ≤ (a2 : Int) := oda; have q12 : a2 < (a0.size : Int) := oda; have hx12 := bt_at a0 a2; replace p12 := eq_true p12; replace q12 := eq_true q12; have p14 : 0 ≤ (a2 : Int) := oda; have q14 : a2 < (a0.size : Int) := oda; have hx14 := bt_at a0 a2; replace p14 := eq_true p14; replace q14 := eq_true q14; have p16 : 0 ≤ (a2 : Int) := oda; have q16 : a2 < (a0.size : Int) := oda; have hx16 := bt_at a0 a2; replace p16 := eq_true p16; replace q16 := eq_true q16
             go_wp2
             go_roundg k2
             case measure => have := HJ2.out; have := HK2.out; omega
             case rel => exact ⟨(wrap64 (a2 + 1)), Ye1, H', ⟨by have := HJ2.out; have := HK2.out; omega⟩, dz⟩
            ·replace ac := Bool.eq_false_iff.mpr ac; subst ac
             have H1 : (if (bt a0 a2) = 42 then (some false) else (if (bt a0 a2) = 63 then (some false) else (spec_l4PartOk.l0 k2 a0 false (wrap64 (a2 + 1))))) = some r := by rw [if_neg (show ¬ (false = true) by decide)] at H; exact H
             clear H; have H := H1; clear H1
             by_cases a6 : (bt a0 a2) = 42
             ·rw [if_pos a6] at H
              have an : ((bt a0 a2) == 42) = true := beq_iff_eq.mpr a6; have ao : ((bt a0 a2) != 42) = false := bne_eq_false_iff_eq.mpr a6; clear a6; obtain rfl := Option.some.inj H; have p10 : 0 ≤ (a2 : Int) := oda; have q10 : a2 < (a0.size : Int) := oda; have hx10 := bt_at a0 a2; replace p10 := eq_true p10; replace q10 := eq_true q10; have p12 : 0 ≤ (a2 : Int) := oda; have q12 : a2 < (a0.size : Int) := oda; have hx12 := bt_at a0 a2; replace p12 := eq_true p12; replace q12 := eq_true q12; have p14 : 0 ≤ (a2 : Int) := oda; have q14 : a2 < (a0.size : Int) := oda; have hx14 := bt_at a0 a2; replace p14 := eq_true p14; replace q14 := eq_true q14; have p16 : 0 ≤ (a2 : Int) := oda; have q16 : a2 < (a0.size : Int) := oda; have hx16 := bt_at a0 a2; replace p16 := eq_true p16; replace q16 := eq_true q16; have p19 : 0 ≤ (a2 : Int) := oda; have q19 : a2 < (a0.size : Int) := oda; have hx19 := bt_at a0 a2; replace p19 := eq_true p19; replace q19 := eq_true q19
              go_wp2
              go_ret
              exact ⟨Ye1, dz⟩
             ·rw [if_neg a6] at H
              have an : ((bt a0 a2) == 42) = false := beq_eq_false_iff_ne.mpr a6; have ao : ((bt a0 a2) != 42) = true := bne_iff_ne.mpr a6
              by_cases a7 : (bt a0 a2) = 63
              ·rw [if_pos a7] at H
               have ap : ((bt a0 a2) == 63) = true := beq_iff_eq.mpr a7; have aq : ((bt a0 a2) != 63) = false := bne_eq_false_iff_eq.mpr a7; clear a7; obtain rfl := Option.some.inj H; have p10 : 0 ≤ (a2 : Int) := oda; have q10 : a2 < (a0.size : Int) := oda; have hx10 := bt_at a0 a2; replace p10 := eq_true p10; replace q10 := eq_true q10; have p12 : 0 ≤ (a2 : Int) := oda; have q12 : a2 < (a0.size : Int) := oda; have hx12 := bt_at a0 a2; replace p12 := eq_true p12; replace q12 := eq_true q12; have p14 : 0 ≤ (a2 : Int) := oda; have q14 : a2 < (a0.size : Int) := oda; have hx14 := bt_at a0 a2; replace p14 := eq_true p14; replace q14 := eq_true q14; have p16 : 0 ≤ (a2 : Int) := oda; have q16 : a2 < (a0.size : Int) := oda; have hx16 := bt_at a0 a2; replace p16 := eq_true p16; replace q16 := eq_true q16; have p19 : 0 ≤ (a2 : Int) := oda; have q19 : a2 < (a0.size : Int) := oda; have hx19 := bt_at a0 a2; replace p19 := eq_true p19; replace q19 := eq_true q19; have p21 : 0 ≤ (a2 : Int) := oda; have q21 : a2 < (a0.size : Int) := oda; have hx21 := bt_at a0 a2; replace p21 := eq_true p21; replace q21 := eq_true q21
               go_wp2
               go_ret
               exact ⟨Ye1, dz⟩
              ·rw [if_neg a7] at H
               have ap : ((bt a0 a2) == 63) = false := beq_eq_false_iff_ne.mpr a7; have aq : ((bt a0 a2) != 63) = true := bne_iff_ne.mpr a7; have H' := Aside0.mk H; clear H; have p10 : 0 ≤ (a2 : Int) := oda; have q10 : a2 < (a0.size : Int) := oda; have hx10 := bt_at a0 a2; replace p10 := eq_true p10; replace q10 := eq_true q10; have p12 : 0 ≤ (a2 : Int) := oda; have q12 : a2 < (a0.size : Int) := oda; have hx12 := bt_at a0 a2; replace p12 := eq_true p12; replace q12 := eq_true q12; have p14 : 0 ≤ (a2 : Int) := oda; have q14 : a2 < (a0.size : Int) := oda; have hx14 := bt_at a0 a2; replace p14 := eq_true p14; replace q14 := eq_true q14; have p16 : 0 ≤ (a2 : Int) := oda; have q16 : a2 < (a0.size : Int) := oda; have hx16 := bt_at a0 a2; replace p16 := eq_true p16; replace q16 := eq_true q16; have p19 : 0 ≤ (a2 : Int) := oda; have q19 : a2 < (a0.size : Int) := oda; have hx19 := bt_at a0 a2; replace p19 := eq_true p19; replace q19 := eq_true q19; have p21 : 0 ≤ (a2 : Int) := oda; have q21 : a2 < (a0.size : Int) := oda; have hx21 := bt_at a0 a2; replace p21 := eq_true p21; replace q21 := eq_true q21
               go_wp2
               go_roundg k2
               case measure => have := HJ2.out; have := HK2.out; omega
               case rel => exact ⟨(wrap64 (a2 + 1)), Ye1, H', ⟨by have := HJ2.out; have := HK2.out; omega⟩, dz⟩
       ·rw [if_neg c9] at H
        exact absurd H (by simp)
      ·rw [if_neg c8] at H
       have ag : decide (a2 < (a0.size : Int)) = false := decide_eq_false c8; clear c8; obtain rfl := Option.some.inj H
       go_wp2
       go_ret
       exact ⟨Ye1, dz⟩

end Go.Proofs.YtgnmledjkamojaaDoor.P


namespace Go.Proofs.YtgnmledjkamojaaDoor.P
open Go.RowKit Go.Proofs.YtgnmledjkamojaaDoorW.PrintWords Go.Proofs.YtgnmledjkamojaaDoorW.PrintLast Go.Proofs.YtgnmledjkamojaaDoorW.PrintMore
attribute [local go_sem] max2_int min2_int max_two min_two max_three min_three max_four min_four
set_option linter.unusedVariables false
set_option linter.unusedSimpArgs false

/-! ### spec_l4Parts: function 87 -/
def spec_l4Parts.l0 : Nat → ByteArray → List ByteArray → Int → Int → Option (List ByteArray)
 | 0, _, _, _, _ => none
 | k + 1, x0, x3, x4, x5 => if x5 < (x0.size : Int) then (if 0 ≤ x5 then (if (bt x0 x5) = 47 then (if 0 ≤ x4 then (if x4 ≤ x5 then (if x5 ≤ (x0.size : Int) then (if x3.length < 8796093022208 then (spec_l4Parts.l0 k x0 (x3 ++ [x0.extract (x4 : Int).toNat (x5 : Int).toNat]) (wrap64 (x5 + 1)) (wrap64 (x5 + 1))) else (none)) else (none)) else (none)) else (none)) else (spec_l4Parts.l0 k x0 x3 x4 (wrap64 (x5 + 1)))) else (none)) else (if 0 ≤ x4 then (if x4 ≤ (x0.size : Int) then (if x3.length < 8796093022208 then (some (x3 ++ [x0.extract (x4 : Int).toNat x0.size])) else (none)) else (none)) else (none))
def spec_l4Parts.f (k : Nat) (a0 : ByteArray) : Option (List ByteArray) := spec_l4Parts.l0 k a0 (([] : List ByteArray)) 0 0
theorem spec_l4Parts.mono_l : ∀ k, (∀ y0 y1 y2 y3, LeO (spec_l4Parts.l0 k y0 y1 y2 y3) (spec_l4Parts.l0 (k + 1) y0 y1 y2 y3))
 | 0 => fun _ _ _ _ r h => by simp [spec_l4Parts.l0] at h
 | k + 1 => by
  have ih0 := spec_l4Parts.mono_l k
  ·intro y0 y1 y2 y3
   unfold spec_l4Parts.l0
   repeat' first
   | (with_reducible exact ih0 _ _ _ _)
   | (with_reducible exact LeO.refl _)
   | (with_reducible exact LeO.none _)
   | (with_reducible refine LeO.ite ?_ ?_)
   | (with_reducible refine LeO.bind ?_ (fun _ => ?_))
   | exact ih0 _ _ _ _
   | exact LeO.none _
   | refine LeO.ite ?_ ?_
   | refine LeO.bind ?_ (fun _ => ?_)
theorem spec_l4Parts.mono : ∀ a0 k, LeO (spec_l4Parts.f k a0) (spec_l4Parts.f (k + 1) a0) := by
 intro a0 k; have ih0 := spec_l4Parts.mono_l k
 unfold spec_l4Parts.f
 repeat' first
   | (with_reducible exact ih0 _ _ _ _)
   | (with_reducible exact LeO.refl _)
   | (with_reducible exact LeO.none _)
   | (with_reducible refine LeO.ite ?_ ?_)
   | (with_reducible refine LeO.bind ?_ (fun _ => ?_))
   | exact ih0 _ _ _ _
   | exact LeO.none _
   | refine LeO.ite ?_ ?_
   | refine LeO.bind ?_ (fun _ => ?_)
set_option maxHeartbeats 8000000 in
set_option maxRecDepth 100000 in
theorem spec_l4Parts.calls (k : Nat) (a0 : ByteArray) (r : List ByteArray) (w : World) (h : spec_l4Parts.f k a0 = some r) :
  Calls Tryd.prog 87 #[.string a0] w fun e w' => ∃ v0_ : Value, e = .returned (v0_) ∧ Kd.R Kd.string 9 w' w.heap.size (fun _ => True) v0_ r ∧ Below w.heap.size w w' := by
 have HB := Aside0.mk (Below.refl w.heap.size w); have H : (spec_l4Parts.l0 k a0 (([] : List ByteArray)) 0 0) = some r := h; clear h
 obtain ⟨ac, a4⟩ : ∃ y_ : List ByteArray, y_ = (([] : List ByteArray)) := ⟨_, rfl⟩
 replace H : (spec_l4Parts.l0 k a0 ac 0 0) = some r := by first | (rw [a4]; with_reducible exact H) | (have H2_ := (Option.bind_some _ _).symm.trans H; rw [a4]; with_reducible exact H2_) | (have H2_ := (Option.bind_some _ _).symm.trans H; with_reducible exact H2_) | with_reducible exact H | (rw [a4]; exact H) | exact H
 have ad := Aside0.mk a4; clear a4; have H' := Aside0.mk H; clear H
 go_enter Tryd.func87, Tryd.ntmps87
 go_wp2_with (first | ((with_reducible refine gd 6 rfl ?_); refine Kd.R_lit Kd.string _ 9 ?hg (N := 6) ?hd (xs := ([] : List ByteArray)) (inner := []) (ok := fun _ => True) (okp := fun _ => True) ?hr ?hp (fun _ hk => hk) trivial (Below.refl _ _) (Nat.le_refl _) (by simp) ?_; (case hd => rfl); (case hg => rfl); (case hr => first | (go_simp; done) | (go_simp; rfl)); (case hp => exact (Reps.none _ _)); intro v107 w2 ho3 hb hg_ hnew_; clear hg_ hnew_; (first | rw [← ad.out] at ho3 | (simp only [Int.reduceToNat] at ho3; rw [← ad.out] at ho3)); refine Ya2 (Kd.R_lower ho3 (below_size (be HB.out))) (below_step (be HB.out) hb) ?_; clear HB; intro af HB; clear hb ho3))
 go_loopg [3, 4, 5] k (fun kq v3 v4 v5 w' => ∃ (a3 : List ByteArray) (a2 : Int) (a1 : Int), v4 = .int .i64 a2 ∧ v5 = .int .i64 a1 ∧ Aside0 (spec_l4Parts.l0 kq a0 a3 a2 a1 = some r) ∧ Aside0 (kq ≤ k) ∧ Aside0 (Kd.R Kd.string 9 w' w.heap.size (fun _ => True) v3 a3) ∧ Aside0 (Below w.heap.size w w'))
 case atStart => exact ⟨(ac), (0), (0), Ye1, Ye1, H', ⟨Nat.le_refl _⟩, ⟨kr af.out⟩, ⟨be HB.out⟩⟩
 case round =>
  clear H'; (try clear p2); obtain ⟨a3, a2, a1, rfl, rfl, HA, HK1, a5, HB⟩ := hrel
  cases gk with
  | zero => exact absurd HA.out (by simp [spec_l4Parts.l0])
  | succ k1 =>
   have H := HA.out; clear HA; simp only [spec_l4Parts.l0] at H
   by_cases c4 : a1 < (a0.size : Int)
   ·rw [if_pos c4] at H
    have ag : decide (a1 < (a0.size : Int)) = true := decide_eq_true c4; clear c4
    by_cases c5 : 0 ≤ a1
    ·rw [if_pos c5] at H
     have c5b0 : decide (0 ≤ a1) = true := decide_eq_true c5; clear c5
     by_cases c7 : (bt a0 a1) = 47
     ·rw [if_pos c7] at H
      have ah : ((bt a0 a1) == 47) = true := beq_iff_eq.mpr c7; have ai : ((bt a0 a1) != 47) = false := bne_eq_false_iff_eq.mpr c7; clear c7
      by_cases c8 : 0 ≤ a2
      ·rw [if_pos c8] at H
       have c8b0 := eq_true c8; have c8b1 : decide (0 ≤ a2) = true := decide_eq_true c8; clear c8
       by_cases c9 : a2 ≤ a1
       ·rw [if_pos c9] at H
        have c9b0 := eq_true c9; have c9b1 : decide (a2 ≤ a1) = true := decide_eq_true c9; clear c9
        by_cases c10 : a1 ≤ (a0.size : Int)
        ·rw [if_pos c10] at H
         have c10b0 := eq_true c10; have c10b1 : decide (a1 ≤ (a0.size : Int)) = true := decide_eq_true c10; clear c10
         by_cases aa : a3.length < 8796093022208
         ·rw [if_pos aa] at H
          have aj := Aside0.mk aa; clear aa
          obtain ⟨ae, a6⟩ : ∃ y_ : List ByteArray, y_ = (a3 ++ [a0.extract (a2 : Int).toNat (a1 : Int).toNat]) := ⟨_, rfl⟩
          replace H : (spec_l4Parts.l0 k1 a0 ae (wrap64 (a1 + 1)) (wrap64 (a1 + 1))) = some r := by first | (rw [a6]; with_reducible exact H) | (have H2_ := (Option.bind_some _ _).symm.trans H; rw [a6]; with_reducible exact H2_) | (have H2_ := (Option.bind_some _ _).symm.trans H; with_reducible exact H2_) | with_reducible exact H | (rw [a6]; exact H) | exact H
          have ak := Aside0.mk a6; clear a6; have H' := Aside0.mk H; clear H; have p6 : 0 ≤ (a1 : Int) := oda; have q6 : a1 < (a0.size : Int) := oda; have hx6 := bt_at a0 a1; replace p6 := eq_true p6; replace q6 := eq_true q6
          go_wp2_with (first | ((with_reducible refine gate_builtin (b := .append) (xs := #[.tmp 17, .tmp 22]) rfl ?_); at_builtin; refine Kd.R_append Kd.string (w0 := w) w.heap.size rfl (.tmp 17) (.tmp 22) 50 9 (.string ⟨#[]⟩) 16 rfl Tryd.underlying50 info9 rfl (by decide) (by omega) u3 a3 (a0.extract (a2 : Int).toNat (a1 : Int).toNat) [.string (a0.extract (a2 : Int).toNat (a1 : Int).toNat)] (fun _ => True) (fun _ => False) rfl rfl ?aP (fun _ hk => hk.elim) ?aF ?aO ?aB ?aS ?aL ?_; (case aP => exact rfl); (case aB => exact (be HB.out)); (case aF => exact (fun _ _ => trivial)); (case aO => exact (kr a5.out)); (case aS => exact (below_size (be HB.out))); (case aL => have := aj.out; omega); intro v110 w12 ho hb hg hat; rw [← ak.out] at ho; refine Ya2 (hb) (ho) ?_; clear HB a5; intro HB al; clear ho hb hg hat))
          go_roundg k1
          case measure => have := HK1.out; omega
          case rel => exact ⟨(ae), (wrap64 (a1 + 1)), (wrap64 (a1 + 1)), Ye1, Ye1, H', ⟨by have := HK1.out; omega⟩, ⟨kr al.out⟩, ⟨be HB.out⟩⟩
         ·rw [if_neg aa] at H
          exact absurd H (by simp)
        ·rw [if_neg c10] at H
         exact absurd H (by simp)
       ·rw [if_neg c9] at H
        exact absurd H (by simp)
      ·rw [if_neg c8] at H
       exact absurd H (by simp)
     ·rw [if_neg c7] at H
      have ah : ((bt a0 a1) == 47) = false := beq_eq_false_iff_ne.mpr c7; have ai : ((bt a0 a1) != 47) = true := bne_iff_ne.mpr c7; have H' := Aside0.mk H; clear H; have p6 : 0 ≤ (a1 : Int) := oda; have q6 : a1 < (a0.size : Int) := oda; have hx6 := bt_at a0 a1; replace p6 := eq_true p6; replace q6 := eq_true q6
      go_wp2
      go_roundg k1
      case measure => have := HK1.out; omega
      case rel => exact ⟨(a3), (a2), (wrap64 (a1 + 1)), Ye1, Ye1, H', ⟨by have := HK1.out; omega⟩, ⟨kr a5.out⟩, ⟨be HB.out⟩⟩
    ·rw [if_neg c5] at H
     exact absurd H (by simp)
   ·rw [if_neg c4] at H
    have ag : decide (a1 < (a0.size : Int)) = false := decide_eq_false c4; clear c4
    by_cases a7 : 0 ≤ a2
    ·rw [if_pos a7] at H
     have c13b0 := eq_true a7; have c13b1 : decide (0 ≤ a2) = true := decide_eq_true a7; clear a7
     by_cases a8 : a2 ≤ (a0.size : Int)
     ·rw [if_pos a8] at H
      have c14b0 := eq_true a8; have c14b1 : decide (a2 ≤ (a0.size : Int)) = true := decide_eq_true a8; clear a8
      by_cases ab : a3.length < 8796093022208
      ·rw [if_pos ab] at H
       have am := Aside0.mk ab; clear ab
       obtain ⟨an, a9⟩ : ∃ y_ : List ByteArray, y_ = (a3 ++ [a0.extract (a2 : Int).toNat a0.size]) := ⟨_, rfl⟩
       replace H : (some an) = some r := by first | (rw [a9]; with_reducible exact H) | (have H2_ := (Option.bind_some _ _).symm.trans H; rw [a9]; with_reducible exact H2_) | (have H2_ := (Option.bind_some _ _).symm.trans H; with_reducible exact H2_) | with_reducible exact H | (rw [a9]; exact H) | exact H
       have ao := Aside0.mk a9; clear a9; obtain rfl := Option.some.inj H
       go_wp2_with (first | ((with_reducible refine gate_builtin (b := .append) (xs := #[.tmp 26, .tmp 30]) rfl ?_); at_builtin; refine Kd.R_append Kd.string (w0 := w) w.heap.size rfl (.tmp 26) (.tmp 30) 50 9 (.string ⟨#[]⟩) 16 rfl Tryd.underlying50 info9 rfl (by decide) (by omega) u3 a3 (a0.extract (a2 : Int).toNat a0.size) [.string (a0.extract (a2 : Int).toNat a0.size)] (fun _ => True) (fun _ => False) rfl rfl ?aP (fun _ hk => hk.elim) ?aF ?aO ?aB ?aS ?aL ?_; (case aP => exact rfl); (case aB => exact (be HB.out)); (case aF => exact (fun _ _ => trivial)); (case aO => exact (kr a5.out)); (case aS => exact (below_size (be HB.out))); (case aL => have := am.out; omega); intro v113 w16 ho hb hg hat; rw [← ao.out] at ho; refine Ya2 (hb) (ho) ?_; clear HB a5; intro HB ap; clear ho hb hg hat))
       go_ret
       exact ⟨_, Ye2, kr ap.out, be HB.out⟩
      ·rw [if_neg ab] at H
       exact absurd H (by simp)
     ·rw [if_neg a8] at H
      exact absurd H (by simp)
    ·rw [if_neg a7] at H
     exact absurd H (by simp)

end Go.Proofs.YtgnmledjkamojaaDoor.P


namespace Go.Proofs.YtgnmledjkamojaaDoor.P
open Go.RowKit Go.Proofs.YtgnmledjkamojaaDoorW.PrintWords Go.Proofs.YtgnmledjkamojaaDoorW.PrintLast Go.Proofs.YtgnmledjkamojaaDoorW.PrintMore
attribute [local go_sem] max2_int min2_int max_two min_two max_three min_three max_four min_four
set_option linter.unusedVariables false
set_option linter.unusedSimpArgs false

/-! ### spec_l4Ok: function 93 -/
def spec_l4Ok.l0 : Nat → Bool → List ByteArray → Int → Option (Bool)
 | 0, _, _, _ => none
 | k + 1, x1, x5, x6 => if x6 < (x5.length : Int) then (if 0 ≤ x6 then ((spec_l4PartOk.f k (rdOf ByteArray.empty x5 x6) x1).bind fun a6 => (if a6 = true then (spec_l4Ok.l0 k x1 x5 (wrap64 (x6 + 1))) else (some false))) else (none)) else (some true)
def spec_l4Ok.f (k : Nat) (a0 : ByteArray) (a1 : Bool) : Option (Bool) := if (a0.size : Int) > 126 then (some false) else ((spec_l4Parts.f k a0).bind fun a2 => (if (a2.length : Int) > 6 then (some false) else (spec_l4Ok.l0 k a1 a2 0)))
theorem spec_l4Ok.mono_l : ∀ k, (∀ y0 y1 y2, LeO (spec_l4Ok.l0 k y0 y1 y2) (spec_l4Ok.l0 (k + 1) y0 y1 y2))
 | 0 => fun _ _ _ r h => by simp [spec_l4Ok.l0] at h
 | k + 1 => by
  have ih0 := spec_l4Ok.mono_l k
  ·intro y0 y1 y2
   unfold spec_l4Ok.l0
   repeat' first
   | (with_reducible exact ih0 _ _ _)
   | (with_reducible exact spec_l4PartOk.mono _ _ _)
   | (with_reducible exact spec_l4Parts.mono _ _)
   | (with_reducible exact LeO.refl _)
   | (with_reducible exact LeO.none _)
   | (with_reducible refine LeO.ite ?_ ?_)
   | (with_reducible refine LeO.bind ?_ (fun _ => ?_))
   | exact ih0 _ _ _
   | exact spec_l4PartOk.mono _ _ _
   | exact spec_l4Parts.mono _ _
   | exact LeO.none _
   | refine LeO.ite ?_ ?_
   | refine LeO.bind ?_ (fun _ => ?_)
theorem spec_l4Ok.mono : ∀ a0 a1 k, LeO (spec_l4Ok.f k a0 a1) (spec_l4Ok.f (k + 1) a0 a1) := by
 intro a0 a1 k; have ih0 := spec_l4Ok.mono_l k
 unfold spec_l4Ok.f
 repeat' first
   | (with_reducible exact ih0 _ _ _)
   | (with_reducible exact spec_l4PartOk.mono _ _ _)
   | (with_reducible exact spec_l4Parts.mono _ _)
   | (with_reducible exact LeO.refl _)
   | (with_reducible exact LeO.none _)
   | (with_reducible refine LeO.ite ?_ ?_)
   | (with_reducible refine LeO.bind ?_ (fun _ => ?_))
   | exact ih0 _ _ _
   | exact spec_l4PartOk.mono _ _ _
   | exact spec_l4Parts.mono _ _
   | exact LeO.none _
   | refine LeO.ite ?_ ?_
   | refine LeO.bind ?_ (fun _ => ?_)
set_option maxHeartbeats 8000000 in
set_option maxRecDepth 100000 in
theorem spec_l4Ok.calls (k : Nat) (a0 : ByteArray) (a1 : Bool) (r : Bool) (w : World) (h : spec_l4Ok.f k a0 a1 = some r) :
  Calls Tryd.prog 93 #[.string a0, .bool a1] w fun e w' => e = .returned (.bool r) ∧ Below w.heap.size w w' := by
 have HB := Aside0.mk (Below.refl w.heap.size w); have H : (if (a0.size : Int) > 126 then (some false) else ((spec_l4Parts.f k a0).bind fun a2 => (if (a2.length : Int) > 6 then (some false) else (spec_l4Ok.l0 k a1 a2 0)))) = some r := h; clear h
 by_cases c3 : (a0.size : Int) > 126
 ·rw [if_pos c3] at H
  have ac : decide (126 < (a0.size : Int)) = true := decide_eq_true c3; have ad : decide (126 < a0.size) = true := decide_eq_true (by omega); clear c3; obtain rfl := Option.some.inj H
  go_enter Tryd.func93, Tryd.ntmps93
  go_wp2
  go_ret
  exact ⟨Ye2, be HB.out⟩
 ·rw [if_neg c3] at H
  have ac : decide (126 < (a0.size : Int)) = false := decide_eq_false c3; have ad : decide (126 < a0.size) = false := decide_eq_false (by omega); clear c3; replace H := Option.bind_eq_some_iff.mp H; obtain ⟨a2, A40, H⟩ := H; replace H : (if (a2.length : Int) > 6 then (some false) else (spec_l4Ok.l0 k a1 a2 0)) = some r := H; have A4 := Aside0.mk A40; clear A40
  by_cases c5 : (a2.length : Int) > 6
  ·rw [if_pos c5] at H
   have ae : decide (6 < (a2.length : Int)) = true := decide_eq_true c5; have af : decide (6 < a2.length) = true := decide_eq_true (by omega); clear c5; obtain rfl := Option.some.inj H
   go_enter Tryd.func93, Tryd.ntmps93
   go_wp2_with (first | ((with_reducible refine gc 87 rfl ?_); refine gl (some 11) _ (#[.string a0]) Tryd.func87 ?_; (with_reducible refine (spec_l4Parts.calls k a0 a2 _ A4.out).mono ?_); rintro e w6 ⟨ah, rfl, ho0, hb⟩; refine ⟨_, rfl, ?_⟩; refine Ya2 (Kd.R_lower ho0 (below_size (be HB.out))) (below_step (be HB.out) hb) ?_; clear HB; intro a7 HB; (try clear hb); (try clear hb2); (try clear hk); (try clear hi); (try clear ho0); obtain ⟨Ao7, co7, eo7⟩ := Kd.R_slice a7.out; subst eo7))
   go_ret
   exact ⟨Ye2, be HB.out⟩
  ·rw [if_neg c5] at H
   have ae : decide (6 < (a2.length : Int)) = false := decide_eq_false c5; have af : decide (6 < a2.length) = false := decide_eq_false (by omega); clear c5; have H' := Aside0.mk H; clear H
   go_enter Tryd.func93, Tryd.ntmps93
   go_wp2_with (first | ((with_reducible refine gc 87 rfl ?_); refine gl (some 11) _ (#[.string a0]) Tryd.func87 ?_; (with_reducible refine (spec_l4Parts.calls k a0 a2 _ A4.out).mono ?_); rintro e w8 ⟨ah, rfl, ho0, hb⟩; refine ⟨_, rfl, ?_⟩; refine Ya2 (Kd.R_lower ho0 (below_size (be HB.out))) (below_step (be HB.out) hb) ?_; clear HB; intro a7 HB; (try clear hb); (try clear hb2); (try clear hk); (try clear hi); (try clear ho0); obtain ⟨Ao9, co9, eo9⟩ := Kd.R_slice a7.out; subst eo9))
   go_loopg [6] k (fun kq v6 w' => ∃ (a3 : Int), v6 = .int .i64 a3 ∧ Aside0 (spec_l4Ok.l0 kq a1 a2 a3 = some r) ∧ Aside0 (kq ≤ k) ∧ Aside0 (Kd.R Kd.string 9 w' w.heap.size (fun _ => True) (.slice Ao9 a2.length co9) a2) ∧ Aside0 (Below w.heap.size w w'))
   case atStart => exact ⟨(0), Ye1, H', ⟨Nat.le_refl _⟩, ⟨kr a7.out⟩, ⟨be HB.out⟩⟩
   case round =>
    clear H'; (try clear p2); (try clear c3); (try clear ac); (try clear ad); (try clear c5); (try clear ae); (try clear af); (try clear c8); (try clear c9); obtain ⟨a3, rfl, HA, HK1, aa, HB⟩ := hrel
    cases gk with
    | zero => exact absurd HA.out (by simp [spec_l4Ok.l0])
    | succ k1 =>
     have H := HA.out; clear HA; simp only [spec_l4Ok.l0] at H
     by_cases c10 : a3 < (a2.length : Int)
     ·rw [if_pos c10] at H
      have ai : decide (a3 < (a2.length : Int)) = true := decide_eq_true c10; clear c10
      by_cases a8 : 0 ≤ a3
      ·rw [if_pos a8] at H
       have c11b0 : decide (0 ≤ a3) = true := decide_eq_true a8; clear a8; replace H := Option.bind_eq_some_iff.mp H; obtain ⟨a6, ag, H⟩ := H; replace H : (if a6 = true then (spec_l4Ok.l0 k1 a1 a2 (wrap64 (a3 + 1))) else (some false)) = some r := H; have A12 := Aside0.mk ag; clear ag
       by_cases a9 : a6 = true
       ·subst a9
        have H1 : (spec_l4Ok.l0 k1 a1 a2 (wrap64 (a3 + 1))) = some r := by rw [if_pos rfl] at H; exact H
        clear H; have H := H1; clear H1; have H' := Aside0.mk H; clear H; have a4 : 0 ≤ (a3 : Int) := oda; have a5 : a3 < (a2.length : Int) := oda; obtain ⟨aj, ab, ak⟩ := Kd.at_string (Kd.R_reads' aa.out).2.2 a3 a4 a5
        cases ab
        replace a4 := eq_true a4; replace a5 := eq_true a5
        go_wp2_with (first | ((with_reducible refine gc 152 rfl ?_); refine gl (some 26) _ (#[.string (rdOf ByteArray.empty a2 a3), .bool a1]) Tryd.func152 ?_; (with_reducible refine (spec_l4PartOk.calls k1 (rdOf ByteArray.empty a2 a3) a1 true _ A12.out).mono ?_); rintro e w' ⟨rfl, ⟨nd, rfl⟩⟩; refine ⟨_, rfl, ?_⟩))
        go_roundg k1
        case measure => have := HK1.out; omega
        case rel => exact ⟨(wrap64 (a3 + 1)), Ye1, H', ⟨by have := HK1.out; omega⟩, ⟨kr aa.out⟩, ⟨be HB.out⟩⟩
       ·replace a9 := Bool.eq_false_iff.mpr a9; subst a9
        have H1 : (some false) = some r := by rw [if_neg (show ¬ (false = true) by decide)] at H; exact H
        clear H; have H := H1; clear H1; obtain rfl := Option.some.inj H; have a4 : 0 ≤ (a3 : Int) := oda; have a5 : a3 < (a2.length : Int) := oda; obtain ⟨aj, ab, ak⟩ := Kd.at_string (Kd.R_reads' aa.out).2.2 a3 a4 a5
        cases ab
        replace a4 := eq_true a4; replace a5 := eq_true a5
        go_wp2_with (first | ((with_reducible refine gc 152 rfl ?_); refine gl (some 26) _ (#[.string (rdOf ByteArray.empty a2 a3), .bool a1]) Tryd.func152 ?_; (with_reducible refine (spec_l4PartOk.calls k1 (rdOf ByteArray.empty a2 a3) a1 false _ A12.out).mono ?_); rintro e w' ⟨rfl, ⟨nd, rfl⟩⟩; refine ⟨_, rfl, ?_⟩))
        go_ret
        exact ⟨Ye2, be HB.out⟩
      ·rw [if_neg a8] at H
       exact absurd H (by simp)
     ·rw [if_neg c10] at H
      have ai : decide (a3 < (a2.length : Int)) = false := decide_eq_false c10; clear c10; obtain rfl := Option.some.inj H
      go_wp2
      go_ret
      exact ⟨Ye2, be HB.out⟩

end Go.Proofs.YtgnmledjkamojaaDoor.P


namespace Go.Proofs.YtgnmledjkamojaaDoor.P
open Go.RowKit Go.Proofs.YtgnmledjkamojaaDoorW.PrintWords Go.Proofs.YtgnmledjkamojaaDoorW.PrintLast Go.Proofs.YtgnmledjkamojaaDoorW.PrintMore
attribute [local go_sem] max2_int min2_int max_two min_two max_three min_three max_four min_four
set_option linter.unusedVariables false
set_option linter.unusedSimpArgs false

/-! ### spec_ValidPath: function 30 -/
def spec_ValidPath.f (k : Nat) (a0 : ByteArray) : Option (Bool) := (spec_l4Ok.f k a0 false).bind fun a1 => (some a1)
theorem spec_ValidPath.mono : ∀ a0 k, LeO (spec_ValidPath.f k a0) (spec_ValidPath.f (k + 1) a0) := by
 intro a0 k
 unfold spec_ValidPath.f
 repeat' first
   | (with_reducible exact spec_l4Ok.mono _ _ _)
   | (with_reducible exact LeO.refl _)
   | (with_reducible exact LeO.none _)
   | (with_reducible refine LeO.ite ?_ ?_)
   | (with_reducible refine LeO.bind ?_ (fun _ => ?_))
   | exact spec_l4Ok.mono _ _ _
   | exact LeO.none _
   | refine LeO.ite ?_ ?_
   | refine LeO.bind ?_ (fun _ => ?_)
set_option maxHeartbeats 8000000 in
set_option maxRecDepth 100000 in
theorem spec_ValidPath.calls (k : Nat) (a0 : ByteArray) (r : Bool) (w : World) (h : spec_ValidPath.f k a0 = some r) :
  Calls Tryd.prog 30 #[.string a0] w fun e w' => e = .returned (.bool r) ∧ Below w.heap.size w w' := by
 have HB := Aside0.mk (Below.refl w.heap.size w); have H : ((spec_l4Ok.f k a0 false).bind fun a1 => (some a1)) = some r := h; clear h; replace H := Option.bind_eq_some_iff.mp H; obtain ⟨a1, A20, H⟩ := H; replace H : (some a1) = some r := H; have A2 := Aside0.mk A20; clear A20; obtain rfl := Option.some.inj H
 go_enter Tryd.func30, Tryd.ntmps30
 go_wp2_with (first | ((with_reducible refine gc 93 rfl ?_); refine gl (some 4) _ (#[.string a0, .bool false]) Tryd.func93 ?_; (with_reducible refine (spec_l4Ok.calls k a0 false a1 _ A2.out).mono ?_); rintro e w3 ⟨rfl, hb⟩; refine ⟨_, rfl, ?_⟩; refine Ya1 (below_step (be HB.out) hb) ?_; clear HB; intro HB; (try clear hb); (try clear hb2); (try clear hk); (try clear hi)))
 go_ret
 exact ⟨Ye2, be HB.out⟩

end Go.Proofs.YtgnmledjkamojaaDoor.P

