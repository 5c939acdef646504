/- Several texts of this claim in one file: YtknagppkeodggaaDoorPImplChange, YtknagppkeodggaaDoorPImplFiles, YtknagppkeodggaaDoorPImplFile, YtknagppkeodggaaDoorPImplTree, YtknagppkeodggaaDoorPImplGoodFile, YtknagppkeodggaaDoorPImplIn, YtknagppkeodggaaDoorPImplGoodPart, YtknagppkeodggaaDoorPStringsSplit, YtknagppkeodggaaDoorPImplParts, YtknagppkeodggaaDoorPImplValidPath, YtknagppkeodggaaDoorPImplValidPatch, YtknagppkeodggaaDoorPLawsMarkText, YtknagppkeodggaaDoorPLawsHeldChangeS, YtknagppkeodggaaDoorPLawsHeldPatch, YtknagppkeodggaaDoorPLawsMarkChangeS, YtknagppkeodggaaDoorPLawsMarkPatch, YtknagppkeodggaaDoorPLawsFile. -/
import Derived.Test.YtknagppkeodggaaDoorM2
import Derived.Test.YtknagppkeodggaaDoorM3
import Derived.Shelf.Sort.Plain
import Derived.Shelf.Slices.In.SortNone2
import Derived.Sort.OwnSorted
import Derived.Lib.SplitLaws
namespace Go.Proofs.YtknagppkeodggaaDoor.P
open Go.RowKit Go.Proofs.YtknagppkeodggaaDoorW.PrintWords Go.Proofs.YtknagppkeodggaaDoorW.PrintLast Go.Proofs.YtknagppkeodggaaDoorW.PrintMore
attribute [local go_sem] max2_int min2_int max_two min_two max_three min_three max_four min_four
set_option linter.unusedVariables false
set_option linter.unusedSimpArgs false

/-! ### impl_Change: function 93 -/
/- Walked by hand (written by wip/tools/mkkeys.py). -/
open Go.Proofs.YtknagppkeodggaaDoor.Pure
set_option maxHeartbeats 4000000 in
set_option maxRecDepth 100000 in
theorem keysChange_calls {α : Type} (enc : α → Value) (Ms : List (Nat × List (ByteArray × α))) (ad : Addr) (c : Nat) (w : World) (hc : ∀ i, (h : i < Ms.length) → w.cell? (ad.add i) = some (.map (some Ms[i].1))) (hM : ∀ i, (h : i < Ms.length) → MapAt enc w Ms[i].1 Ms[i].2) (hn : Ms.length ≤ 1000) (hl : sizeK Ms ≤ 1000000) :
  Calls Tryd.prog 93 #[.slice (some ad) Ms.length c] w fun e w' => ∃ v, e = .returned v ∧ Kd.R Kd.string 9 w' w.heap.size (fun _ => True) v (keysS (allK Ms)) ∧ Below w.heap.size w w' := by
 have HC := Aside0.mk hc
 have HMM := Aside0.mk hM
 have HL := Aside0.mk hl
 have HN := Aside0.mk hn
 have HB := Aside0.mk (Below.refl w.heap.size w)
 clear hc hM hl hn
 go_enter Tryd.func93, Tryd.ntmps93
 go_wp2_with ((with_reducible refine gd 9 rfl ?_); refine wpList_make_M Value.bool _ rfl _ rfl ?_; intro bs w2 hg hM hb; refine Ya3 hM (below_step (be HB.out) hb) (bs_ hg (be HB.out)) ?_; clear HB; intro HS HB GS; clear hM hb hg)
 go_loopg [12] (Ms.length) (fun kq v12 w' => ∃ (i : Nat) (S : List (ByteArray × Bool)), v12 = .int .i64 (i : Int) ∧ Aside0 (kq + i = Ms.length) ∧ Aside0 (MapAt Value.bool w' bs S) ∧ Aside0 (∀ x, x ∈ S.map (·.1) ↔ x ∈ allK (Ms.take i)) ∧ Aside0 (S.length ≤ sizeK (Ms.take i)) ∧ Aside0 (Below w.heap.size w w'))
 case atStart => exact ⟨0, [], rfl, ⟨by omega⟩, HS, ⟨fun x => by simp [allK]⟩, ⟨by simp⟩, HB⟩
 case round =>
  clear HS HB
  obtain ⟨i, S, rfl, HK, HS, HV, HZ, HB⟩ := hrel
  have hik := HK.out
  by_cases hi : i < Ms.length
  ·obtain ⟨go, rfl⟩ : ∃ g, gk = g + 1 := ⟨gk - 1, by omega⟩
   have c1 : decide ((i : Int) < (Ms.length : Int)) = true := decide_eq_true (by omega)
   have c2 : decide (0 ≤ (i : Int)) = true := decide_eq_true (by omega)
   have c3 : decide (i < Ms.length) = true := decide_eq_true hi
   have hx1 : wr.cell? (ad.add i) = some (.map (some Ms[i].1)) := (HB.out.cell (World.block_lt_of_cell? w _ (HC.out i hi))).trans (HC.out i hi)
   have HMi := Aside0.mk ((HMM.out i hi).below HB.out (HMM.out i hi).lt)
   have HLo := Aside0.mk (HMM.out i hi).lt
   have HT := Aside0.mk (take_more Ms i hi)
   generalize Ms[i] = bM at hx1 HMi HT HLo
   obtain ⟨bm, M⟩ := bM
   have HSL := Aside0.mk HS.out.lt
   go_wp2_with (at_range; refine wpList_range_M (enc := enc) _ rfl _ 124 rfl 9 120 Tryd.underlying124 bm M rfl HMi.out ?_; intro r w3 hr hR hg; have hrs := below_size HB.out; refine Ya5 hR (HS.out.kept hg (by simp)) (below_none HB.out hg) (show w.heap.size ≤ r from by omega) (show r ≠ bs ∧ bm ≠ bs from by have := HSL.out; have := GS.out; have := HLo.out; exact ⟨by omega, by simp only at this; omega⟩) ?_; have HS0 := Aside0.mk HZ.out; clear HS HB; intro HR HS HB GR NE; clear hR hr hg hrs)
   (try go_frame)
   go_loopg [6] (M.length) (fun kq v6 w' => ∃ (L : List (ByteArray × α)) (S' : List (ByteArray × Bool)), Aside0 (kq = L.length) ∧ Aside0 (RngAt enc w' bm r M L) ∧ Aside0 (MapAt Value.bool w' bs S') ∧ Aside0 (∀ x, x ∈ S'.map (·.1) ↔ x ∈ S.map (·.1) ∨ (x ∈ M.map (·.1) ∧ x ∉ L.map (·.1))) ∧ Aside0 (S'.length + L.length ≤ S.length + M.length) ∧ Aside0 (Below w.heap.size w w'))
   case atStart => exact ⟨M, S, ⟨rfl⟩, HR, HS, ⟨fun x => ⟨fun h => .inl h, fun h => h.elim id (fun h => absurd h.1 h.2)⟩⟩, ⟨Nat.le_refl _⟩, HB⟩
   case round =>
    clear HR HS HB hx1
    obtain ⟨L, S', HK2, HR, HS2, HV2, HZ2, HB⟩ := hrel
    go_wp2_with (at_next; refine wpList_next_M (enc := enc) _ rfl _ rfl bm r M L rfl HR.out ?_ ?_)
    ·intro hL0
     subst hL0
     go_wp2
     go_roundg go
     case measure => omega
     case rel => exact ⟨i + 1, S', by rw [show wrap64 ((i : Int) + 1) = ((i + 1 : Nat) : Int) from by have := HN.out; unfold wrap64; omega], ⟨by omega⟩, HS2, ⟨fun x => by
      rw [HV2.out x, HV.out x, HT.out.1]
      simp⟩, ⟨by have := HZ2.out; have := HZ.out; have := HT.out.2; simp only [List.length_nil] at *; omega⟩, HB⟩
    ·intro w5 cm
     obtain ⟨L1, pk, px, L2, hL, hR2, hg2, hen⟩ := cm
     dsimp only
     subst hL
     have HG2 := Aside0.mk hg2
     have HR2 := Aside0.mk hR2
     have HKK := Aside0.mk (show pk ∈ M.map (·.1) ∧ pk ∉ (L1 ++ L2).map (·.1) from by
      have hk := HR.out.keys
      refine ⟨hk.subset (by simp), ?_⟩
      have hnd := (hk.nodup HR.out.map.nodup)
      simp only [List.map_append, List.map_cons] at hnd ⊢
      exact nodup_mid hnd)
     clear hg2 hR2
     go_wp2_with (at_mapUpdate; refine wpList_store_M (enc := Value.bool) _ rfl _ _ _ 186 rfl 9 4 Tryd.underlying186 Tryd.underlying9 bs S' rfl (HS2.out.kept HG2.out (ne_some (Ne.symm NE.out.1))) pk rfl true rfl ?_; intro w6 hS3 hg3 hs3; have HS3 := Aside0.mk hS3; have HG3 := Aside0.mk hg3; clear hS3 hg3 hs3)
     go_roundg (gk - 1)
     case measure => have := HK2.out; simp only [List.length_append, List.length_cons] at this; omega
     case rel => exact ⟨L1 ++ L2, _, ⟨by have := HK2.out; simp only [List.length_append, List.length_cons] at this ⊢; omega⟩, ⟨HR2.out.kept HG3.out (ne_some NE.out.2) (ne_some NE.out.1)⟩, HS3, ⟨fun x => by
      rw [mput_map, HV2.out x]
      exact collect_step (p := (pk, px)) HKK.out.1 HKK.out.2 x⟩, ⟨by have := HZ2.out; have := mput_len pk true S'; simp only [List.length_append, List.length_cons] at *; omega⟩, ⟨below_own (below_own HB.out HG2.out GR.out) HG3.out GS.out⟩⟩
  ·have c1 : decide ((i : Int) < (Ms.length : Int)) = false := decide_eq_false (by omega)
   have c3 : decide (i < Ms.length) = false := decide_eq_false hi
   obtain rfl : i = Ms.length := by omega
   have HV' := Aside0.mk HV.out
   rw [List.take_length] at HV'
   have HZ' := Aside0.mk HZ.out
   rw [List.take_length] at HZ'
   clear HV HZ
   have HSL := Aside0.mk HS.out.lt
   go_wp2_with (at_range; refine wpList_range_M (enc := Value.bool) _ rfl _ 186 rfl 9 4 Tryd.underlying186 bs S rfl HS.out ?_; intro r w3 hr hR hg; have hrs := below_size HB.out; refine Ya4 hR (below_none HB.out hg) (show w.heap.size ≤ r from by omega) (show bs ≠ r from by have := HSL.out; omega) ?_; clear HS HB; intro HR HB GR NE; clear hR hr hg hrs)
   (try go_frame)
   go_loopg [7] (S.length) (fun kq v7 w' => ∃ (L : List (ByteArray × Bool)) (out : List ByteArray) (vo : Value), vo = v7 ∧ Aside0 (kq = L.length) ∧ Aside0 (RngAt Value.bool w' bs r S L) ∧ Aside0 (Kd.R Kd.string 9 w' w.heap.size (fun k => k ≠ bs ∧ k ≠ r) vo out) ∧ Aside0 ((out ++ L.map (·.1)).Perm (S.map (·.1))) ∧ Aside0 (Below w.heap.size w w'))
   case atStart => exact ⟨S, [], _, rfl, ⟨rfl⟩, HR, ⟨Kd.R_nil _ _ _ _ _⟩, ⟨by rw [List.nil_append]⟩, HB⟩
   case round =>
    clear HR HB
    obtain ⟨L, out, vo, rfl, HK2, HR, HO, HP, HB⟩ := hrel
    have HOL := Aside0.mk (show out.length + L.length = S.length from by have := HP.out.length_eq; simpa using this)
    go_wp2_with (at_next; refine wpList_next_M (enc := Value.bool) _ rfl _ rfl bs r S L rfl HR.out ?_ ?_)
    ·intro hL0
     subst hL0
     have HPP := Aside0.mk (show out.Perm (S.map (·.1)) from by have := HP.out; simpa using this)
     have HND := Aside0.mk (HPP.out.nodup_iff.2 HR.out.map.nodup)
     have HXX := Aside0.mk (sorted_keys out (allK Ms) HND.out (fun x => (HPP.out.mem_iff).trans (HV'.out x)))
     have HLL := Aside0.mk (show out.length ≤ 1000000 from by have := HOL.out; have := HZ'.out; have := HL.out; simp only [List.length_nil] at *; omega)
     clear HP HPP HND HOL HK2
     obtain ⟨A, cp, hv⟩ := Kd.R_slice HO.out
     by_cases h0 : out.length = 0
     ·have hk0 : keysS (allK Ms) = [] := by
       have := HXX.out
       rw [List.length_eq_zero_iff.1 h0] at this
       simpa using this.symm
      have HO' := Aside0.mk (show Kd.R Kd.string 9 wr w.heap.size (fun _ => True) vo (keysS (allK Ms)) from by rw [hk0, ← List.length_eq_zero_iff.1 h0]; exact Kd.R_mono HO.out (fun _ _ => trivial))
      have HV0 := Aside0.mk hv
      rw [h0] at hv
      subst hv
      have hs : ∀ W, Calls Tryd.prog 154 #[.slice A 0 cp] W fun e w' => e = .returned (.tuple #[]) ∧ w' = W := fun W => Tryd.sort_Strings_none A cp W
      clear hk0 h0 HV0
      have HSN := Aside0.mk hs
      clear hs
      go_wp2_with (go_at_call 154; (with_reducible refine (HSN.out _).mono ?_); rintro e w' ⟨rfl, rfl⟩)
      go_ret
      exact ⟨_, rfl, HO'.out, HB.out⟩
     ·obtain ⟨g, cap, hv2, hbase, hlt, cells, hcell⟩ := Kd.R_form HO.out (by omega)
      have hown := strs_opened HO.out
      rcases hown.2 with ⟨hnil, hnl⟩ | ⟨g', cap', cur, hv3, hb1, hb2, hb3, hb4, hb5, hb6⟩
      ·exact absurd hnl h0
      rw [hv3] at hv2
      injection hv2 with ha _ hcp
      injection ha with ha
      injection ha with ha
      subst ha
      subst hcp
      have hH : Go.Sort.Holds Go.Proofs.encStr wr g' 0 (out.map fun k => k.data.toList).toArray := holds_of_block hb2 (by
       rw [List.length_map, List.map_map]
       rw [Nat.mul_one] at hb6
       rw [hb6]
       exact List.map_congr_left (fun k _ => by simp))
      have hz : (out.map fun k => k.data.toList).length < 4611686018427387904 := Nat.lt_of_le_of_lt (Nat.le_of_eq (List.length_map _)) (Nat.lt_of_le_of_lt HLL.out (by decide))
      have hgb := blk_lt hb2
      have hso := Tryd.sort_Strings g' 0 cap' (out.map fun k => k.data.toList) wr hH hgb hz
      rw [HXX.out, List.length_map] at hso
      have hlen : (keysS (allK Ms)).length = out.length := by
       have := congrArg List.length HXX.out
       simpa using this.symm
      have HFIN := Aside0.mk (fun (nn : Nat) (os : Array Obj) => strs_closed (w := wr) (n := nn) (os := os) (l := out) (ks := keysS (allK Ms)) hlen hb1 hb2 hb3 hb4 (by omega))
      have HSO := Aside0.mk hso
      have HGB := Aside0.mk hb1
      subst hv3
      clear hz hgb
      clear hv hso hH hlen hb1 hb2 hb3 hb4 hb5 hb6 hown hcell hlt hbase h0
      go_wp2_with (go_at_call 154; (with_reducible refine HSO.out.mono ?_); rintro e w' ⟨rfl, nn, os, rfl⟩)
      go_ret
      exact ⟨_, rfl, (HFIN.out nn os).1, pw_below_grown HB.out _ HB.out.size (HFIN.out nn os).2 (fun k e => by cases e; exact HGB.out)⟩
    ·intro w5 cm
     obtain ⟨L1, pk, px, L2, hL, hR2, hg2, hen⟩ := cm
     dsimp only
     subst hL
     have HB2 := Aside0.mk (below_own HB.out hg2 GR.out)
     have HO2 := Aside0.mk (Kd.R_grown HO.out hg2 (fun k hk e => hk.2 (Option.some.inj e)))
     have HR2 := Aside0.mk hR2
     have HLB := Aside0.mk (show bs < w5.heap.size ∧ r < w5.heap.size from ⟨hR2.map.lt, hR2.lt⟩)
     have HOZ := Aside0.mk (show (out.length + 1) * 16 ≤ 140737488355328 from by have := HOL.out; have := HZ'.out; have := HL.out; simp only [List.length_append, List.length_cons] at *; omega)
     clear hg2 hR2
     go_wp2_with (first | ((with_reducible refine gate_builtin (b := .append) (xs := #[.tmp 31, .tmp 33]) rfl ?_); at_builtin; refine Kd.R_append Kd.string (w0 := w) w.heap.size rfl (.tmp 31) (.tmp 33) 42 9 (.string ⟨#[]⟩) 16 rfl Tryd.underlying42 info9 rfl (by decide) (by omega) vo out pk [.string pk] (fun k => k ≠ bs ∧ k ≠ r) (fun _ => False) rfl rfl rfl (fun _ hk => hk.elim) (fun k hk => by have := HLB.out; constructor <;> omega) HO2.out HB2.out (below_size HB2.out) HOZ.out ?_; intro v1 w6 ho hb hg hat; have HO3 := Aside0.mk ho; have HB3 := Aside0.mk hb; have HR3 := Aside0.mk (HR2.out.kept hg (fun e => (HO2.out.1 _ e.symm).1 rfl) (fun e => (HO2.out.1 _ e.symm).2 rfl)); clear ho hb hg hat))
     go_roundg (gk - 1)
     case measure => have := HK2.out; simp only [List.length_append, List.length_cons] at this; omega
     case rel => exact ⟨L1 ++ L2, out ++ [pk], _, rfl, ⟨by have := HK2.out; simp only [List.length_append, List.length_cons] at this ⊢; omega⟩, HR3, HO3, ⟨by
      refine List.Perm.trans ?_ HP.out
      simp only [List.map_append, List.map_cons, List.append_assoc, List.singleton_append]
      exact List.Perm.append_left out List.perm_middle.symm⟩, HB3⟩


end Go.Proofs.YtknagppkeodggaaDoor.P


namespace Go.Proofs.YtknagppkeodggaaDoor.P
open Go.RowKit Go.Proofs.YtknagppkeodggaaDoorW.PrintWords Go.Proofs.YtknagppkeodggaaDoorW.PrintLast Go.Proofs.YtknagppkeodggaaDoorW.PrintMore
attribute [local go_sem] max2_int min2_int max_two min_two max_three min_three max_four min_four
set_option linter.unusedVariables false
set_option linter.unusedSimpArgs false

/-! ### impl_files: function 102 -/
/- Walked by hand. -/
/-- What lies under a path: is it there, its text, does it run. -/
abbrev FileT := Bool × ByteArray × Bool
def encF (x : FileT) : Value := .agg #[.bool x.1, .string x.2.1, .bool x.2.2]
def noF : FileT := (false, ByteArray.empty, false)
def fileE (e : S27) : FileT := (true, e.f1, e.f2)
def filesFrom (M : List (ByteArray × FileT)) (l : List S27) : List (ByteArray × FileT) := l.foldl (fun M e => mput e.f0 (fileE e) M) M
def filesM (l : List S27) : List (ByteArray × FileT) := filesFrom [] l
def sameF (x y : FileT) : Bool := x.1 == y.1 && (x.2.1.toList == y.2.1.toList && (x.2.2 == y.2.2))
theorem filesFrom_len : ∀ (l : List S27) (M : List (ByteArray × FileT)), (filesFrom M l).length ≤ M.length + l.length
 | [], M => Nat.le_refl _
 | e :: r, M => by
  have h1 := filesFrom_len r (mput e.f0 (fileE e) M)
  have h2 := mput_len e.f0 (fileE e) M
  show (filesFrom (mput e.f0 (fileE e) M) r).length ≤ M.length + (r.length + 1)
  omega
theorem filesM_len (l : List S27) : (filesM l).length ≤ l.length := by
 have := filesFrom_len l []
 simpa [filesM] using this
theorem encF_zero (w : World) : (zeroValue 118).run Tryd.prog w = .ok (encF noF) w := by
 unfold encF noF
 kernel_rfl
set_option maxHeartbeats 2000000 in
set_option maxRecDepth 100000 in
theorem impl_files.calls (A0 : Option Addr) (c0 : Nat) (l0 : List S27) (w : World) (hr0 : Kd.C k27 w A0 l0.length l0) (hl : l0.length ≤ 1000000) :
  Calls Tryd.prog 102 #[.agg #[.slice A0 l0.length c0]] w fun e w' => ∃ b, e = .returned (.map (some b)) ∧ w.heap.size ≤ b ∧ MapAt encF w' b (filesM l0) ∧ Below w.heap.size w w' := by
 have hu28 := Tryd.underlying25
 have hu37 := Tryd.underlying27
 have HR := Aside0.mk hr0
 have HL := Aside0.mk hl
 have HB := Aside0.mk (Below.refl w.heap.size w)
 clear hr0 hl
 go_enter Tryd.func102, Tryd.ntmps102
 go_wp2_with (first | ((with_reducible refine gd 1 rfl ?_); refine bx 1 25 (#[.slice A0 l0.length c0]) ?_; intro b1 hg w1 hbox hb; refine Ya3 hbox (below_step (be HB.out) hb) (bs hg (be HB.out)) ?_; clear HB; intro B1 HB G1; clear hb hbox hg; have ⟨hcz1, hfz1⟩ := Yc1 B1.out) | ((with_reducible refine gd 6 rfl ?_); go_loud (refine wpList_make_M encF _ rfl _ rfl ?_); intro bm w2 hg hM hb; refine Ya4 hM (below_step (be HB.out) hb) (bs hg (be HB.out)) (bb B1 hb) ?_; clear HB B1; intro HM HB GM B1; clear hM hb hg hcz1 hfz1; have ⟨hcz1, hfz1⟩ := Yc1 B1.out))
 go_loopg [10] (l0.length) (fun kq v10 w' => ∃ (i : Nat) (M : List (ByteArray × FileT)), v10 = .int .i64 (i : Int) ∧ Aside0 (filesFrom M (l0.drop i) = filesM l0) ∧ Aside0 (kq + i = l0.length) ∧ Aside0 (MapAt encF w' bm M) ∧ Aside0 (Below w.heap.size w w'))
 case atStart => exact ⟨0, [], rfl, ⟨by rw [List.drop_zero]; rfl⟩, ⟨by omega⟩, HM, HB⟩
 case round =>
  clear HM HB B1 hcz1 hfz1
  obtain ⟨i, M, rfl, HA, HK, HM, HB⟩ := hrel
  have H := HA.out
  have hik := HK.out
  clear HA
  by_cases hi : i < l0.length
  ·have c1 : decide ((i : Int) < (l0.length : Int)) = true := decide_eq_true (by omega)
   have c2 : decide (0 ≤ (i : Int)) = true := decide_eq_true (by omega)
   have c3 : decide (i < l0.length) = true := decide_eq_true hi
   rw [List.drop_eq_getElem_cons hi] at H
   obtain ⟨ad, e1, hx0⟩ := at_T27 (Kd.C_below HR.out HB.out) (i : Int) (by omega) (by omega)
   subst e1
   obtain ⟨hx1, hx2, hx3⟩ := hx0
   have er : rd_T27 l0 (i : Int) = l0[i] := by
    unfold rd_T27
    rw [Int.toNat_natCast, List.getD_eq_getElem?_getD, List.getElem?_eq_getElem hi]
    rfl
   rw [er] at hx1 hx2 hx3
   rw [Int.toNat_natCast] at hx1 hx2 hx3
   clear er
   generalize l0[i] = en at H hx1 hx2 hx3
   have H' := Aside0.mk H
   clear H
   have HLT := Aside0.mk HM.out.lt
   go_wp2_with (first | ((with_reducible refine gd 5 rfl ?_); refine bx 5 27 (#[.string ByteArray.empty, .string ByteArray.empty, .bool false]) ?_; intro b5 hg w3 hbox hb; refine Ya4 hbox (below_step (be HB.out) hb) (bs hg (be HB.out)) (HM.out.below hb HM.out.lt) ?_; have HN := Aside0.mk (show bm ≠ b5 from by have := HLT.out; omega); clear HB HM; intro B5 HB G5 HM; clear hb hbox hg; have ⟨hcz1, hcz2, hcz3, hfz1, hfz2, hfz3⟩ := Yc3 B5.out) | (at_mapUpdate; go_loud (refine wpList_store_M (enc := encF) _ rfl _ _ _ 131 rfl 9 118 Tryd.underlying131 Tryd.underlying9 bm M rfl (HM.out.kept (set3 B5.out rfl).2.1 (ne_some HN.out)) en.f0 rfl (fileE en) rfl ?_); intro w5 hM2 hg2 hs2; have HM2 := Aside0.mk hM2; have HB2 := Aside0.mk (below_own (below_own HB.out (set3 B5.out rfl).2.1 G5.out) hg2 GM.out); clear HM HB hM2 hg2 hs2))
   go_roundg (gk - 1)
   case measure => omega
   case rel => exact ⟨i + 1, _, by rw [show wrap64 ((i : Int) + 1) = ((i + 1 : Nat) : Int) from by have := HL.out; unfold wrap64; omega], H', ⟨by omega⟩, HM2, HB2⟩
  ·have c1 : decide ((i : Int) < (l0.length : Int)) = false := decide_eq_false (by omega)
   have c3 : decide (i < l0.length) = false := decide_eq_false hi
   rw [List.drop_of_length_le (by omega)] at H
   go_wp2
   go_ret
   exact ⟨bm, rfl, GM.out, by rw [← H]; exact HM.out, HB.out⟩


end Go.Proofs.YtknagppkeodggaaDoor.P


namespace Go.Proofs.YtknagppkeodggaaDoor.P
open Go.RowKit Go.Proofs.YtknagppkeodggaaDoorW.PrintWords Go.Proofs.YtknagppkeodggaaDoorW.PrintLast Go.Proofs.YtknagppkeodggaaDoorW.PrintMore
attribute [local go_sem] max2_int min2_int max_two min_two max_three min_three max_four min_four
set_option linter.unusedVariables false
set_option linter.unusedSimpArgs false

/-! ### impl_File: function 103 -/
/- Walked by hand (written by wip/tools/mkkeys.py). -/
open Go.Proofs.YtknagppkeodggaaDoor.Pure
set_option maxHeartbeats 4000000 in
set_option maxRecDepth 100000 in
theorem keysFile_calls {α : Type} (enc : α → Value) (Ms : List (Nat × List (ByteArray × α))) (ad : Addr) (c : Nat) (w : World) (hc : ∀ i, (h : i < Ms.length) → w.cell? (ad.add i) = some (.map (some Ms[i].1))) (hM : ∀ i, (h : i < Ms.length) → MapAt enc w Ms[i].1 Ms[i].2) (hn : Ms.length ≤ 1000) (hl : sizeK Ms ≤ 1000000) :
  Calls Tryd.prog 103 #[.slice (some ad) Ms.length c] w fun e w' => ∃ v, e = .returned v ∧ Kd.R Kd.string 9 w' w.heap.size (fun _ => True) v (keysS (allK Ms)) ∧ Below w.heap.size w w' := by
 have HC := Aside0.mk hc
 have HMM := Aside0.mk hM
 have HL := Aside0.mk hl
 have HN := Aside0.mk hn
 have HB := Aside0.mk (Below.refl w.heap.size w)
 clear hc hM hl hn
 go_enter Tryd.func103, Tryd.ntmps103
 go_wp2_with ((with_reducible refine gd 9 rfl ?_); refine wpList_make_M Value.bool _ rfl _ rfl ?_; intro bs w2 hg hM hb; refine Ya3 hM (below_step (be HB.out) hb) (bs_ hg (be HB.out)) ?_; clear HB; intro HS HB GS; clear hM hb hg)
 go_loopg [12] (Ms.length) (fun kq v12 w' => ∃ (i : Nat) (S : List (ByteArray × Bool)), v12 = .int .i64 (i : Int) ∧ Aside0 (kq + i = Ms.length) ∧ Aside0 (MapAt Value.bool w' bs S) ∧ Aside0 (∀ x, x ∈ S.map (·.1) ↔ x ∈ allK (Ms.take i)) ∧ Aside0 (S.length ≤ sizeK (Ms.take i)) ∧ Aside0 (Below w.heap.size w w'))
 case atStart => exact ⟨0, [], rfl, ⟨by omega⟩, HS, ⟨fun x => by simp [allK]⟩, ⟨by simp⟩, HB⟩
 case round =>
  clear HS HB
  obtain ⟨i, S, rfl, HK, HS, HV, HZ, HB⟩ := hrel
  have hik := HK.out
  by_cases hi : i < Ms.length
  ·obtain ⟨go, rfl⟩ : ∃ g, gk = g + 1 := ⟨gk - 1, by omega⟩
   have c1 : decide ((i : Int) < (Ms.length : Int)) = true := decide_eq_true (by omega)
   have c2 : decide (0 ≤ (i : Int)) = true := decide_eq_true (by omega)
   have c3 : decide (i < Ms.length) = true := decide_eq_true hi
   have hx1 : wr.cell? (ad.add i) = some (.map (some Ms[i].1)) := (HB.out.cell (World.block_lt_of_cell? w _ (HC.out i hi))).trans (HC.out i hi)
   have HMi := Aside0.mk ((HMM.out i hi).below HB.out (HMM.out i hi).lt)
   have HLo := Aside0.mk (HMM.out i hi).lt
   have HT := Aside0.mk (take_more Ms i hi)
   generalize Ms[i] = bM at hx1 HMi HT HLo
   obtain ⟨bm, M⟩ := bM
   have HSL := Aside0.mk HS.out.lt
   go_wp2_with (at_range; refine wpList_range_M (enc := enc) _ rfl _ 131 rfl 9 118 Tryd.underlying131 bm M rfl HMi.out ?_; intro r w3 hr hR hg; have hrs := below_size HB.out; refine Ya5 hR (HS.out.kept hg (by simp)) (below_none HB.out hg) (show w.heap.size ≤ r from by omega) (show r ≠ bs ∧ bm ≠ bs from by have := HSL.out; have := GS.out; have := HLo.out; exact ⟨by omega, by simp only at this; omega⟩) ?_; have HS0 := Aside0.mk HZ.out; clear HS HB; intro HR HS HB GR NE; clear hR hr hg hrs)
   (try go_frame)
   go_loopg [6] (M.length) (fun kq v6 w' => ∃ (L : List (ByteArray × α)) (S' : List (ByteArray × Bool)), Aside0 (kq = L.length) ∧ Aside0 (RngAt enc w' bm r M L) ∧ Aside0 (MapAt Value.bool w' bs S') ∧ Aside0 (∀ x, x ∈ S'.map (·.1) ↔ x ∈ S.map (·.1) ∨ (x ∈ M.map (·.1) ∧ x ∉ L.map (·.1))) ∧ Aside0 (S'.length + L.length ≤ S.length + M.length) ∧ Aside0 (Below w.heap.size w w'))
   case atStart => exact ⟨M, S, ⟨rfl⟩, HR, HS, ⟨fun x => ⟨fun h => .inl h, fun h => h.elim id (fun h => absurd h.1 h.2)⟩⟩, ⟨Nat.le_refl _⟩, HB⟩
   case round =>
    clear HR HS HB hx1
    obtain ⟨L, S', HK2, HR, HS2, HV2, HZ2, HB⟩ := hrel
    go_wp2_with (at_next; refine wpList_next_M (enc := enc) _ rfl _ rfl bm r M L rfl HR.out ?_ ?_)
    ·intro hL0
     subst hL0
     go_wp2
     go_roundg go
     case measure => omega
     case rel => exact ⟨i + 1, S', by rw [show wrap64 ((i : Int) + 1) = ((i + 1 : Nat) : Int) from by have := HN.out; unfold wrap64; omega], ⟨by omega⟩, HS2, ⟨fun x => by
      rw [HV2.out x, HV.out x, HT.out.1]
      simp⟩, ⟨by have := HZ2.out; have := HZ.out; have := HT.out.2; simp only [List.length_nil] at *; omega⟩, HB⟩
    ·intro w5 cm
     obtain ⟨L1, pk, px, L2, hL, hR2, hg2, hen⟩ := cm
     dsimp only
     subst hL
     have HG2 := Aside0.mk hg2
     have HR2 := Aside0.mk hR2
     have HKK := Aside0.mk (show pk ∈ M.map (·.1) ∧ pk ∉ (L1 ++ L2).map (·.1) from by
      have hk := HR.out.keys
      refine ⟨hk.subset (by simp), ?_⟩
      have hnd := (hk.nodup HR.out.map.nodup)
      simp only [List.map_append, List.map_cons] at hnd ⊢
      exact nodup_mid hnd)
     clear hg2 hR2
     go_wp2_with (at_mapUpdate; refine wpList_store_M (enc := Value.bool) _ rfl _ _ _ 186 rfl 9 4 Tryd.underlying186 Tryd.underlying9 bs S' rfl (HS2.out.kept HG2.out (ne_some (Ne.symm NE.out.1))) pk rfl true rfl ?_; intro w6 hS3 hg3 hs3; have HS3 := Aside0.mk hS3; have HG3 := Aside0.mk hg3; clear hS3 hg3 hs3)
     go_roundg (gk - 1)
     case measure => have := HK2.out; simp only [List.length_append, List.length_cons] at this; omega
     case rel => exact ⟨L1 ++ L2, _, ⟨by have := HK2.out; simp only [List.length_append, List.length_cons] at this ⊢; omega⟩, ⟨HR2.out.kept HG3.out (ne_some NE.out.2) (ne_some NE.out.1)⟩, HS3, ⟨fun x => by
      rw [mput_map, HV2.out x]
      exact collect_step (p := (pk, px)) HKK.out.1 HKK.out.2 x⟩, ⟨by have := HZ2.out; have := mput_len pk true S'; simp only [List.length_append, List.length_cons] at *; omega⟩, ⟨below_own (below_own HB.out HG2.out GR.out) HG3.out GS.out⟩⟩
  ·have c1 : decide ((i : Int) < (Ms.length : Int)) = false := decide_eq_false (by omega)
   have c3 : decide (i < Ms.length) = false := decide_eq_false hi
   obtain rfl : i = Ms.length := by omega
   have HV' := Aside0.mk HV.out
   rw [List.take_length] at HV'
   have HZ' := Aside0.mk HZ.out
   rw [List.take_length] at HZ'
   clear HV HZ
   have HSL := Aside0.mk HS.out.lt
   go_wp2_with (at_range; refine wpList_range_M (enc := Value.bool) _ rfl _ 186 rfl 9 4 Tryd.underlying186 bs S rfl HS.out ?_; intro r w3 hr hR hg; have hrs := below_size HB.out; refine Ya4 hR (below_none HB.out hg) (show w.heap.size ≤ r from by omega) (show bs ≠ r from by have := HSL.out; omega) ?_; clear HS HB; intro HR HB GR NE; clear hR hr hg hrs)
   (try go_frame)
   go_loopg [7] (S.length) (fun kq v7 w' => ∃ (L : List (ByteArray × Bool)) (out : List ByteArray) (vo : Value), vo = v7 ∧ Aside0 (kq = L.length) ∧ Aside0 (RngAt Value.bool w' bs r S L) ∧ Aside0 (Kd.R Kd.string 9 w' w.heap.size (fun k => k ≠ bs ∧ k ≠ r) vo out) ∧ Aside0 ((out ++ L.map (·.1)).Perm (S.map (·.1))) ∧ Aside0 (Below w.heap.size w w'))
   case atStart => exact ⟨S, [], _, rfl, ⟨rfl⟩, HR, ⟨Kd.R_nil _ _ _ _ _⟩, ⟨by rw [List.nil_append]⟩, HB⟩
   case round =>
    clear HR HB
    obtain ⟨L, out, vo, rfl, HK2, HR, HO, HP, HB⟩ := hrel
    have HOL := Aside0.mk (show out.length + L.length = S.length from by have := HP.out.length_eq; simpa using this)
    go_wp2_with (at_next; refine wpList_next_M (enc := Value.bool) _ rfl _ rfl bs r S L rfl HR.out ?_ ?_)
    ·intro hL0
     subst hL0
     have HPP := Aside0.mk (show out.Perm (S.map (·.1)) from by have := HP.out; simpa using this)
     have HND := Aside0.mk (HPP.out.nodup_iff.2 HR.out.map.nodup)
     have HXX := Aside0.mk (sorted_keys out (allK Ms) HND.out (fun x => (HPP.out.mem_iff).trans (HV'.out x)))
     have HLL := Aside0.mk (show out.length ≤ 1000000 from by have := HOL.out; have := HZ'.out; have := HL.out; simp only [List.length_nil] at *; omega)
     clear HP HPP HND HOL HK2
     obtain ⟨A, cp, hv⟩ := Kd.R_slice HO.out
     by_cases h0 : out.length = 0
     ·have hk0 : keysS (allK Ms) = [] := by
       have := HXX.out
       rw [List.length_eq_zero_iff.1 h0] at this
       simpa using this.symm
      have HO' := Aside0.mk (show Kd.R Kd.string 9 wr w.heap.size (fun _ => True) vo (keysS (allK Ms)) from by rw [hk0, ← List.length_eq_zero_iff.1 h0]; exact Kd.R_mono HO.out (fun _ _ => trivial))
      have HV0 := Aside0.mk hv
      rw [h0] at hv
      subst hv
      have hs : ∀ W, Calls Tryd.prog 154 #[.slice A 0 cp] W fun e w' => e = .returned (.tuple #[]) ∧ w' = W := fun W => Tryd.sort_Strings_none A cp W
      clear hk0 h0 HV0
      have HSN := Aside0.mk hs
      clear hs
      go_wp2_with (go_at_call 154; (with_reducible refine (HSN.out _).mono ?_); rintro e w' ⟨rfl, rfl⟩)
      go_ret
      exact ⟨_, rfl, HO'.out, HB.out⟩
     ·obtain ⟨g, cap, hv2, hbase, hlt, cells, hcell⟩ := Kd.R_form HO.out (by omega)
      have hown := strs_opened HO.out
      rcases hown.2 with ⟨hnil, hnl⟩ | ⟨g', cap', cur, hv3, hb1, hb2, hb3, hb4, hb5, hb6⟩
      ·exact absurd hnl h0
      rw [hv3] at hv2
      injection hv2 with ha _ hcp
      injection ha with ha
      injection ha with ha
      subst ha
      subst hcp
      have hH : Go.Sort.Holds Go.Proofs.encStr wr g' 0 (out.map fun k => k.data.toList).toArray := holds_of_block hb2 (by
       rw [List.length_map, List.map_map]
       rw [Nat.mul_one] at hb6
       rw [hb6]
       exact List.map_congr_left (fun k _ => by simp))
      have hz : (out.map fun k => k.data.toList).length < 4611686018427387904 := Nat.lt_of_le_of_lt (Nat.le_of_eq (List.length_map _)) (Nat.lt_of_le_of_lt HLL.out (by decide))
      have hgb := blk_lt hb2
      have hso := Tryd.sort_Strings g' 0 cap' (out.map fun k => k.data.toList) wr hH hgb hz
      rw [HXX.out, List.length_map] at hso
      have hlen : (keysS (allK Ms)).length = out.length := by
       have := congrArg List.length HXX.out
       simpa using this.symm
      have HFIN := Aside0.mk (fun (nn : Nat) (os : Array Obj) => strs_closed (w := wr) (n := nn) (os := os) (l := out) (ks := keysS (allK Ms)) hlen hb1 hb2 hb3 hb4 (by omega))
      have HSO := Aside0.mk hso
      have HGB := Aside0.mk hb1
      subst hv3
      clear hz hgb
      clear hv hso hH hlen hb1 hb2 hb3 hb4 hb5 hb6 hown hcell hlt hbase h0
      go_wp2_with (go_at_call 154; (with_reducible refine HSO.out.mono ?_); rintro e w' ⟨rfl, nn, os, rfl⟩)
      go_ret
      exact ⟨_, rfl, (HFIN.out nn os).1, pw_below_grown HB.out _ HB.out.size (HFIN.out nn os).2 (fun k e => by cases e; exact HGB.out)⟩
    ·intro w5 cm
     obtain ⟨L1, pk, px, L2, hL, hR2, hg2, hen⟩ := cm
     dsimp only
     subst hL
     have HB2 := Aside0.mk (below_own HB.out hg2 GR.out)
     have HO2 := Aside0.mk (Kd.R_grown HO.out hg2 (fun k hk e => hk.2 (Option.some.inj e)))
     have HR2 := Aside0.mk hR2
     have HLB := Aside0.mk (show bs < w5.heap.size ∧ r < w5.heap.size from ⟨hR2.map.lt, hR2.lt⟩)
     have HOZ := Aside0.mk (show (out.length + 1) * 16 ≤ 140737488355328 from by have := HOL.out; have := HZ'.out; have := HL.out; simp only [List.length_append, List.length_cons] at *; omega)
     clear hg2 hR2
     go_wp2_with (first | ((with_reducible refine gate_builtin (b := .append) (xs := #[.tmp 31, .tmp 33]) rfl ?_); at_builtin; refine Kd.R_append Kd.string (w0 := w) w.heap.size rfl (.tmp 31) (.tmp 33) 42 9 (.string ⟨#[]⟩) 16 rfl Tryd.underlying42 info9 rfl (by decide) (by omega) vo out pk [.string pk] (fun k => k ≠ bs ∧ k ≠ r) (fun _ => False) rfl rfl rfl (fun _ hk => hk.elim) (fun k hk => by have := HLB.out; constructor <;> omega) HO2.out HB2.out (below_size HB2.out) HOZ.out ?_; intro v1 w6 ho hb hg hat; have HO3 := Aside0.mk ho; have HB3 := Aside0.mk hb; have HR3 := Aside0.mk (HR2.out.kept hg (fun e => (HO2.out.1 _ e.symm).1 rfl) (fun e => (HO2.out.1 _ e.symm).2 rfl)); clear ho hb hg hat))
     go_roundg (gk - 1)
     case measure => have := HK2.out; simp only [List.length_append, List.length_cons] at this; omega
     case rel => exact ⟨L1 ++ L2, out ++ [pk], _, rfl, ⟨by have := HK2.out; simp only [List.length_append, List.length_cons] at this ⊢; omega⟩, HR3, HO3, ⟨by
      refine List.Perm.trans ?_ HP.out
      simp only [List.map_append, List.map_cons, List.append_assoc, List.singleton_append]
      exact List.Perm.append_left out List.perm_middle.symm⟩, HB3⟩


end Go.Proofs.YtknagppkeodggaaDoor.P


namespace Go.Proofs.YtknagppkeodggaaDoor.P
open Go.RowKit Go.Proofs.YtknagppkeodggaaDoorW.PrintWords Go.Proofs.YtknagppkeodggaaDoorW.PrintLast Go.Proofs.YtknagppkeodggaaDoorW.PrintMore
attribute [local go_sem] max2_int min2_int max_two min_two max_three min_three max_four min_four
set_option linter.unusedVariables false
set_option linter.unusedSimpArgs false

/-! ### impl_tree: function 106 -/
/- Walked by hand. -/
open Go.Proofs.YtknagppkeodggaaDoor.Pure
def treeG (M : List (ByteArray × FileT)) (k : ByteArray) : Option S27 := if (mget noF k M).1 = true then some ⟨k, (mget noF k M).2.1, (mget noF k M).2.2⟩ else none
def treeM (M : List (ByteArray × FileT)) : List S27 := (keysS (M.map (·.1))).filterMap (treeG M)
theorem MapAt.frame {α : Type} {enc : α → Value} {w0 w : World} {b bx : Nat} {M : List (ByteArray × α)} (h : MapAt enc w0 b M) (hf : FrameBut w0 bx w) (hn : b ≠ bx) : MapAt enc w b M := by
 obtain ⟨es, clock, hb, rest⟩ := h
 exact ⟨es, clock, hf.blk hb hn, rest⟩
theorem strs_frame {w0 w : World} {bx base : Nat} {v : Value} {l : List ByteArray} (h : Kd.R Kd.string 9 w0 base (fun k => k ≠ bx) v l) (hf : FrameBut w0 bx w) : Kd.R Kd.string 9 w base (fun k => k ≠ bx) v l :=
 Kd.R_step h (fun k hk hlt => hf.2 k hlt hk)
theorem allK_one {α : Type} (b : Nat) (M : List (ByteArray × α)) : allK [(b, M)] = M.map (·.1) := by simp [allK]
theorem cell_one {α : Type} (b t : Nat) (M : List (ByteArray × α)) (W : World) : ∀ i, (h : i < [(b, M)].length) → (W.alloc (.cells #[.map (some b)] t)).cell? (Addr.add ⟨W.heap.size, 0, none⟩ i) = some (.map (some [(b, M)][i].1)) := by
 intro i h
 obtain rfl : i = 0 := by simpa using h
 simp [Addr.add]
set_option maxHeartbeats 4000000 in
set_option maxRecDepth 100000 in
theorem tree_calls (M : List (ByteArray × FileT)) (b : Nat) (w : World) (hM : MapAt encF w b M) (hl : M.length ≤ 1000000) :
  Calls Tryd.prog 106 #[.map (some b)] w fun e w' => ∃ v0_ : Value, e = .returned (.agg #[v0_]) ∧ Kd.R k27 27 w' w.heap.size (fun _ => True) v0_ (treeM M) ∧ Below w.heap.size w w' := by
 have hu28 := Tryd.underlying25
 have hu37 := Tryd.underlying27
 have hu122 := Tryd.underlying118
 have HM := Aside0.mk hM
 have HL := Aside0.mk hl
 have HB := Aside0.mk (Below.refl w.heap.size w)
 clear hM hl
 go_enter Tryd.func106, Tryd.ntmps106
 go_wp2_with (first | ((with_reducible refine gd 2 rfl ?_); refine bx 2 25 (#[.slice none 0 0]) ?_; intro b2 hg w1 hbox hb; refine Ya3 hbox (below_step (be HB.out) hb) (bs hg (be HB.out)) ?_; clear HB; intro B2 HB G2; clear hb hbox hg) | ((with_reducible refine gd 3 rfl ?_); refine bx 3 25 (#[.slice none 0 0]) ?_; intro b3 hg w2 hbox hb; have HN := Aside0.mk (show b2 ≠ b3 from by have := blk_lt B2.out; omega); refine Ya4 hbox (below_step (be HB.out) hb) (bs hg (be HB.out)) (bb B2 hb) ?_; clear HB B2; intro B3 HB G3 B2; clear hb hbox hg) | (go_at_call 103; go_loud (refine (keysFile_calls encF [(b, M)] ⟨w2.heap.size, 0, none⟩ 1 _ (cell_one b 131 M w2) (fun i h => by obtain rfl : i = 0 := (by simpa using h); exact (HM.out.below HB.out HM.out.lt).alloc _) (by simp) (by simp [sizeK]; exact HL.out)).mono ?_; rintro e w4 ⟨v, rfl, hR, hb⟩; rw [allK_one] at hR; obtain ⟨A, cp, rfl⟩ := Kd.R_slice hR; have HB2 := Aside0.mk (below_step (below_alloc HB.out _) hb); have hb3 := blk_lt B3.out; have HR := Aside0.mk (Kd.R_mono (Kd.R_bound hR) (ok' := fun k => k ≠ b3) (fun k hk => by have h1 := hk.2.1; simp at h1; omega)); have B2' := Aside0.mk (bb B2 hb); have B3' := Aside0.mk (bb B3 hb); clear hb3 HB B2 B3 hR hb)))
 have ⟨hcz3, hfz3⟩ := Yc1 B3'.out
 have HK := Aside0.mk (keysS_len (M.map (·.1)))
 have HT0 := Aside0.mk (show ([] : List S27) ++ ((keysS (M.map (·.1))).drop 0).filterMap (treeG M) = treeM M from rfl)
 have HMl := Aside0.mk HM.out.lt
 have HM4 := Aside0.mk (HM.out.below HB2.out HMl.out)
 have HG4 := Aside0.mk (show b < w4.heap.size ∧ b ≠ b3 ∧ b2 ≠ b3 from by have := HMl.out; have := G3.out; have := HB2.out.size; have := HN.out; exact ⟨by omega, by omega, by omega⟩)
 have HLK := Aside0.mk (show (keysS (M.map (·.1))).length ≤ 1000000 from Nat.le_trans HK.out (by rw [List.length_map]; exact HL.out))
 have HW4 := Aside0.mk HB2.out.size
 clear HM HMl HK HN
 generalize keysS (M.map (·.1)) = ks at HR HT0 HLK ⊢
 go_loopg [11] (ks.length) (fun kq v11 w' => ∃ (i : Nat) (out : List S27) (vo : Value), v11 = .int .i64 (i : Int) ∧ Aside0 (kq + i = ks.length) ∧ Aside0 (out.length ≤ i) ∧ Aside0 (out ++ (ks.drop i).filterMap (treeG M) = treeM M) ∧ Aside0 (Kd.R k27 27 w' w.heap.size (fun k => w4.heap.size ≤ k) vo out) ∧ Aside0 (w'.heap[b3]? = some (.cells #[vo] 25 (0, 0))) ∧ Aside0 (FrameBut w4 b3 w') ∧ Aside0 (Below w.heap.size w w'))
 case atStart => exact ⟨0, [], .slice none 0 0, rfl, ⟨by omega⟩, ⟨Nat.le_refl _⟩, HT0, ⟨Kd.R_nil _ _ _ _ _⟩, B3', ⟨FrameBut.refl _ _⟩, HB2⟩
 case round =>
  clear HT0 HB2 hcz3 hfz3
  obtain ⟨i, out, vo, rfl, HK, HOI, HA, HO, HX, HF, HB⟩ := hrel
  have hik := HK.out
  have ⟨hcz3, hfz3⟩ := Yc1 HX.out
  by_cases hi : i < ks.length
  ·have c1 : decide ((i : Int) < (ks.length : Int)) = true := decide_eq_true (by omega)
   have c2 : decide (0 ≤ (i : Int)) = true := decide_eq_true (by omega)
   have c3 : decide (i < ks.length) = true := decide_eq_true hi
   have HRw := strs_frame HR.out HF.out
   obtain ⟨ad, e1, hx1⟩ := Kd.at_string (Kd.R_reads' HRw).2.2 (i : Int) (by omega) (by omega)
   cases e1
   have er : rdOf ByteArray.empty ks (i : Int) = ks[i] := by
    unfold rdOf
    rw [Int.toNat_natCast, List.getD_eq_getElem?_getD, List.getElem?_eq_getElem hi]
    rfl
   rw [er, Int.toNat_natCast] at hx1
   have H := HA.out
   rw [List.drop_eq_getElem_cons hi] at H
   have HMw := Aside0.mk (HM4.out.frame HF.out HG4.out.2.1)
   clear HRw er
   generalize ks[i] = kk at H hx1
   obtain ⟨f0, f1, f2, hf⟩ : ∃ f0 f1 f2, mget noF kk M = (f0, f1, f2) := ⟨_, _, _, rfl⟩
   have hu : encF (mget noF kk M) = .agg #[.bool f0, .string f1, .bool f2] := by rw [hf]; rfl
   have HU := Aside0.mk hu
   have hg : treeG M kk = if f0 = true then some ⟨kk, f1, f2⟩ else none := by unfold treeG; rw [hf]
   rw [List.filterMap_cons, hg] at H
   clear hf hu hg
   have B3lt := Aside0.mk (show b3 < w4.heap.size from blk_lt B3'.out)
   cases f0 with
   | false =>
    have H' := Aside0.mk (show out ++ (ks.drop (i + 1)).filterMap (treeG M) = treeM M from H)
    clear H
    go_wp2_with (first | (at_lookup; refine wpList_look_M (enc := encF) _ rfl _ _ 131 rfl 9 118 Tryd.underlying131 Tryd.underlying9 noF (encF_zero _) b M rfl HMw.out kk rfl _ HU.out ?_) | ((with_reducible refine gd 6 rfl ?_); refine bx 6 118 (#[.bool false, .string ByteArray.empty, .bool false]) ?_; intro b6 hg w5 hbox hb; have HF2 := Aside0.mk (HF.out.below hb); have HO2 := Aside0.mk (Kd.R_mono (ok' := fun k => w4.heap.size ≤ k ∧ k ≠ b6) (Kd.R_below (Kd.R_bound HO.out) hb) (fun k hk => ⟨hk.1, by have := hk.2.2.1; omega⟩)); have HX2 := Aside0.mk (bb HX hb); have B6 := Aside0.mk hbox; have HB2 := Aside0.mk (below_step (be HB.out) hb); have G6 := Aside0.mk (show w4.heap.size ≤ b6 from by rw [hg]; exact HF.out.1); clear hb hbox hg; have ⟨hdz1, hdz2, hdz3, hez1, hez2, hez3⟩ := Yc3 B6.out; have ⟨hcz4, hfz4⟩ := Yc1 HX2.out))
    go_roundg (gk - 1)
    case measure => omega
    case rel => exact ⟨i + 1, out, vo, by rw [show wrap64 ((i : Int) + 1) = ((i + 1 : Nat) : Int) from by have := HLK.out; unfold wrap64; omega], ⟨by omega⟩, ⟨by have := HOI.out; omega⟩, H', ⟨Kd.R_mono (Kd.R_grown HO2.out (set3 B6.out rfl).2.1 (fun k hk e => hk.2 (Option.some.inj e))) (fun k hk => hk.1)⟩, ⟨blk_grown HX2.out (set3 B6.out rfl).2.1 (ne_some (by have := B3lt.out; have := G6.out; omega))⟩, ⟨HF2.out.grown (set3 B6.out rfl).2.1 (fun k e => by cases e; exact .inl G6.out)⟩, ⟨below_own HB2.out (set3 B6.out rfl).2.1 (by have := G6.out; have := HW4.out; omega)⟩⟩
   | true =>
    have H' := Aside0.mk (show (out ++ [⟨kk, f1, f2⟩]) ++ (ks.drop (i + 1)).filterMap (treeG M) = treeM M from by rw [List.append_assoc]; exact H)
    clear H
    obtain ⟨A0, cp0, rfl⟩ := Kd.R_slice HO.out
    have HZZ := Aside0.mk (show (out.length + 1) * 40 ≤ 140737488355328 from by have := HOI.out; have := HLK.out; omega)
    go_wp2_with (first | (at_lookup; refine wpList_look_M (enc := encF) _ rfl _ _ 131 rfl 9 118 Tryd.underlying131 Tryd.underlying9 noF (encF_zero _) b M rfl HMw.out kk rfl _ HU.out ?_) | ((with_reducible refine gd 6 rfl ?_); refine bx 6 118 (#[.bool false, .string ByteArray.empty, .bool false]) ?_; intro b6 hg w5 hbox hb; have HF2 := Aside0.mk (HF.out.below hb); have HO2 := Aside0.mk (Kd.R_mono (ok' := fun k => w4.heap.size ≤ k ∧ k ≠ b6) (Kd.R_below (Kd.R_bound HO.out) hb) (fun k hk => ⟨hk.1, by have := hk.2.2.1; omega⟩)); have HX2 := Aside0.mk (bb HX hb); have B6 := Aside0.mk hbox; have HB2 := Aside0.mk (below_step (be HB.out) hb); have G6 := Aside0.mk (show w4.heap.size ≤ b6 from by rw [hg]; exact HF.out.1); clear hb hbox hg; have ⟨hdz1, hdz2, hdz3, hez1, hez2, hez3⟩ := Yc3 B6.out; have ⟨hcz4, hfz4⟩ := Yc1 HX2.out; have N36 := Aside0.mk (show b3 ≠ b6 from by have := B3lt.out; have := G6.out; omega); have hne1 := eq_false N36.out; have hne2 := eq_false (Ne.symm N36.out); have G6w := Aside0.mk (show w.heap.size ≤ b6 from by have := G6.out; have := HW4.out; omega)) | ((with_reducible refine gate_builtin (b := .append) (xs := #[.tmp 21, .tmp 28]) rfl ?_); at_builtin; go_loud (refine Kd.R_append k27 (w0 := w) w.heap.size rfl (.tmp 21) (.tmp 28) 23 27 (.agg #[(.string ⟨#[]⟩), (.string ⟨#[]⟩), (.bool false)]) 40 rfl Tryd.underlying23 info27 rfl (by decide) (by omega) (.slice A0 out.length cp0) out (⟨kk, f1, f2⟩ : S27) [.string kk, .string f1, .bool f2] (fun k => w4.heap.size ≤ k) (fun _ => False) rfl (by show Value.slice (some ⟨w5.heap.size, 0, none⟩) 1 1 = _; simp only [size_set]) (k27_mkM _ _ _ ⟨kk, f1, f2⟩) (fun _ hk => hk.elim) (fun k hk => by have h1 := (set3 (w' := (((w5.setCell ⟨b6, 0, none⟩ (.bool true)).setCell ⟨b6, 1, none⟩ (.string f1)).setCell ⟨b6, 2, none⟩ (.bool f2))) B6.out rfl).2.2; have h2 := HF2.out.1; omega) (Kd.R_mono (Kd.R_grown HO2.out (set3 B6.out rfl).2.1 (fun k hk e => hk.2 (Option.some.inj e))) (fun k hk => hk.1)) (below_own HB2.out (set3 B6.out rfl).2.1 G6w.out) (below_size (below_own HB2.out (set3 B6.out rfl).2.1 G6w.out)) HZZ.out ?_; intro v1 w7 ho hb hg hat; obtain ⟨A7, c7, rfl⟩ := Kd.R_slice ho; rw [show (out ++ [(⟨kk, f1, f2⟩ : S27)]).length = out.length + 1 from by simp] at ho; have HO3 := Aside0.mk ho; have HB3 := Aside0.mk hb; have HX3 := Aside0.mk (blk_grown (blk_grown HX2.out (set3 B6.out rfl).2.1 (ne_some N36.out)) hg (fun e => absurd (HO2.out.1 _ e.symm).1 (by have := HG4.out; have := B3lt.out; omega))); have HF3 := Aside0.mk ((HF2.out.grown (set3 B6.out rfl).2.1 (fun k e => by cases e; exact .inl G6.out)).grown hg (fun k e => .inl (HO2.out.1 _ e).1)); clear ho hb hg hat; have ⟨hyz3, hyf3⟩ := Yc1 HX3.out)))
    go_roundg (gk - 1)
    case measure => omega
    case rel => exact ⟨i + 1, out ++ [⟨kk, f1, f2⟩], _, by rw [show wrap64 ((i : Int) + 1) = ((i + 1 : Nat) : Int) from by have := HLK.out; unfold wrap64; omega], ⟨by omega⟩, ⟨by have := HOI.out; rw [List.length_append, List.length_singleton]; omega⟩, H', ⟨Kd.R_grown HO3.out (grown_set _ b3 0 _) (fun k hk e => by have := B3lt.out; have := Option.some.inj e; omega)⟩, ⟨(set1 HX3.out rfl).1⟩, ⟨HF3.out.grown (grown_set _ b3 0 _) (fun k e => by cases e; exact .inr rfl)⟩, ⟨below_own HB3.out (grown_set _ b3 0 _) G3.out⟩⟩
  ·have c1 : decide ((i : Int) < (ks.length : Int)) = false := decide_eq_false (by omega)
   have c3 : decide (i < ks.length) = false := decide_eq_false hi
   have H := HA.out
   rw [List.drop_of_length_le (by omega), List.filterMap_nil, List.append_nil] at H
   subst H
   obtain ⟨A0, cp0, rfl⟩ := Kd.R_slice HO.out
   have HB2w := Aside0.mk (HF.out.blk B2'.out HG4.out.2.2)
   have ⟨hbz, hbf⟩ := Yc1 HB2w.out
   go_wp2
   refine bodyPost_ret (results_cell_row rfl _ _ b2 25 #[.slice A0 (treeM M).length cp0] (0, 0) _ rfl (by refine blk_put (cs := #[.slice none 0 0]) ?_ 0 _ rfl; exact HB2w.out) Tryd.underlying25 rfl (by kernel_rfl)) rfl ?_
   exact ⟨_, rfl, Kd.R_mono (Kd.R_grown HO.out (grown_set _ b2 0 _) (fun k hk e => by have := blk_lt B2'.out; have := Option.some.inj e; omega)) (fun _ _ => trivial), below_own HB.out (grown_set _ b2 0 _) G2.out⟩


end Go.Proofs.YtknagppkeodggaaDoor.P


namespace Go.Proofs.YtknagppkeodggaaDoor.P
open Go.RowKit Go.Proofs.YtknagppkeodggaaDoorW.PrintWords Go.Proofs.YtknagppkeodggaaDoorW.PrintLast Go.Proofs.YtknagppkeodggaaDoorW.PrintMore
attribute [local go_sem] max2_int min2_int max_two min_two max_three min_three max_four min_four
set_option linter.unusedVariables false
set_option linter.unusedSimpArgs false

attribute [local go_sem high] eqA118
/-! ### impl_goodFile: function 107 -/
def impl_goodFile.f (a0_0 : Bool) (a0_1 : ByteArray) (a0_2 : Bool) : Option (Bool) := if (a0_1.size : Int) ≤ 1500 then (if a0_0 = true then (some true) else (some (!a0_0 && (a0_1.toList == ([] : List UInt8) && (!a0_2))))) else (some false)
set_option maxHeartbeats 8000000 in
set_option maxRecDepth 100000 in
theorem impl_goodFile.calls (a0_0 : Bool) (a0_1 : ByteArray) (a0_2 : Bool) (r : Bool) (w : World) (h : impl_goodFile.f a0_0 a0_1 a0_2 = some r) :
  Calls Tryd.prog 107 #[.agg #[.bool a0_0, .string a0_1, .bool a0_2]] w fun e w' => e = .returned (.bool r) ∧ Below w.heap.size w w' := by
 have hu118 := Tryd.underlying118; have HB := Aside0.mk (Below.refl w.heap.size w); have H : (if (a0_1.size : Int) ≤ 1500 then (if a0_0 = true then (some true) else (some (!a0_0 && (a0_1.toList == ([] : List UInt8) && (!a0_2))))) else (some false)) = some r := h; clear h
 by_cases c2 : (a0_1.size : Int) ≤ 1500
 ·rw [if_pos c2] at H
  have a4 : decide ((a0_1.size : Int) ≤ 1500) = true := decide_eq_true c2; have a5 : decide (a0_1.size ≤ 1500) = true := decide_eq_true (by omega); clear c2
  by_cases c3 : a0_0 = true
  ·subst c3
   have H1 : (some true) = some r := by rw [if_pos rfl] at H; exact H
   clear H; have H := H1; clear H1; obtain rfl := Option.some.inj H
   go_enter Tryd.func107, Tryd.ntmps107
   go_wp2_with (first | ((with_reducible refine gd 1 rfl ?_); refine bx 1 118 (#[.bool true, .string a0_1, .bool a0_2]) ?_; intro a1 hg w4 hbox hb; refine Ya4 (below_step (be HB.out) hb) (hbox) (bs hg (be HB.out)) (bs hg (be HB.out)) ?_; clear HB; intro HB a0 a2 a3; clear hb hbox hg; have ⟨a6, a7, a8, a9, aa, ab⟩ := Yc3 a0.out))
   go_ret
   exact ⟨Ye2, (bf HB.out)⟩
  ·replace c3 := Bool.eq_false_iff.mpr c3; subst c3
   have H1 : (some (!false && (a0_1.toList == ([] : List UInt8) && (!a0_2)))) = some r := by rw [if_neg (show ¬ (false = true) by decide)] at H; exact H
   clear H; have H := H1; clear H1; obtain rfl := Option.some.inj H
   go_enter Tryd.func107, Tryd.ntmps107
   go_wp2_with (first | ((with_reducible refine gd 1 rfl ?_); refine bx 1 118 (#[.bool false, .string a0_1, .bool a0_2]) ?_; intro a1 hg w6 hbox hb; refine Ya4 (below_step (be HB.out) hb) (hbox) (bs hg (be HB.out)) (bs hg (be HB.out)) ?_; clear HB; intro HB a0 a2 a3; clear hb hbox hg; have ⟨ac, ad, ae, af, ag, ah⟩ := Yc3 a0.out))
   go_ret
   exact ⟨Ye2, (bf HB.out)⟩
 ·rw [if_neg c2] at H
  have a4 : decide ((a0_1.size : Int) ≤ 1500) = false := decide_eq_false c2; have a5 : decide (a0_1.size ≤ 1500) = false := decide_eq_false (by omega); clear c2; obtain rfl := Option.some.inj H
  go_enter Tryd.func107, Tryd.ntmps107
  go_wp2_with (first | ((with_reducible refine gd 1 rfl ?_); refine bx 1 118 (#[.bool a0_0, .string a0_1, .bool a0_2]) ?_; intro a1 hg w8 hbox hb; refine Ya4 (below_step (be HB.out) hb) (hbox) (bs hg (be HB.out)) (bs hg (be HB.out)) ?_; clear HB; intro HB a0 a2 a3; clear hb hbox hg; have ⟨ai, aj, ak, al, am, an⟩ := Yc3 a0.out))
  go_ret
  exact ⟨Ye2, (bf HB.out)⟩

end Go.Proofs.YtknagppkeodggaaDoor.P


namespace Go.Proofs.YtknagppkeodggaaDoor.P
open Go.RowKit Go.Proofs.YtknagppkeodggaaDoorW.PrintWords Go.Proofs.YtknagppkeodggaaDoorW.PrintLast Go.Proofs.YtknagppkeodggaaDoorW.PrintMore
attribute [local go_sem] max2_int min2_int max_two min_two max_three min_three max_four min_four
set_option linter.unusedVariables false
set_option linter.unusedSimpArgs false

/-! ### impl_in: function 125 -/
def impl_in.f (a0 : Int) (a1 : Int) (a2 : Int) : Option (Bool) := if a0 ≥ a1 then (some (decide (a0 ≤ a2))) else (some false)
set_option maxHeartbeats 8000000 in
set_option maxRecDepth 100000 in
theorem impl_in.calls (a0 : Int) (a1 : Int) (a2 : Int) (r : Bool) (w : World) (h : impl_in.f a0 a1 a2 = some r) :
  Calls Tryd.prog 125 #[.int .i64 a0, .int .i64 a1, .int .i64 a2] w fun e w' => e = .returned (.bool r) ∧ Drawn0 w w' := by
 have H : (if a0 ≥ a1 then (some (decide (a0 ≤ a2))) else (some false)) = some r := h; clear h
 by_cases c4 : a0 ≥ a1
 ·rw [if_pos c4] at H
  have a3 : decide (a1 ≤ a0) = true := decide_eq_true c4; clear c4; obtain rfl := Option.some.inj H
  go_enter Tryd.func125, Tryd.ntmps125
  go_wp2
  go_ret
  exact ⟨Ye1, dz⟩
 ·rw [if_neg c4] at H
  have a3 : decide (a1 ≤ a0) = false := decide_eq_false c4; clear c4; obtain rfl := Option.some.inj H
  go_enter Tryd.func125, Tryd.ntmps125
  go_wp2
  go_ret
  exact ⟨Ye1, dz⟩

end Go.Proofs.YtknagppkeodggaaDoor.P


namespace Go.Proofs.YtknagppkeodggaaDoor.P
open Go.RowKit Go.Proofs.YtknagppkeodggaaDoorW.PrintWords Go.Proofs.YtknagppkeodggaaDoorW.PrintLast Go.Proofs.YtknagppkeodggaaDoorW.PrintMore
attribute [local go_sem] max2_int min2_int max_two min_two max_three min_three max_four min_four
set_option linter.unusedVariables false
set_option linter.unusedSimpArgs false

/-! ### impl_goodPart: function 171 -/
mutual
def impl_goodPart.j0 : Nat → ByteArray → Bool → Bool → Option (Bool)
 | 0, _, _, _ => none
 | k + 1, x0, x1, x18 => if x18 = true then (some false) else (impl_goodPart.l0 k x0 x1 0)
def impl_goodPart.l0 : Nat → ByteArray → Bool → Int → Option (Bool)
 | 0, _, _, _ => none
 | k + 1, x0, x1, x5 => if x5 < (x0.size : Int) then (if 0 ≤ x5 then (if (bt x0 x5) < 33 then (some false) else (if (bt x0 x5) > 126 then (some false) else (if (bt x0 x5) = 34 then (some false) else (if (bt x0 x5) = 47 then (some false) else (if x1 = true then (impl_goodPart.l0 k x0 x1 (wrap64 (x5 + 1))) else (if (bt x0 x5) = 42 then (some false) else (if (bt x0 x5) = 63 then (some false) else (impl_goodPart.l0 k x0 x1 (wrap64 (x5 + 1)))))))))) else (none)) else (some true)
end
def impl_goodPart.f (k : Nat) (a0 : ByteArray) (a1 : Bool) : Option (Bool) := (impl_in.f (a0.size : Int) 1 20).bind fun a8 => (if a8 = true then (if a0.toList = ([46] : List UInt8) then (impl_goodPart.j0 k a0 a1 true) else (impl_goodPart.j0 k a0 a1 (a0.toList == ([46, 46] : List UInt8)))) else (impl_goodPart.j0 k a0 a1 true))
theorem impl_goodPart.mono_l : ∀ k, (∀ y0 y1 y2, LeO (impl_goodPart.j0 k y0 y1 y2) (impl_goodPart.j0 (k + 1) y0 y1 y2)) ∧ (∀ y0 y1 y2, LeO (impl_goodPart.l0 k y0 y1 y2) (impl_goodPart.l0 (k + 1) y0 y1 y2))
 | 0 => ⟨fun _ _ _ r h => by simp [impl_goodPart.j0] at h, fun _ _ _ r h => by simp [impl_goodPart.l0] at h⟩
 | k + 1 => by
  obtain ⟨ih0, ih1⟩ := impl_goodPart.mono_l k; refine ⟨?_, ?_⟩
  ·intro y0 y1 y2
   unfold impl_goodPart.j0
   repeat' first
   | (with_reducible exact ih0 _ _ _)
   | (with_reducible exact ih1 _ _ _)
   | (with_reducible exact LeO.refl _)
   | (with_reducible exact LeO.none _)
   | (with_reducible refine LeO.ite ?_ ?_)
   | (with_reducible refine LeO.bind ?_ (fun _ => ?_))
   | exact ih0 _ _ _
   | exact ih1 _ _ _
   | exact LeO.none _
   | refine LeO.ite ?_ ?_
   | refine LeO.bind ?_ (fun _ => ?_)
  ·intro y0 y1 y2
   unfold impl_goodPart.l0
   repeat' first
   | (with_reducible exact ih0 _ _ _)
   | (with_reducible exact ih1 _ _ _)
   | (with_reducible exact LeO.refl _)
   | (with_reducible exact LeO.none _)
   | (with_reducible refine LeO.ite ?_ ?_)
   | (with_reducible refine LeO.bind ?_ (fun _ => ?_))
   | exact ih0 _ _ _
   | exact ih1 _ _ _
   | exact LeO.none _
   | refine LeO.ite ?_ ?_
   | refine LeO.bind ?_ (fun _ => ?_)
theorem impl_goodPart.mono : ∀ a0 a1 k, LeO (impl_goodPart.f k a0 a1) (impl_goodPart.f (k + 1) a0 a1) := by
 intro a0 a1 k; obtain ⟨ih0, ih1⟩ := impl_goodPart.mono_l k
 unfold impl_goodPart.f
 repeat' first
   | (with_reducible exact ih0 _ _ _)
   | (with_reducible exact ih1 _ _ _)
   | (with_reducible exact LeO.refl _)
   | (with_reducible exact LeO.none _)
   | (with_reducible refine LeO.ite ?_ ?_)
   | (with_reducible refine LeO.bind ?_ (fun _ => ?_))
   | exact ih0 _ _ _
   | exact ih1 _ _ _
   | exact LeO.none _
   | refine LeO.ite ?_ ?_
   | refine LeO.bind ?_ (fun _ => ?_)
set_option maxHeartbeats 8000000 in
set_option maxRecDepth 100000 in
theorem impl_goodPart.calls (k : Nat) (a0 : ByteArray) (a1 : Bool) (r : Bool) (w : World) (h : impl_goodPart.f k a0 a1 = some r) :
  Calls Tryd.prog 171 #[.string a0, .bool a1] w fun e w' => e = .returned (.bool r) ∧ Drawn0 w w' := by
 have H : ((impl_in.f (a0.size : Int) 1 20).bind fun a8 => (if a8 = true then (if a0.toList = ([46] : List UInt8) then (impl_goodPart.j0 k a0 a1 true) else (impl_goodPart.j0 k a0 a1 (a0.toList == ([46, 46] : List UInt8)))) else (impl_goodPart.j0 k a0 a1 true))) = some r := h; clear h; have ad := Aside0.mk H; clear H
 go_enter Tryd.func171, Tryd.ntmps171
 go_upto_region 1 with (fail)
 go_cut [18] (fun v18 wc => ∃ (kq : Nat) (ab : Bool), v18 = .bool ab ∧ Aside0 (impl_goodPart.j0 kq a0 a1 ab = some r) ∧ Aside0 (kq ≤ k) ∧ Drawn0 w wc)
 case first =>
  have H := ad.out; clear ad; replace H := Option.bind_eq_some_iff.mp H; obtain ⟨a8, A40, H⟩ := H; replace H : (if a8 = true then (if a0.toList = ([46] : List UInt8) then (impl_goodPart.j0 k a0 a1 true) else (impl_goodPart.j0 k a0 a1 (a0.toList == ([46, 46] : List UInt8)))) else (impl_goodPart.j0 k a0 a1 true)) = some r := H; have A4 := Aside0.mk A40; clear A40
  by_cases c5 : a8 = true
  ·subst c5
   have H1 : (if a0.toList = ([46] : List UInt8) then (impl_goodPart.j0 k a0 a1 true) else (impl_goodPart.j0 k a0 a1 (a0.toList == ([46, 46] : List UInt8)))) = some r := by rw [if_pos rfl] at H; exact H
   clear H; have H := H1; clear H1
   by_cases c6 : a0.toList = ([46] : List UInt8)
   ·rw [if_pos c6] at H
    have a3 : (a0.toList == ([46] : List UInt8)) = true := beq_iff_eq.mpr c6; have ae : (a0.toList != ([46] : List UInt8)) = false := bne_eq_false_iff_eq.mpr c6; clear c6; (first | rw [a3] | (simp only [i64_w, i32_w]; rw [a3]) | skip); have H' := Aside0.mk H; clear H
    go_wp2_with (first | ((with_reducible refine gc 125 rfl ?_); refine gl (some 9) _ (#[.int .i64 (a0.size : Int), .int .i64 1, .int .i64 20]) Tryd.func125 ?_; (with_reducible refine (impl_in.calls (a0.size : Int) 1 20 true _ A4.out).mono ?_); rintro e w' ⟨rfl, ⟨nd, rfl⟩⟩; refine ⟨_, rfl, ?_⟩))
    go_meet
    case rel => exact ⟨_, (true), Ye1, H', ⟨by first | omega | exact Nat.le_refl _⟩, dz⟩
   ·rw [if_neg c6] at H
    have a3 : (a0.toList == ([46] : List UInt8)) = false := beq_eq_false_iff_ne.mpr c6; have ae : (a0.toList != ([46] : List UInt8)) = true := bne_iff_ne.mpr c6; (first | rw [a3] | (simp only [i64_w, i32_w]; rw [a3]) | skip); have H' := Aside0.mk H; clear H
    go_wp2_with (first | ((with_reducible refine gc 125 rfl ?_); refine gl (some 9) _ (#[.int .i64 (a0.size : Int), .int .i64 1, .int .i64 20]) Tryd.func125 ?_; (with_reducible refine (impl_in.calls (a0.size : Int) 1 20 true _ A4.out).mono ?_); rintro e w' ⟨rfl, ⟨nd, rfl⟩⟩; refine ⟨_, rfl, ?_⟩))
    go_meet
    case rel => exact ⟨_, ((a0.toList == ([46, 46] : List UInt8))), Ye1, H', ⟨by first | omega | exact Nat.le_refl _⟩, dz⟩
  ·replace c5 := Bool.eq_false_iff.mpr c5; subst c5
   have H1 : (impl_goodPart.j0 k a0 a1 true) = some r := by rw [if_neg (show ¬ (false = true) by decide)] at H; exact H
   clear H; have H := H1; clear H1; have H' := Aside0.mk H; clear H
   go_wp2_with (first | ((with_reducible refine gc 125 rfl ?_); refine gl (some 9) _ (#[.int .i64 (a0.size : Int), .int .i64 1, .int .i64 20]) Tryd.func125 ?_; (with_reducible refine (impl_in.calls (a0.size : Int) 1 20 false _ A4.out).mono ?_); rintro e w' ⟨rfl, ⟨nd, rfl⟩⟩; refine ⟨_, rfl, ?_⟩))
   go_meet
   case rel => exact ⟨_, (true), Ye1, H', ⟨by first | omega | exact Nat.le_refl _⟩, dz⟩
 case rest =>
  clear ad; (try clear c1); (try clear p2); (try clear c5); (try clear c6); (try clear a3); (try clear ae); obtain ⟨kq, ab, rfl, HA, HJ2, ⟨mc2, rfl⟩⟩ := hcut
  cases kq with
  | zero => exact absurd HA.out (by simp [impl_goodPart.j0])
  | succ af =>
   have H := HA.out; clear HA; simp only [impl_goodPart.j0] at H
   by_cases c7 : ab = true
   ·subst c7
    have H1 : (some false) = some r := by rw [if_pos rfl] at H; exact H
    clear H; have H := H1; clear H1; obtain rfl := Option.some.inj H
    go_wp2
    go_ret
    exact ⟨Ye1, dz⟩
   ·replace c7 := Bool.eq_false_iff.mpr c7; subst c7
    have H1 : (impl_goodPart.l0 af a0 a1 0) = some r := by rw [if_neg (show ¬ (false = true) by decide)] at H; exact H
    clear H; have H := H1; clear H1; have H' := Aside0.mk H; clear H
    go_wp2
    go_loopg [5] af (fun kq v5 w' => ∃ (a2 : Int), v5 = .int .i64 a2 ∧ Aside0 (impl_goodPart.l0 kq a0 a1 a2 = some r) ∧ Aside0 (kq ≤ af) ∧ Drawn0 w w')
    case atStart => exact ⟨(0), Ye1, H', ⟨Nat.le_refl _⟩, dz⟩
    case round =>
     clear H'; (try clear c1); (try clear c2); (try clear p2); (try clear c5); (try clear c6); (try clear a3); (try clear ae); (try clear c7); (try clear p2); obtain ⟨a2, rfl, HA, HK2, ⟨m2, rfl⟩⟩ := hrel
     cases gk with
     | zero => exact absurd HA.out (by simp [impl_goodPart.l0])
     | succ k2 =>
      have H := HA.out; clear HA; simp only [impl_goodPart.l0] at H
      by_cases c8 : a2 < (a0.size : Int)
      ·rw [if_pos c8] at H
       have ag : decide (a2 < (a0.size : Int)) = true := decide_eq_true c8; clear c8
       by_cases c9 : 0 ≤ a2
       ·rw [if_pos c9] at H
        have c9b0 : decide (0 ≤ a2) = true := decide_eq_true c9; clear c9
        by_cases a9 : (bt a0 a2) < 33
        ·rw [if_pos a9] at H
         have ah : decide ((bt a0 a2) < 33) = true := decide_eq_true a9; clear a9; obtain rfl := Option.some.inj H; have p10 : 0 ≤ (a2 : Int) := oda; have q10 : a2 < (a0.size : Int) := oda; have hx10 := bt_at a0 a2; replace p10 := eq_true p10; replace q10 := eq_true q10
         go_wp2
         go_ret
         exact ⟨Ye1, dz⟩
        ·rw [if_neg a9] at H
         have ah : decide ((bt a0 a2) < 33) = false := decide_eq_false a9; clear a9
         by_cases aa : (bt a0 a2) > 126
         ·rw [if_pos aa] at H
          have ai : decide (126 < (bt a0 a2)) = true := decide_eq_true aa; clear aa; obtain rfl := Option.some.inj H; have p10 : 0 ≤ (a2 : Int) := oda; have q10 : a2 < (a0.size : Int) := oda; have hx10 := bt_at a0 a2; replace p10 := eq_true p10; replace q10 := eq_true q10
          go_wp2
          go_ret
          exact ⟨Ye1, dz⟩
         ·rw [if_neg aa] at H
          have ai : decide (126 < (bt a0 a2)) = false := decide_eq_false aa; clear aa
          by_cases a4 : (bt a0 a2) = 34
          ·rw [if_pos a4] at H
           have aj : ((bt a0 a2) == 34) = true := beq_iff_eq.mpr a4; have ak : ((bt a0 a2) != 34) = false := bne_eq_false_iff_eq.mpr a4; clear a4; obtain rfl := Option.some.inj H; have p10 : 0 ≤ (a2 : Int) := oda; have q10 : a2 < (a0.size : Int) := oda; have hx10 := bt_at a0 a2; replace p10 := eq_true p10; replace q10 := eq_true q10
           go_wp2
           go_ret
           exact ⟨Ye1, dz⟩
          ·rw [if_neg a4] at H
           have aj : ((bt a0 a2) == 34) = false := beq_eq_false_iff_ne.mpr a4; have ak : ((bt a0 a2) != 34) = true := bne_iff_ne.mpr a4
           by_cases a5 : (bt a0 a2) = 47
           ·rw [if_pos a5] at H
            have al : ((bt a0 a2) == 47) = true := beq_iff_eq.mpr a5; have am : ((bt a0 a2) != 47) = false := bne_eq_false_iff_eq.mpr a5; clear a5; obtain rfl := Option.some.inj H; have p10 : 0 ≤ (a2 : Int) := oda; have q10 : a2 < (a0.size : Int) := oda; have hx10 := bt_at a0 a2; replace p10 := eq_true p10; replace q10 := eq_true q10
            go_wp2
            go_ret
            exact ⟨Ye1, dz⟩
           ·rw [if_neg a5] at H
            have al : ((bt a0 a2) == 47) = false := beq_eq_false_iff_ne.mpr a5; have am : ((bt a0 a2) != 47) = true := bne_iff_ne.mpr a5
            by_cases ac : a1 = true
            ·subst ac
             have H1 : (impl_goodPart.l0 k2 a0 true (wrap64 (a2 + 1))) = some r := by rw [if_pos rfl] at H; exact H
             clear H; have H := H1; clear H1; have H' := Aside0.mk H; clear H; have p10 : 0 ≤ (a2 : Int) := oda; have q10 : a2 < (a0.size : Int) := oda; have hx10 := bt_at a0 a2; replace p10 := eq_true p10; replace q10 := eq_true q10
             go_wp2
             go_roundg k2
             case measure => have := HJ2.out; have := HK2.out; omega
             case rel => exact ⟨(wrap64 (a2 + 1)), Ye1, H', ⟨by have := HJ2.out; have := HK2.out; omega⟩, dz⟩
            ·replace ac := Bool.eq_false_iff.mpr ac; subst ac
             have H1 : (if (bt a0 a2) = 42 then (some false) else (if (bt a0 a2) = 63 then (some false) else (impl_goodPart.l0 k2 a0 false (wrap64 (a2 + 1))))) = some r := by rw [if_neg (show ¬ (false = true) by decide)] at H; exact H
             clear H; have H := H1; clear H1
             by_cases a6 : (bt a0 a2) = 42
             ·rw [if_pos a6] at H
              have an : ((bt a0 a2) == 42) = true := beq_iff_eq.mpr a6; have ao : ((bt a0 a2) != 42) = false := bne_eq_false_iff_eq.mpr a6; clear a6; obtain rfl := Option.some.inj H; have p10 : 0 ≤ (a2 : Int) := oda; have q10 : a2 < (a0.size : Int) := oda; have hx10 := bt_at a0 a2; replace p10 := eq_true p10; replace q10 := eq_true q10
              go_wp2
              go_ret
              exact ⟨Ye1, dz⟩
             ·rw [if_neg a6] at H
              have an : ((bt a0 a2) == 42) = false := beq_eq_false_iff_ne.mpr a6; have ao : ((bt a0 a2) != 42) = true := bne_iff_ne.mpr a6
              by_cases a7 : (bt a0 a2) = 63
              ·rw [if_pos a7] at H
               have ap : ((bt a0 a2) == 63) = true := beq_iff_eq.mpr a7; have aq : ((bt a0 a2) != 63) = false := bne_eq_false_iff_eq.mpr a7; clear a7; obtain rfl := Option.some.inj H; have p10 : 0 ≤ (a2 : Int) := oda; have q10 : a2 < (a0.size : Int) := oda; have hx10 := bt_at a0 a2; replace p10 := eq_true p10; replace q10 := eq_true q10
               go_wp2
               go_ret
               exact ⟨Ye1, dz⟩
              ·rw [if_neg a7] at H
               have ap : ((bt a0 a2) == 63) = false := beq_eq_false_iff_ne.mpr a7; have aq : ((bt a0 a2) != 63) = true := bne_iff_ne.mpr a7; have H' := Aside0.mk H; clear H; have p10 : 0 ≤ (a2 : Int) := oda; have q10 : a2 < (a0.size : Int) := oda; have hx10 := bt_at a0 a2; replace p10 := eq_true p10; replace q10 := eq_true q10
               go_wp2
               go_roundg k2
               case measure => have := HJ2.out; have := HK2.out; omega
               case rel => exact ⟨(wrap64 (a2 + 1)), Ye1, H', ⟨by have := HJ2.out; have := HK2.out; omega⟩, dz⟩
       ·rw [if_neg c9] at H
        exact absurd H (by simp)
      ·rw [if_neg c8] at H
       have ag : decide (a2 < (a0.size : Int)) = false := decide_eq_false c8; clear c8; obtain rfl := Option.some.inj H
       go_wp2
       go_ret
       exact ⟨Ye1, dz⟩

end Go.Proofs.YtknagppkeodggaaDoor.P


namespace Go.Proofs.YtknagppkeodggaaDoor.P
open Go.RowKit Go.Proofs.YtknagppkeodggaaDoorW.PrintWords Go.Proofs.YtknagppkeodggaaDoorW.PrintLast Go.Proofs.YtknagppkeodggaaDoorW.PrintMore
attribute [local go_sem] max2_int min2_int max_two min_two max_three min_three max_four min_four
set_option linter.unusedVariables false
set_option linter.unusedSimpArgs false

/-! ### strings_Split: function 83 -/
def strings_Split.f (a0 a1 : ByteArray) : Option (List ByteArray) := if a0.size < 4294967281 then (if 1 ≤ a1.size then some (Go.Lib.splitB a1 0 (Go.Lib.countB a0 a1) a0) else none) else none
theorem strings_Split.calls (a0 a1 : ByteArray) (r : List ByteArray) (w : World) (hg : GOK w) (h : strings_Split.f a0 a1 = some r) :
  Calls Tryd.prog 83 #[.string a0, .string a1] w fun e w' => ∃ v0_ : Value, e = .returned (v0_) ∧ Kd.R Kd.string 9 w' w.heap.size (fun _ => True) v0_ r ∧ Below w.heap.size w w' := by
 unfold strings_Split.f at h
 split at h
 ·rename_i hs
  split at h
  ·rename_i h1
   obtain rfl := Option.some.inj h; obtain ⟨m, hm⟩ := hg; have hle := Go.Lib.countB_le a1 h1 a0.size a0 (Nat.le_refl _); have hlen := Go.Lib.splitB_all a1 h1 0 (Go.Lib.countB a0 a1) a0 rfl
   refine (Tryd.strings_Split a0 a1 m w hs hm h1).mono fun e w' ⟨he, hw⟩ => ?_
   subst hw; refine ⟨_, he, ?_, below_alloc (Below.refl _ _) _⟩
   rw [← hlen]
   exact Ow.R_new_block Value.string (fun _ => rfl) _ w _ (by rw [hlen]; unfold maxLen; omega)
  ·cases h
 ·cases h


end Go.Proofs.YtknagppkeodggaaDoor.P


namespace Go.Proofs.YtknagppkeodggaaDoor.P
open Go.RowKit Go.Proofs.YtknagppkeodggaaDoorW.PrintWords Go.Proofs.YtknagppkeodggaaDoorW.PrintLast Go.Proofs.YtknagppkeodggaaDoorW.PrintMore
attribute [local go_sem] max2_int min2_int max_two min_two max_three min_three max_four min_four
set_option linter.unusedVariables false
set_option linter.unusedSimpArgs false

/-! ### impl_parts: function 145 -/
def impl_parts.l0 : Nat → Bool → List ByteArray → Int → Int → Option (Bool)
 | 0, _, _, _, _ => none
 | k + 1, x1, x13, x14, x15 => if x15 < x14 then (if 0 ≤ x15 then (if x15 < (x13.length : Int) then ((impl_goodPart.f k (rdOf ByteArray.empty x13 x15) x1).bind fun a6 => (if a6 = true then (impl_parts.l0 k x1 x13 x14 (wrap64 (x15 + 1))) else (some false))) else (none)) else (none)) else (some true)
def impl_parts.f (k : Nat) (a0 : ByteArray) (a1 : Bool) : Option (Bool) := (strings_Split.f a0 (⟨#[47]⟩ : ByteArray)).bind fun a2 => (if (a2.length : Int) > 6 then (some false) else (impl_parts.l0 k a1 a2 (a2.length : Int) 0))
theorem impl_parts.mono_l : ∀ k, (∀ y0 y1 y2 y3, LeO (impl_parts.l0 k y0 y1 y2 y3) (impl_parts.l0 (k + 1) y0 y1 y2 y3))
 | 0 => fun _ _ _ _ r h => by simp [impl_parts.l0] at h
 | k + 1 => by
  have ih0 := impl_parts.mono_l k
  ·intro y0 y1 y2 y3
   unfold impl_parts.l0
   repeat' first
   | (with_reducible exact ih0 _ _ _ _)
   | (with_reducible exact impl_goodPart.mono _ _ _)
   | (with_reducible exact LeO.refl _)
   | (with_reducible exact LeO.none _)
   | (with_reducible refine LeO.ite ?_ ?_)
   | (with_reducible refine LeO.bind ?_ (fun _ => ?_))
   | exact ih0 _ _ _ _
   | exact impl_goodPart.mono _ _ _
   | exact LeO.none _
   | refine LeO.ite ?_ ?_
   | refine LeO.bind ?_ (fun _ => ?_)
theorem impl_parts.mono : ∀ a0 a1 k, LeO (impl_parts.f k a0 a1) (impl_parts.f (k + 1) a0 a1) := by
 intro a0 a1 k; have ih0 := impl_parts.mono_l k
 unfold impl_parts.f
 repeat' first
   | (with_reducible exact ih0 _ _ _ _)
   | (with_reducible exact impl_goodPart.mono _ _ _)
   | (with_reducible exact LeO.refl _)
   | (with_reducible exact LeO.none _)
   | (with_reducible refine LeO.ite ?_ ?_)
   | (with_reducible refine LeO.bind ?_ (fun _ => ?_))
   | exact ih0 _ _ _ _
   | exact impl_goodPart.mono _ _ _
   | exact LeO.none _
   | refine LeO.ite ?_ ?_
   | refine LeO.bind ?_ (fun _ => ?_)
set_option maxHeartbeats 8000000 in
set_option maxRecDepth 100000 in
theorem impl_parts.calls (k : Nat) (a0 : ByteArray) (a1 : Bool) (r : Bool) (w : World) (hg : GOK w) (h : impl_parts.f k a0 a1 = some r) :
  Calls Tryd.prog 145 #[.string a0, .bool a1] w fun e w' => e = .returned (.bool r) ∧ Below w.heap.size w w' := by
 have HG := Aside0.mk hg; clear hg; have HB := Aside0.mk (Below.refl w.heap.size w); have H : ((strings_Split.f a0 (⟨#[47]⟩ : ByteArray)).bind fun a2 => (if (a2.length : Int) > 6 then (some false) else (impl_parts.l0 k a1 a2 (a2.length : Int) 0))) = some r := h; clear h; replace H := Option.bind_eq_some_iff.mp H; obtain ⟨a2, A30, H⟩ := H; replace H : (if (a2.length : Int) > 6 then (some false) else (impl_parts.l0 k a1 a2 (a2.length : Int) 0)) = some r := H; have A3 := Aside0.mk A30; clear A30
 by_cases c4 : (a2.length : Int) > 6
 ·rw [if_pos c4] at H
  have ac : decide (6 < (a2.length : Int)) = true := decide_eq_true c4; have ad : decide (6 < a2.length) = true := decide_eq_true (by omega); clear c4; obtain rfl := Option.some.inj H
  go_enter Tryd.func145, Tryd.ntmps145
  go_wp2_with (first | ((with_reducible refine gc 83 rfl ?_); refine gl (some 9) _ (#[.string a0, .string (⟨#[47]⟩ : ByteArray)]) Tryd.func83 ?_; (with_reducible refine (strings_Split.calls a0 (⟨#[47]⟩ : ByteArray) a2 _ ?sideG A3.out).mono ?_); (case sideG => exact gk HG.out HB.out); rintro e w5 ⟨af, rfl, ho0, hb⟩; refine ⟨_, rfl, ?_⟩; refine Ya2 (Kd.R_lower ho0 (below_size (be HB.out))) (below_step (be HB.out) hb) ?_; clear HB; intro a7 HB; (try clear hb); (try clear hb2); (try clear hk); (try clear hi); (try clear ho0); obtain ⟨Ao6, co6, eo6⟩ := Kd.R_slice a7.out; subst eo6))
  go_ret
  exact ⟨Ye2, be HB.out⟩
 ·rw [if_neg c4] at H
  have ac : decide (6 < (a2.length : Int)) = false := decide_eq_false c4; have ad : decide (6 < a2.length) = false := decide_eq_false (by omega); clear c4; have H' := Aside0.mk H; clear H
  go_enter Tryd.func145, Tryd.ntmps145
  go_wp2_with (first | ((with_reducible refine gc 83 rfl ?_); refine gl (some 9) _ (#[.string a0, .string (⟨#[47]⟩ : ByteArray)]) Tryd.func83 ?_; (with_reducible refine (strings_Split.calls a0 (⟨#[47]⟩ : ByteArray) a2 _ ?sideG A3.out).mono ?_); (case sideG => exact gk HG.out HB.out); rintro e w7 ⟨af, rfl, ho0, hb⟩; refine ⟨_, rfl, ?_⟩; refine Ya2 (Kd.R_lower ho0 (below_size (be HB.out))) (below_step (be HB.out) hb) ?_; clear HB; intro a7 HB; (try clear hb); (try clear hb2); (try clear hk); (try clear hi); (try clear ho0); obtain ⟨Ao8, co8, eo8⟩ := Kd.R_slice a7.out; subst eo8))
  go_loopg [15] k (fun kq v15 w' => ∃ (a3 : Int), v15 = .int .i64 a3 ∧ Aside0 (impl_parts.l0 kq a1 a2 (a2.length : Int) a3 = some r) ∧ Aside0 (kq ≤ k) ∧ Aside0 (Kd.R Kd.string 9 w' w.heap.size (fun _ => True) (.slice Ao8 a2.length co8) a2) ∧ Aside0 (Below w.heap.size w w'))
  case atStart => exact ⟨(0), Ye1, H', ⟨Nat.le_refl _⟩, ⟨kr a7.out⟩, ⟨be HB.out⟩⟩
  case round =>
   clear H'; (try clear c1); (try clear p2); (try clear c4); (try clear ac); (try clear ad); (try clear c8); obtain ⟨a3, rfl, HA, HK1, aa, HB⟩ := hrel
   cases gk with
   | zero => exact absurd HA.out (by simp [impl_parts.l0])
   | succ k1 =>
    have H := HA.out; clear HA; simp only [impl_parts.l0] at H
    by_cases c9 : a3 < (a2.length : Int)
    ·rw [if_pos c9] at H
     have ag : decide (a3 < (a2.length : Int)) = true := decide_eq_true c9; clear c9
     by_cases c10 : 0 ≤ a3
     ·rw [if_pos c10] at H
      have c10b0 : decide (0 ≤ a3) = true := decide_eq_true c10; clear c10
      by_cases a8 : a3 < (a2.length : Int)
      ·rw [if_pos a8] at H
       have c11b0 : decide (a3 < (a2.length : Int)) = true := decide_eq_true a8; clear a8; replace H := Option.bind_eq_some_iff.mp H; obtain ⟨a6, ae, H⟩ := H; replace H : (if a6 = true then (impl_parts.l0 k1 a1 a2 (a2.length : Int) (wrap64 (a3 + 1))) else (some false)) = some r := H; have A12 := Aside0.mk ae; clear ae
       by_cases a9 : a6 = true
       ·subst a9
        have H1 : (impl_parts.l0 k1 a1 a2 (a2.length : Int) (wrap64 (a3 + 1))) = some r := by rw [if_pos rfl] at H; exact H
        clear H; have H := H1; clear H1; have H' := Aside0.mk H; clear H; have a4 : 0 ≤ (a3 : Int) := oda; have a5 : a3 < (a2.length : Int) := oda; obtain ⟨ah, ab, ai⟩ := Kd.at_string (Kd.R_reads' aa.out).2.2 a3 a4 a5
        cases ab
        replace a4 := eq_true a4; replace a5 := eq_true a5
        go_wp2_with (first | ((with_reducible refine gc 171 rfl ?_); refine gl (some 21) _ (#[.string (rdOf ByteArray.empty a2 a3), .bool a1]) Tryd.func171 ?_; (with_reducible refine (impl_goodPart.calls k1 (rdOf ByteArray.empty a2 a3) a1 true _ A12.out).mono ?_); rintro e w' ⟨rfl, ⟨nd, rfl⟩⟩; refine ⟨_, rfl, ?_⟩))
        go_roundg k1
        case measure => have := HK1.out; omega
        case rel => exact ⟨(wrap64 (a3 + 1)), Ye1, H', ⟨by have := HK1.out; omega⟩, ⟨kr aa.out⟩, ⟨be HB.out⟩⟩
       ·replace a9 := Bool.eq_false_iff.mpr a9; subst a9
        have H1 : (some false) = some r := by rw [if_neg (show ¬ (false = true) by decide)] at H; exact H
        clear H; have H := H1; clear H1; obtain rfl := Option.some.inj H; have a4 : 0 ≤ (a3 : Int) := oda; have a5 : a3 < (a2.length : Int) := oda; obtain ⟨ah, ab, ai⟩ := Kd.at_string (Kd.R_reads' aa.out).2.2 a3 a4 a5
        cases ab
        replace a4 := eq_true a4; replace a5 := eq_true a5
        go_wp2_with (first | ((with_reducible refine gc 171 rfl ?_); refine gl (some 21) _ (#[.string (rdOf ByteArray.empty a2 a3), .bool a1]) Tryd.func171 ?_; (with_reducible refine (impl_goodPart.calls k1 (rdOf ByteArray.empty a2 a3) a1 false _ A12.out).mono ?_); rintro e w' ⟨rfl, ⟨nd, rfl⟩⟩; refine ⟨_, rfl, ?_⟩))
        go_ret
        exact ⟨Ye2, be HB.out⟩
      ·rw [if_neg a8] at H
       exact absurd H (by simp)
     ·rw [if_neg c10] at H
      exact absurd H (by simp)
    ·rw [if_neg c9] at H
     have ag : decide (a3 < (a2.length : Int)) = false := decide_eq_false c9; clear c9; obtain rfl := Option.some.inj H
     go_wp2
     go_ret
     exact ⟨Ye2, be HB.out⟩

end Go.Proofs.YtknagppkeodggaaDoor.P


namespace Go.Proofs.YtknagppkeodggaaDoor.P
open Go.RowKit Go.Proofs.YtknagppkeodggaaDoorW.PrintWords Go.Proofs.YtknagppkeodggaaDoorW.PrintLast Go.Proofs.YtknagppkeodggaaDoorW.PrintMore
attribute [local go_sem] max2_int min2_int max_two min_two max_three min_three max_four min_four
set_option linter.unusedVariables false
set_option linter.unusedSimpArgs false

/-! ### impl_ValidPath: function 81 -/
def impl_ValidPath.f (k : Nat) (a0 : ByteArray) : Option (Bool) := (impl_parts.f k a0 false).bind fun a1 => (some a1)
theorem impl_ValidPath.mono : ∀ a0 k, LeO (impl_ValidPath.f k a0) (impl_ValidPath.f (k + 1) a0) := by
 intro a0 k
 unfold impl_ValidPath.f
 repeat' first
   | (with_reducible exact impl_parts.mono _ _ _)
   | (with_reducible exact LeO.refl _)
   | (with_reducible exact LeO.none _)
   | (with_reducible refine LeO.ite ?_ ?_)
   | (with_reducible refine LeO.bind ?_ (fun _ => ?_))
   | exact impl_parts.mono _ _ _
   | exact LeO.none _
   | refine LeO.ite ?_ ?_
   | refine LeO.bind ?_ (fun _ => ?_)
set_option maxHeartbeats 8000000 in
set_option maxRecDepth 100000 in
theorem impl_ValidPath.calls (k : Nat) (a0 : ByteArray) (r : Bool) (w : World) (hg : GOK w) (h : impl_ValidPath.f k a0 = some r) :
  Calls Tryd.prog 81 #[.string a0] w fun e w' => e = .returned (.bool r) ∧ Below w.heap.size w w' := by
 have HG := Aside0.mk hg; clear hg; have HB := Aside0.mk (Below.refl w.heap.size w); have H : ((impl_parts.f k a0 false).bind fun a1 => (some a1)) = some r := h; clear h; replace H := Option.bind_eq_some_iff.mp H; obtain ⟨a1, A20, H⟩ := H; replace H : (some a1) = some r := H; have A2 := Aside0.mk A20; clear A20; obtain rfl := Option.some.inj H
 go_enter Tryd.func81, Tryd.ntmps81
 go_wp2_with (first | ((with_reducible refine gc 145 rfl ?_); refine gl (some 4) _ (#[.string a0, .bool false]) Tryd.func145 ?_; (with_reducible refine (impl_parts.calls k a0 false a1 _ ?sideG A2.out).mono ?_); (case sideG => exact gk HG.out HB.out); rintro e w3 ⟨rfl, hb⟩; refine ⟨_, rfl, ?_⟩; refine Ya1 (below_step (be HB.out) hb) ?_; clear HB; intro HB; (try clear hb); (try clear hb2); (try clear hk); (try clear hi)))
 go_ret
 exact ⟨Ye2, be HB.out⟩

end Go.Proofs.YtknagppkeodggaaDoor.P


namespace Go.Proofs.YtknagppkeodggaaDoor.P
open Go.RowKit Go.Proofs.YtknagppkeodggaaDoorW.PrintWords Go.Proofs.YtknagppkeodggaaDoorW.PrintLast Go.Proofs.YtknagppkeodggaaDoorW.PrintMore
attribute [local go_sem] max2_int min2_int max_two min_two max_three min_three max_four min_four
set_option linter.unusedVariables false
set_option linter.unusedSimpArgs false

/-! ### impl_ValidPatch: function 42 -/
/- Walked by hand (written by wip/tools/mkvalid.py). -/
attribute [local go_sem high] eqA118
def impl_ValidPatch.l0 : Nat → List S120 → Int → Int → List S120 → Option Bool
 | 0, _, _, _, _ => none
 | k + 1, x10, x11, x12, x1112000 => if x12 < x11 then (if 0 ≤ x12 then (if x12 < (x10.length : Int) then ((impl_ValidPath.f k ((rd_T120 x10 x12).f0)).bind fun t1114 => (if t1114 = true then (if x12 > 0 then (if 0 ≤ (wrap64 (x12 - 1)) then (if (wrap64 (x12 - 1)) < (x1112000.length : Int) then (if ((Op.bytesLess (((rd_T120 x1112000 (wrap64 (x12 - 1))).f0).toList) (((rd_T120 x10 x12).f0).toList)) = true) then ((impl_goodFile.f ((rd_T120 x10 x12).f1.f0) ((rd_T120 x10 x12).f1.f1) ((rd_T120 x10 x12).f1.f2)).bind fun t1 => (if t1 = true then ((impl_goodFile.f ((rd_T120 x10 x12).f2.f0) ((rd_T120 x10 x12).f2.f1) ((rd_T120 x10 x12).f2.f2)).bind fun t2 => (if t2 = true then (if (((rd_T120 x10 x12).f1.f0) == ((rd_T120 x10 x12).f2.f0) && ((((rd_T120 x10 x12).f1.f1).toList) == (((rd_T120 x10 x12).f2.f1).toList) && (((rd_T120 x10 x12).f1.f2) == ((rd_T120 x10 x12).f2.f2)))) = true then (some false) else (impl_ValidPatch.l0 k x10 x11 (wrap64 (x12 + 1)) x1112000)) else (some false))) else (some false))) else (some false)) else (none)) else (none)) else ((impl_goodFile.f ((rd_T120 x10 x12).f1.f0) ((rd_T120 x10 x12).f1.f1) ((rd_T120 x10 x12).f1.f2)).bind fun t1 => (if t1 = true then ((impl_goodFile.f ((rd_T120 x10 x12).f2.f0) ((rd_T120 x10 x12).f2.f1) ((rd_T120 x10 x12).f2.f2)).bind fun t2 => (if t2 = true then (if (((rd_T120 x10 x12).f1.f0) == ((rd_T120 x10 x12).f2.f0) && ((((rd_T120 x10 x12).f1.f1).toList) == (((rd_T120 x10 x12).f2.f1).toList) && (((rd_T120 x10 x12).f1.f2) == ((rd_T120 x10 x12).f2.f2)))) = true then (some false) else (impl_ValidPatch.l0 k x10 x11 (wrap64 (x12 + 1)) x1112000)) else (some false))) else (some false)))) else (some false))) else (none)) else (none)) else (some true)
def impl_ValidPatch.f (k : Nat) (l0_0 : List S120) : Option Bool := if (l0_0.length : Int) > 200 then (some false) else (impl_ValidPatch.l0 k l0_0 (l0_0.length : Int) 0 l0_0)
theorem impl_ValidPatch.mono_l : ∀ k, (∀ y0 y1 y2 y3, LeO (impl_ValidPatch.l0 k y0 y1 y2 y3) (impl_ValidPatch.l0 (k + 1) y0 y1 y2 y3))
 | 0 => fun _ _ _ _ r h => by simp [impl_ValidPatch.l0] at h
 | k + 1 => by
  have ih0 := impl_ValidPatch.mono_l k
  intro y0 y1 y2 y3
  unfold impl_ValidPatch.l0
  with_reducible repeat' first
  | exact ih0 _ _ _ _
  | exact impl_ValidPath.mono _ _
  | exact LeO.refl _
  | exact LeO.none _
  | refine LeO.ite ?_ ?_
  | refine LeO.bind ?_ (fun _ => ?_)
theorem impl_ValidPatch.mono : ∀ a0 k, LeO (impl_ValidPatch.f k a0) (impl_ValidPatch.f (k + 1) a0) := fun a0 k => LeO.ite (LeO.refl _) (impl_ValidPatch.mono_l k _ _ _ _)
def impl_ValidPatch.tT : Bool × List (List Nat × List Nat) := (true, [([], []), ([0], [0]), ([1], [1]), ([2], [2]), ([3, 2], [3]), ([4], [4]), ([5, 4], [4, 5]), ([6, 4, 4], [4, 6]), ([7], [7]), ([8, 7], [7, 8]), ([7], [7]), ([10, 7], [7, 10]), ([9, 11, 7], [7, 9, 11]), ([12, 7], [7, 12]), ([13, 7], [7, 13]), ([7], [7]), ([15, 7], [7, 15]), ([14, 16, 7], [7, 14, 16]), ([7, 17, 4], [4, 7, 17]), ([4, 18], [4, 18]), ([19, 7], [19]), ([20], [20]), ([21, 20], [20, 21]), ([22, 20, 20], [20, 22]), ([23, 20], [20, 23]), ([20, 24], [20, 24]), ([25, 23], [25]), ([26], [26]), ([27, 26], [26, 27]), ([28, 26, 26], [26, 28]), ([29, 26], [26, 29]), ([26, 30], [26, 30]), ([31, 29], [31]), ([32], [32]), ([33, 32], [32, 33]), ([32], [32]), ([35, 32], [32, 35]), ([34, 36, 32], [32, 34, 36]), ([32, 37], [32, 37])])
def impl_ValidPatch.tB : List Nat := [0, 1, 3, 7, 15, 31, 63, 127, 255, 511, 255, 1279, 4095, 8191, 16383, 255, 33023, 131071, 262143, 524287, 1048575, 2097151, 4194303, 8388607, 16777215, 33554431, 67108863, 134217727, 268435455, 536870911, 1073741823, 2147483647, 4294967295, 8589934591, 17179869183, 8589934591, 42949672959, 137438953471, 274877906943]
theorem impl_ValidPatch.tab : rtab .any (opsOf Tryd.f42 6) = impl_ValidPatch.tT := by kernel_rfl
theorem impl_ValidPatch.bits : waitsOk impl_ValidPatch.tT.2 impl_ValidPatch.tB = true := by kernel_rfl
def impl_ValidPatch.T (k : Nat) (l : List S120) (x : Int) (en : S120) (r : Bool) : Prop :=
 (impl_goodFile.f en.f1.f0 en.f1.f1 en.f1.f2 = some false ∧ r = false) ∨ (impl_goodFile.f en.f1.f0 en.f1.f1 en.f1.f2 = some true ∧ ((impl_goodFile.f en.f2.f0 en.f2.f1 en.f2.f2 = some false ∧ r = false) ∨ (impl_goodFile.f en.f2.f0 en.f2.f1 en.f2.f2 = some true ∧ (((en.f1.f0 == en.f2.f0 && (en.f1.f1.toList == en.f2.f1.toList && (en.f1.f2 == en.f2.f2))) = true ∧ r = false) ∨ ((en.f1.f0 == en.f2.f0 && (en.f1.f1.toList == en.f2.f1.toList && (en.f1.f2 == en.f2.f2))) = false ∧ impl_ValidPatch.l0 k l (l.length : Int) (wrap64 (x + 1)) l = some r)))))
theorem impl_ValidPatch.tail {k : Nat} {l : List S120} {x : Int} {en : S120} {r : Bool} (h : ((impl_goodFile.f en.f1.f0 en.f1.f1 en.f1.f2).bind fun t1 => (if t1 = true then ((impl_goodFile.f en.f2.f0 en.f2.f1 en.f2.f2).bind fun t2 => (if t2 = true then (if (en.f1.f0 == en.f2.f0 && (en.f1.f1.toList == en.f2.f1.toList && (en.f1.f2 == en.f2.f2))) = true then (some false) else impl_ValidPatch.l0 k l (l.length : Int) (wrap64 (x + 1)) l) else (some false))) else (some false))) = some r) : impl_ValidPatch.T k l x en r := by
 obtain ⟨t1, h1, h⟩ := Option.bind_eq_some_iff.1 h
 cases t1 with
 | false => exact .inl ⟨h1, (Option.some.inj h).symm⟩
 | true =>
  obtain ⟨t2, h2, h⟩ := Option.bind_eq_some_iff.1 h
  refine .inr ⟨h1, ?_⟩
  cases t2 with
  | false => exact .inl ⟨h2, (Option.some.inj h).symm⟩
  | true =>
   refine .inr ⟨h2, ?_⟩
   rw [if_pos rfl] at h
   generalize (en.f1.f0 == en.f2.f0 && (en.f1.f1.toList == en.f2.f1.toList && (en.f1.f2 == en.f2.f2))) = s at h
   cases s with
   | true => exact .inl ⟨rfl, (Option.some.inj h).symm⟩
   | false => exact .inr ⟨rfl, h⟩
theorem impl_ValidPatch.leaf {k : Nat} {l : List S120} {x : Int} {r : Bool} (h : impl_ValidPatch.l0 (k + 1) l (l.length : Int) x l = some r) (hx : x < (l.length : Int)) : 0 ≤ x ∧ ∃ j : Int, 0 ≤ j ∧ j < (l.length : Int) ∧ ((impl_ValidPath.f k (rd_T120 l x).f0 = some false ∧ r = false) ∨ (impl_ValidPath.f k (rd_T120 l x).f0 = some true ∧ ((decide (0 < x) = false ∧ impl_ValidPatch.T k l x (rd_T120 l x) r) ∨ (decide (0 < x) = true ∧ wrap64 (x - 1) = j ∧ ((Op.bytesLess (rd_T120 l j).f0.toList (rd_T120 l x).f0.toList = false ∧ r = false) ∨ (Op.bytesLess (rd_T120 l j).f0.toList (rd_T120 l x).f0.toList = true ∧ impl_ValidPatch.T k l x (rd_T120 l x) r)))))) := by
 unfold impl_ValidPatch.l0 at h
 rw [if_pos hx] at h
 by_cases c : 0 ≤ x
 rotate_left
 ·rw [if_neg c] at h; cases h
 rw [if_pos c, if_pos hx] at h
 refine ⟨c, ?_⟩
 obtain ⟨t, h1, h⟩ := Option.bind_eq_some_iff.1 h
 cases t with
 | false => exact ⟨x, c, hx, .inl ⟨h1, (Option.some.inj h).symm⟩⟩
 | true =>
  rw [if_pos rfl] at h
  by_cases d : x > 0
  ·rw [if_pos d] at h
   by_cases e : 0 ≤ wrap64 (x - 1)
   rotate_left
   ·rw [if_neg e] at h; cases h
   rw [if_pos e] at h
   by_cases e2 : wrap64 (x - 1) < (l.length : Int)
   rotate_left
   ·rw [if_neg e2] at h; cases h
   rw [if_pos e2] at h
   refine ⟨_, e, e2, .inr ⟨h1, .inr ⟨decide_eq_true d, rfl, ?_⟩⟩⟩
   by_cases b : Op.bytesLess (rd_T120 l (wrap64 (x - 1))).f0.toList (rd_T120 l x).f0.toList = true
   ·rw [if_pos b] at h; exact .inr ⟨b, impl_ValidPatch.tail h⟩
   ·rw [if_neg b] at h; exact .inl ⟨Bool.eq_false_iff.mpr b, (Option.some.inj h).symm⟩
  ·rw [if_neg d] at h
   exact ⟨x, c, hx, .inr ⟨h1, .inl ⟨decide_eq_false d, impl_ValidPatch.tail h⟩⟩⟩
set_option maxHeartbeats 4000000 in
set_option maxRecDepth 100000 in
theorem impl_ValidPatch.calls (k : Nat) (A0_0 : Option Addr) (c0_0 : Nat) (l0_0 : List S120) (r : Bool) (w : World) (hg : GOK w) (hr0_0 : Kd.C k120 w A0_0 l0_0.length l0_0) (hc0_0 : l0_0.length ≤ c0_0) (h : impl_ValidPatch.f k l0_0 = some r) :
  Calls Tryd.prog 42 #[.agg #[.slice A0_0 l0_0.length c0_0]] w fun e w' => e = .returned (.bool r) ∧ Below w.heap.size w w' := by
 have hu56 := Tryd.underlying52
 have hu122 := Tryd.underlying118
 have hu125 := Tryd.underlying120
 have HG := Aside0.mk hg
 have HR0 := Aside0.mk hr0_0
 have HC0 := Aside0.mk hc0_0
 have HB := Aside0.mk (Below.refl w.heap.size w)
 clear hg hr0_0 hc0_0
 unfold impl_ValidPatch.f at h
 by_cases c2 : (l0_0.length : Int) > 200
 ·rw [if_pos c2] at h
  have c2b0 : decide (200 < (l0_0.length : Int)) = true := decide_eq_true c2
  have c2b1 : decide (200 < l0_0.length) = true := decide_eq_true (by omega)
  clear c2
  obtain rfl := Option.some.inj h
  go_enter Tryd.func42, Tryd.ntmps42
  go_wp2_with (first | ((with_reducible refine gd 1 rfl ?_); refine bx 1 52 (#[.slice A0_0 l0_0.length c0_0]) ?_; intro b2 hg w1 hbox hb; have G2 := Aside0.mk (bs hg (be HB.out)); have HB_ := Aside0.mk (below_step (be HB.out) hb); clear HB; have HB := HB_; clear HB_; have B2 := Aside0.mk hbox; clear hb hbox hg; have ⟨hz2, hf2⟩ := Yc1 B2.out))
  go_ret
  exact ⟨rfl, be HB.out⟩
 ·rw [if_neg c2] at h
  have c2b0 : decide (200 < (l0_0.length : Int)) = false := decide_eq_false c2
  have c2b1 : decide (200 < l0_0.length) = false := decide_eq_false (by omega)
  have HLE := Aside0.mk (show l0_0.length ≤ 200 from by omega)
  clear c2
  have H' := Aside0.mk h
  clear h
  go_enter Tryd.func42, Tryd.ntmps42
  go_wp2_with (first | ((with_reducible refine gd 1 rfl ?_); refine bx 1 52 (#[.slice A0_0 l0_0.length c0_0]) ?_; intro b2 hg w1 hbox hb; have G2 := Aside0.mk (bs hg (be HB.out)); have HB_ := Aside0.mk (below_step (be HB.out) hb); clear HB; have HB := HB_; clear HB_; have B2 := Aside0.mk hbox; clear hb hbox hg; have ⟨hz2, hf2⟩ := Yc1 B2.out))
  go_loopg [12] k (fun kq v12 w' => ∃ x : Int, v12 = .int .i64 x ∧ Aside0 (impl_ValidPatch.l0 kq l0_0 (l0_0.length : Int) x l0_0 = some r) ∧ Aside0 (w'.heap[b2]? = some (.cells #[.slice A0_0 l0_0.length c0_0] 52 (0, 0))) ∧ Aside0 (Below w.heap.size w w'))
  case atStart => exact ⟨0, rfl, H', ⟨B2.out⟩, ⟨be HB.out⟩⟩
  case round =>
   clear H' c2b0 c2b1 HB B2 hz2 hf2
   obtain ⟨x, rfl, HA, B2, HB⟩ := hrel
   cases gk with
   | zero => exact absurd HA.out (by simp [impl_ValidPatch.l0])
   | succ k1 =>
    have HA1 := HA.out
    clear HA
    by_cases c7 : x < (l0_0.length : Int)
    rotate_left
    ·unfold impl_ValidPatch.l0 at HA1
     rw [if_neg c7] at HA1
     obtain rfl := Option.some.inj HA1
     have c7b0 : decide (x < (l0_0.length : Int)) = false := decide_eq_false c7
     clear c7 HA1
     have ⟨hz2, hf2⟩ := Yc1 B2.out
     go_wp2
     go_ret
     exact ⟨rfl, be HB.out⟩
    obtain ⟨p1, j, p2, q2, HL⟩ := impl_ValidPatch.leaf HA1 c7
    clear HA1
    obtain ⟨ad, e1, hx0, hx1, hx2, hx3, hx4, hx5, hx6⟩ := at_T120 (Kd.C_below HR0.out HB.out) x p1 c7
    cases e1
    obtain ⟨ad', e2, hp0, hp1, hp2, hp3, hp4, hp5, hp6⟩ := at_T120 HR0.out j p2 q2
    cases e2
    generalize rd_T120 l0_0 x = en at hx0 hx1 hx2 hx3 hx4 hx5 hx6 HL
    generalize rd_T120 l0_0 j = pv at hp0 hp1 hp2 hp3 hp4 hp5 hp6 HL
    have c7b0 : decide (x < (l0_0.length : Int)) = true := decide_eq_true c7
    have c8b0 : decide (0 ≤ x) = true := decide_eq_true p1
    have c14b0 : decide (0 ≤ j) = true := decide_eq_true p2
    have c15b0 : decide (j < (l0_0.length : Int)) = true := decide_eq_true q2
    replace p1 := eq_true p1
    replace c7 := eq_true c7
    replace p2 := eq_true p2
    replace q2 := eq_true q2
    have ⟨hz2, hf2⟩ := Yc1 B2.out
    go_wp2_with (first | ((with_reducible refine gd 4 rfl ?_); refine bx 4 120 (#[.string ByteArray.empty, .bool false, .string ByteArray.empty, .bool false, .bool false, .string ByteArray.empty, .bool false]) ?_; intro b8 hg w3 hbox hb; have G8 := Aside0.mk (bs hg (be HB.out)); have N2_8 := Aside0.mk (show b2 ≠ b8 from by have := blk_lt B2.out; omega); (try clear hz2 hf2); have HB_ := Aside0.mk (below_step (be HB.out) hb); have B2_ := Aside0.mk (bb B2 hb); clear HB B2; have HB := HB_; have B2 := B2_; clear HB_ B2_; clear hb; have B8 := Aside0.mk hbox; clear hbox hg; have ⟨hz2, hf2⟩ := Yc1 B2.out; have ⟨hc0, hc1, hc2, hc3, hc4, hc5, hc6, he0, he1, he2, he3, he4, he5, he6⟩ := Yc7 B8.out) | ((with_reducible refine gate_store (t := 120) rfl ?_); go_loud (refine store_event (w1 := (((((((w3.setCell ⟨b8, 0, none⟩ (.string en.f0)).setCell ⟨b8, 1, none⟩ (.bool en.f1.f0)).setCell ⟨b8, 2, none⟩ (.string en.f1.f1)).setCell ⟨b8, 3, none⟩ (.bool en.f1.f2)).setCell ⟨b8, 4, none⟩ (.bool en.f2.f0)).setCell ⟨b8, 5, none⟩ (.string en.f2.f1)).setCell ⟨b8, 6, none⟩ (.bool en.f2.f2))) ?hg rfl ?hd ?hr ?_; (case hg => rfl); (case hd => rfl); (case hr => first | (go_simp; done) | (go_simp; rfl)); intro w8 hw; have S9 := set7 B8.out hw; clear hw; (try clear hz2 hf2); clear hc0 hc1 hc2 hc3 hc4 hc5 hc6 he0 he1 he2 he3 he4 he5 he6; have B2_ := Aside0.mk (blk_grown B2.out S9.2.1 (ne_some N2_8.out)); have HB_ := Aside0.mk (below_own HB.out S9.2.1 G8.out); have B8_ := Aside0.mk S9.1; clear S9 HB B2 B8; have HB := HB_; have B2 := B2_; have B8 := B8_; clear HB_ B2_ B8_)))
    unfold impl_ValidPatch.T at HL
    rcases HL with ⟨h1, rfl⟩ | ⟨h1, ⟨c12b0, ⟨h2, rfl⟩ | ⟨h2, ⟨h3, rfl⟩ | ⟨h3, ⟨c21b0, rfl⟩ | ⟨c21b0, HN⟩⟩⟩⟩ | ⟨c12b0, hji, ⟨c16b0, rfl⟩ | ⟨c16b0, ⟨h2, rfl⟩ | ⟨h2, ⟨h3, rfl⟩ | ⟨h3, ⟨c21b0, rfl⟩ | ⟨c21b0, HN⟩⟩⟩⟩⟩⟩
    all_goals have A1 := Aside0.mk h1
    all_goals (try have A2 := Aside0.mk h2)
    all_goals (try have A3 := Aside0.mk h3)
    all_goals (try have HN' := Aside0.mk HN)
    all_goals (try have hjiw := (i64_w (x - 1)).trans hji)
    all_goals (try clear HN)
    all_goals (try clear h3)
    all_goals (try clear h2)
    all_goals clear h1 hx0 hx1 hx2 hx3 hx4 hx5 hx6
    all_goals (have B2_ := Aside0.mk (blk_drew B2.out); have B8_ := Aside0.mk (blk_drew B8.out); have HB_ := Aside0.mk (below_drew1 HB.out); clear B2 B8 HB; have B2 := B2_; have B8 := B8_; have HB := HB_; clear B2_ B8_ HB_)
    all_goals (refine start_ (n := 39) (S := fun w' => w'.cell? ⟨b8, 0, none⟩ = some (.string en.f0) ∧ w'.cell? ⟨b8, 1, none⟩ = some (.bool en.f1.f0) ∧ w'.cell? ⟨b8, 2, none⟩ = some (.string en.f1.f1) ∧ w'.cell? ⟨b8, 3, none⟩ = some (.bool en.f1.f2) ∧ w'.cell? ⟨b8, 4, none⟩ = some (.bool en.f2.f0) ∧ w'.cell? ⟨b8, 5, none⟩ = some (.string en.f2.f1) ∧ w'.cell? ⟨b8, 6, none⟩ = some (.bool en.f2.f2) ∧ w'.cell? ⟨b2, 0, none⟩ = some (.slice (some ad) l0_0.length c0_0) ∧ w'.cell? (ad.add (j.toNat * 7)) = some (.string pv.f0) ∧ w'.cell? ⟨(ad.add (j.toNat * 7)).block, (ad.add (j.toNat * 7)).off + 1, none⟩ = some (.bool pv.f1.f0) ∧ w'.cell? ⟨(ad.add (j.toNat * 7)).block, (ad.add (j.toNat * 7)).off + 2, none⟩ = some (.string pv.f1.f1) ∧ w'.cell? ⟨(ad.add (j.toNat * 7)).block, (ad.add (j.toNat * 7)).off + 3, none⟩ = some (.bool pv.f1.f2) ∧ w'.cell? ⟨(ad.add (j.toNat * 7)).block, (ad.add (j.toNat * 7)).off + 4, none⟩ = some (.bool pv.f2.f0) ∧ w'.cell? ⟨(ad.add (j.toNat * 7)).block, (ad.add (j.toNat * 7)).off + 5, none⟩ = some (.string pv.f2.f1) ∧ w'.cell? ⟨(ad.add (j.toNat * 7)).block, (ad.add (j.toNat * 7)).off + 6, none⟩ = some (.bool pv.f2.f2)) (ds := []) (fb 39 0) (by kernel_rfl) rfl rfl (by exact ⟨(blk_cell B8.out 0).trans rfl, (blk_cell B8.out 1).trans rfl, (blk_cell B8.out 2).trans rfl, (blk_cell B8.out 3).trans rfl, (blk_cell B8.out 4).trans rfl, (blk_cell B8.out 5).trans rfl, (blk_cell B8.out 6).trans rfl, (blk_cell B2.out 0).trans rfl, pw_cell_below HB.out hp0, pw_cell_below HB.out hp1, pw_cell_below HB.out hp2, pw_cell_below HB.out hp3, pw_cell_below HB.out hp4, pw_cell_below HB.out hp5, pw_cell_below HB.out hp6⟩) (fun hHeld => ?_); refine with_tabW impl_ValidPatch.tab impl_ValidPatch.bits (fun HT_ HW_ => ?_); generalize World.drew _ = w9 at B2 B8 HB hHeld ⊢)
    all_goals ((first | refine pu 0 17 (fb 39 1) HT_ ?_ | refine pn 0 17 (fb 39 1) HT_ ?_); (first | refine tk 1 18 (fb 39 3) HT_ HW_ hHeld ?_ | refine pn 1 18 (fb 39 3) HT_ ?_))
    all_goals (first | (refine one_ (i := 2) (N := some 19) (fb 39 7) rfl rfl (one_of HT_.out (by kernel_rfl)) (by decide) (fun K hK => ?_); refine gs _ (#[.string en.f0]) Tryd.func81 ?_; (with_reducible refine (impl_ValidPath.calls k1 en.f0 _ _ (GOK.below HG.out HB.out) A1.out).mono ?_); rintro e w4 ⟨rfl, hb⟩; refine ⟨_, rfl, ?_⟩; have HB_ := Aside0.mk (below_step (be HB.out) hb); have B2_ := Aside0.mk (bb B2 hb); have B8_ := Aside0.mk (bb B8 hb); clear HB B2 B8; have HB := HB_; have B2 := B2_; have B8 := B8_; clear HB_ B2_ B8_; clear hb; refine hK.out _ _ (by exact ⟨(blk_cell B8.out 0).trans rfl, (blk_cell B8.out 1).trans rfl, (blk_cell B8.out 2).trans rfl, (blk_cell B8.out 3).trans rfl, (blk_cell B8.out 4).trans rfl, (blk_cell B8.out 5).trans rfl, (blk_cell B8.out 6).trans rfl, (blk_cell B2.out 0).trans rfl, pw_cell_below HB.out hp0, pw_cell_below HB.out hp1, pw_cell_below HB.out hp2, pw_cell_below HB.out hp3, pw_cell_below HB.out hp4, pw_cell_below HB.out hp5, pw_cell_below HB.out hp6⟩) (fun hHeld => ?_); clear hK K; refine norm_ (a' := ?_) ?_ ?_; rotate_left; (·simp only [ups]; rfl)) | (refine pn 2 19 (fb 39 7) HT_ ?_))
    all_goals ((first | refine pu 3 20 (fb 39 15) HT_ ?_ | refine pn 3 20 (fb 39 15) HT_ ?_); (first | refine pu 4 21 (fb 39 31) HT_ ?_ | refine pn 4 21 (fb 39 31) HT_ ?_); (first | refine pu 5 22 (fb 39 63) HT_ ?_ | refine pn 5 22 (fb 39 63) HT_ ?_); (first | refine pu 6 23 (fb 39 127) HT_ ?_ | refine pn 6 23 (fb 39 127) HT_ ?_); (first | refine pu 7 24 (fb 39 255) HT_ ?_ | refine pn 7 24 (fb 39 255) HT_ ?_); (first | refine pu 8 25 (fb 39 511) HT_ ?_ | refine pn 8 25 (fb 39 511) HT_ ?_); (first | refine tk 9 26 (fb 39 1023) HT_ HW_ hHeld ?_ | refine pn 9 26 (fb 39 1023) HT_ ?_); (first | refine pu 10 27 (fb 39 2047) HT_ ?_ | refine pn 10 27 (fb 39 2047) HT_ ?_); (first | refine pu 11 28 (fb 39 4095) HT_ ?_ | refine pn 11 28 (fb 39 4095) HT_ ?_); (first | refine pu 12 29 (fb 39 8191) HT_ ?_ | refine pn 12 29 (fb 39 8191) HT_ ?_); (first | refine pu 13 30 (fb 39 16383) HT_ ?_ | refine pn 13 30 (fb 39 16383) HT_ ?_); (first | refine tk 14 31 (fb 39 32767) HT_ HW_ hHeld ?_ | refine pn 14 31 (fb 39 32767) HT_ ?_); (first | refine pu 15 32 (fb 39 65535) HT_ ?_ | refine pn 15 32 (fb 39 65535) HT_ ?_); (first | refine tk 16 33 (fb 39 131071) HT_ HW_ hHeld ?_ | refine pn 16 33 (fb 39 131071) HT_ ?_); (first | refine pu 17 34 (fb 39 262143) HT_ ?_ | refine pn 17 34 (fb 39 262143) HT_ ?_); (first | refine pu 18 35 (fb 39 524287) HT_ ?_ | refine pn 18 35 (fb 39 524287) HT_ ?_); (first | refine pu 19 36 (fb 39 1048575) HT_ ?_ | refine pn 19 36 (fb 39 1048575) HT_ ?_); (first | refine pu 20 37 (fb 39 2097151) HT_ ?_ | refine pn 20 37 (fb 39 2097151) HT_ ?_); (first | refine pu 21 38 (fb 39 4194303) HT_ ?_ | refine pn 21 38 (fb 39 4194303) HT_ ?_); (first | refine tk 22 39 (fb 39 8388607) HT_ HW_ hHeld ?_ | refine pn 22 39 (fb 39 8388607) HT_ ?_))
    all_goals (first | (refine one_ (i := 23) (N := some 40) (fb 39 16777215) rfl rfl (one_of HT_.out (by kernel_rfl)) (by decide) (fun K hK => ?_); refine gs _ (#[.agg #[.bool en.f1.f0, .string en.f1.f1, .bool en.f1.f2]]) Tryd.func107 ?_; (with_reducible refine (impl_goodFile.calls en.f1.f0 en.f1.f1 en.f1.f2 _ _ A2.out).mono ?_); rintro e w4 ⟨rfl, hb⟩; refine ⟨_, rfl, ?_⟩; have HB_ := Aside0.mk (below_step (be HB.out) hb); have B2_ := Aside0.mk (bb B2 hb); have B8_ := Aside0.mk (bb B8 hb); clear HB B2 B8; have HB := HB_; have B2 := B2_; have B8 := B8_; clear HB_ B2_ B8_; clear hb; refine hK.out _ _ (by exact ⟨(blk_cell B8.out 0).trans rfl, (blk_cell B8.out 1).trans rfl, (blk_cell B8.out 2).trans rfl, (blk_cell B8.out 3).trans rfl, (blk_cell B8.out 4).trans rfl, (blk_cell B8.out 5).trans rfl, (blk_cell B8.out 6).trans rfl, (blk_cell B2.out 0).trans rfl, pw_cell_below HB.out hp0, pw_cell_below HB.out hp1, pw_cell_below HB.out hp2, pw_cell_below HB.out hp3, pw_cell_below HB.out hp4, pw_cell_below HB.out hp5, pw_cell_below HB.out hp6⟩) (fun hHeld => ?_); clear hK K; refine norm_ (a' := ?_) ?_ ?_; rotate_left; (·simp only [ups]; rfl)) | (refine pn 23 40 (fb 39 16777215) HT_ ?_))
    all_goals ((first | refine pu 24 41 (fb 39 33554431) HT_ ?_ | refine pn 24 41 (fb 39 33554431) HT_ ?_); (first | refine pu 25 42 (fb 39 67108863) HT_ ?_ | refine pn 25 42 (fb 39 67108863) HT_ ?_); (first | refine pu 26 43 (fb 39 134217727) HT_ ?_ | refine pn 26 43 (fb 39 134217727) HT_ ?_); (first | refine pu 27 44 (fb 39 268435455) HT_ ?_ | refine pn 27 44 (fb 39 268435455) HT_ ?_); (first | refine tk 28 45 (fb 39 536870911) HT_ HW_ hHeld ?_ | refine pn 28 45 (fb 39 536870911) HT_ ?_))
    all_goals (first | (refine one_ (i := 29) (N := some 46) (fb 39 1073741823) rfl rfl (one_of HT_.out (by kernel_rfl)) (by decide) (fun K hK => ?_); refine gs _ (#[.agg #[.bool en.f2.f0, .string en.f2.f1, .bool en.f2.f2]]) Tryd.func107 ?_; (with_reducible refine (impl_goodFile.calls en.f2.f0 en.f2.f1 en.f2.f2 _ _ A3.out).mono ?_); rintro e w4 ⟨rfl, hb⟩; refine ⟨_, rfl, ?_⟩; have HB_ := Aside0.mk (below_step (be HB.out) hb); have B2_ := Aside0.mk (bb B2 hb); have B8_ := Aside0.mk (bb B8 hb); clear HB B2 B8; have HB := HB_; have B2 := B2_; have B8 := B8_; clear HB_ B2_ B8_; clear hb; refine hK.out _ _ (by exact ⟨(blk_cell B8.out 0).trans rfl, (blk_cell B8.out 1).trans rfl, (blk_cell B8.out 2).trans rfl, (blk_cell B8.out 3).trans rfl, (blk_cell B8.out 4).trans rfl, (blk_cell B8.out 5).trans rfl, (blk_cell B8.out 6).trans rfl, (blk_cell B2.out 0).trans rfl, pw_cell_below HB.out hp0, pw_cell_below HB.out hp1, pw_cell_below HB.out hp2, pw_cell_below HB.out hp3, pw_cell_below HB.out hp4, pw_cell_below HB.out hp5, pw_cell_below HB.out hp6⟩) (fun hHeld => ?_); clear hK K; refine norm_ (a' := ?_) ?_ ?_; rotate_left; (·simp only [ups]; rfl)) | (refine pn 29 46 (fb 39 1073741823) HT_ ?_))
    all_goals ((first | refine pu 30 47 (fb 39 2147483647) HT_ ?_ | refine pn 30 47 (fb 39 2147483647) HT_ ?_); (first | refine pu 31 48 (fb 39 4294967295) HT_ ?_ | refine pn 31 48 (fb 39 4294967295) HT_ ?_); (first | refine pu 32 49 (fb 39 8589934591) HT_ ?_ | refine pn 32 49 (fb 39 8589934591) HT_ ?_); (first | refine pu 33 50 (fb 39 17179869183) HT_ ?_ | refine pn 33 50 (fb 39 17179869183) HT_ ?_); (first | refine tk 34 51 (fb 39 34359738367) HT_ HW_ hHeld ?_ | refine pn 34 51 (fb 39 34359738367) HT_ ?_); (first | refine pu 35 52 (fb 39 68719476735) HT_ ?_ | refine pn 35 52 (fb 39 68719476735) HT_ ?_); (first | refine tk 36 53 (fb 39 137438953471) HT_ HW_ hHeld ?_ | refine pn 36 53 (fb 39 137438953471) HT_ ?_); (first | refine pu 37 54 (fb 39 274877906943) HT_ ?_ | refine pn 37 54 (fb 39 274877906943) HT_ ?_); (first | refine pu 38 55 (fb 39 549755813887) HT_ ?_ | refine pn 38 55 (fb 39 549755813887) HT_ ?_))
    all_goals (refine done_ (done_of HT_.out (by kernel_rfl)) ?_)
    all_goals try go_wp2
    all_goals first
    | (go_ret; exact ⟨rfl, be HB.out⟩)
    | (go_roundg k1; (case measure => omega); (case rel => exact ⟨wrap64 (x + 1), rfl, HN', ⟨B2.out⟩, ⟨be HB.out⟩⟩))


end Go.Proofs.YtknagppkeodggaaDoor.P


namespace Go.Proofs.YtknagppkeodggaaDoor.P
open Go.RowKit Go.Proofs.YtknagppkeodggaaDoorW.PrintWords Go.Proofs.YtknagppkeodggaaDoorW.PrintLast Go.Proofs.YtknagppkeodggaaDoorW.PrintMore
attribute [local go_sem] max2_int min2_int max_two min_two max_three min_three max_four min_four
set_option linter.unusedVariables false
set_option linter.unusedSimpArgs false

/-! ### laws_markText: function 156 -/
def laws_markText.l0 : Nat → Int → ByteArray → Option (ByteArray)
 | 0, _, _ => none
 | k + 1, x0, x3 => if x0 > 0 then ((some (([(wrap64 (48 + (Int.tmod x0 10))) % 256] : List Int) : List Int)).bind fun a3 => (if (strOfNums a3).size + x3.size ≤ 9223372036854775807 then (laws_markText.l0 k (wrap64 (Int.tdiv x0 10)) ((strOfNums a3) ++ x3)) else (none))) else (if 1 + x3.size ≤ 9223372036854775807 then (some ((⟨#[109]⟩ : ByteArray) ++ x3)) else (none))
def laws_markText.f (k : Nat) (a0 : Int) : Option (ByteArray) := if a0 ≤ 0 then (some (⟨#[109, 48]⟩ : ByteArray)) else (laws_markText.l0 k a0 (⟨#[]⟩ : ByteArray))
theorem laws_markText.mono_l : ∀ k, (∀ y0 y1, LeO (laws_markText.l0 k y0 y1) (laws_markText.l0 (k + 1) y0 y1))
 | 0 => fun _ _ r h => by simp [laws_markText.l0] at h
 | k + 1 => by
  have ih0 := laws_markText.mono_l k
  ·intro y0 y1
   unfold laws_markText.l0
   repeat' first
   | (with_reducible exact ih0 _ _)
   | (with_reducible exact LeO.refl _)
   | (with_reducible exact LeO.none _)
   | (with_reducible refine LeO.ite ?_ ?_)
   | (with_reducible refine LeO.bind ?_ (fun _ => ?_))
   | exact ih0 _ _
   | exact LeO.none _
   | refine LeO.ite ?_ ?_
   | refine LeO.bind ?_ (fun _ => ?_)
theorem laws_markText.mono : ∀ a0 k, LeO (laws_markText.f k a0) (laws_markText.f (k + 1) a0) := by
 intro a0 k; have ih0 := laws_markText.mono_l k
 unfold laws_markText.f
 repeat' first
   | (with_reducible exact ih0 _ _)
   | (with_reducible exact LeO.refl _)
   | (with_reducible exact LeO.none _)
   | (with_reducible refine LeO.ite ?_ ?_)
   | (with_reducible refine LeO.bind ?_ (fun _ => ?_))
   | exact ih0 _ _
   | exact LeO.none _
   | refine LeO.ite ?_ ?_
   | refine LeO.bind ?_ (fun _ => ?_)
set_option maxHeartbeats 8000000 in
set_option maxRecDepth 100000 in
theorem laws_markText.calls (k : Nat) (a0 : Int) (r : ByteArray) (w : World) (h : laws_markText.f k a0 = some r) :
  Calls Tryd.prog 156 #[.int .i64 a0] w fun e w' => e = .returned (.string r) ∧ Below w.heap.size w w' := by
 have HB := Aside0.mk (Below.refl w.heap.size w); have H : (if a0 ≤ 0 then (some (⟨#[109, 48]⟩ : ByteArray)) else (laws_markText.l0 k a0 (⟨#[]⟩ : ByteArray))) = some r := h; clear h
 by_cases c2 : a0 ≤ 0
 ·rw [if_pos c2] at H
  have a5 : decide (a0 ≤ 0) = true := decide_eq_true c2; clear c2; obtain rfl := Option.some.inj H
  go_enter Tryd.func156, Tryd.ntmps156
  go_wp2
  go_ret
  exact ⟨Ye2, be HB.out⟩
 ·rw [if_neg c2] at H
  have a5 : decide (a0 ≤ 0) = false := decide_eq_false c2; clear c2; have H' := Aside0.mk H; clear H
  go_enter Tryd.func156, Tryd.ntmps156
  go_wp2
  go_loopg [0, 3] k (fun kq v0 v3 w' => ∃ (a1 : Int) (a2 : ByteArray), v0 = .int .i64 a1 ∧ v3 = .string a2 ∧ Aside0 (laws_markText.l0 kq a1 a2 = some r) ∧ Aside0 (kq ≤ k) ∧ Aside0 (Below w.heap.size w w'))
  case atStart => exact ⟨(a0), ((⟨#[]⟩ : ByteArray)), Ye1, Ye1, H', ⟨Nat.le_refl _⟩, ⟨be HB.out⟩⟩
  case round =>
   clear H'; (try clear c1); (try clear c2); (try clear a5); (try clear p2); obtain ⟨a1, a2, rfl, rfl, HA, HK1, HB⟩ := hrel
   cases gk with
   | zero => exact absurd HA.out (by simp [laws_markText.l0])
   | succ k1 =>
    have H := HA.out; clear HA; simp only [laws_markText.l0] at H
    by_cases c3 : a1 > 0
    ·rw [if_pos c3] at H
     have a7 : decide (0 < a1) = true := decide_eq_true c3; clear c3
     obtain ⟨a3, a4⟩ : ∃ y_ : List Int, y_ = (([(wrap64 (48 + (Int.tmod a1 10))) % 256] : List Int)) := ⟨_, rfl⟩
     replace H : (if (strOfNums a3).size + a2.size ≤ 9223372036854775807 then (laws_markText.l0 k1 (wrap64 (Int.tdiv a1 10)) ((strOfNums a3) ++ a2)) else (none)) = some r := by first | (rw [a4]; with_reducible exact H) | (have H2_ := (Option.bind_some _ _).symm.trans H; rw [a4]; with_reducible exact H2_) | (have H2_ := (Option.bind_some _ _).symm.trans H; with_reducible exact H2_) | with_reducible exact H | (rw [a4]; exact H) | exact H
     have a6 := Aside0.mk a4; clear a4
     by_cases c4 : (strOfNums a3).size + a2.size ≤ 9223372036854775807
     ·rw [if_pos c4] at H
      have c4b0 := eq_true c4; have c4b1 : decide ((strOfNums a3).size + a2.size ≤ 9223372036854775807) = true := decide_eq_true c4
      try have c4b2 : (9223372036854775807 < (strOfNums a3).size + a2.size) = False := eq_false (Nat.not_lt.2 c4)
      have H' := Aside0.mk H; clear H
      go_wp2_with (first | ((with_reducible refine gd 12 rfl ?_); refine Kd.R_lit (Kd.int .u8) _ 5 ?hg (N := 12) ?hd (xs := ([(wrap64 (48 + (Int.tmod a1 10))) % 256] : List Int)) (inner := [.int .u8 ((wrap64 (48 + (Int.tmod a1 10))) % 256)]) (ok := fun _ => True) (okp := fun _ => True) ?hr ?hp (fun _ hk => hk) trivial (Below.refl _ _) (Nat.le_refl _) (by simp) ?_; (case hd => rfl); (case hg => rfl); (case hr => first | (go_simp; done) | (go_simp; rfl)); (case hp => exact (Reps.one (show Kd.M (Kd.int .u8) _ _ _ ((wrap64 (48 + (Int.tmod a1 10))) % 256) [.int .u8 ((wrap64 (48 + (Int.tmod a1 10))) % 256)] from rfl) (Reps.none _ _))); intro v897 w5 ho6 hb hg_ hnew_; clear hg_ hnew_; (first | rw [← a6.out] at ho6 | (simp only [Int.reduceToNat] at ho6; rw [← a6.out] at ho6)); refine Ya2 (Kd.R_lower ho6 (below_size (be HB.out))) (below_step (be HB.out) hb) ?_; clear HB; intro a8 HB; clear hb ho6; have hcv7 := own_string (P := Tryd.prog) Tryd.underlying22 Tryd.underlying5 Tryd.underlying9 (Kd.own_of_R a8.out)))
      go_roundg k1
      case measure => have := HK1.out; omega
      case rel => exact ⟨(wrap64 (Int.tdiv a1 10)), ((strOfNums a3) ++ a2), Ye1, Ye1, H', ⟨by have := HK1.out; omega⟩, ⟨be HB.out⟩⟩
     ·rw [if_neg c4] at H
      exact absurd H (by simp)
    ·rw [if_neg c3] at H
     have a7 : decide (0 < a1) = false := decide_eq_false c3; clear c3
     by_cases c8 : 1 + a2.size ≤ 9223372036854775807
     ·rw [if_pos c8] at H
      have c8b0 := eq_true c8; have c8b1 : decide (1 + a2.size ≤ 9223372036854775807) = true := decide_eq_true c8
      try have c8b2 : (9223372036854775807 < 1 + a2.size) = False := eq_false (Nat.not_lt.2 c8)
      obtain rfl := Option.some.inj H
      go_wp2
      go_ret
      exact ⟨Ye2, be HB.out⟩
     ·rw [if_neg c8] at H
      exact absurd H (by simp)

end Go.Proofs.YtknagppkeodggaaDoor.P


namespace Go.Proofs.YtknagppkeodggaaDoor.P
open Go.RowKit Go.Proofs.YtknagppkeodggaaDoorW.PrintWords Go.Proofs.YtknagppkeodggaaDoorW.PrintLast Go.Proofs.YtknagppkeodggaaDoorW.PrintMore
attribute [local go_sem] max2_int min2_int max_two min_two max_three min_three max_four min_four
set_option linter.unusedVariables false
set_option linter.unusedSimpArgs false

/-! ### laws_heldChangeS: function 96 -/
def laws_heldChangeS.l0 : Nat → List (S120) → Int → Int → Option (Int)
 | 0, _, _, _ => none
 | k + 1, x0, x1, x5 => if x5 < (x0.length : Int) then (if 0 ≤ x5 then ((laws_markText.f k x1).bind fun aB => (if ((rd_T120 x0 x5).f0).toList = aB.toList then (if (((rd_T120 x0 x5).f1.f0) != ((Int.tmod (wrap64 (x1 + 1)) 3) == 0)) = true then (some (-1)) else ((laws_markText.f k (wrap64 ((wrap64 (x1 + 1)) + 1))).bind fun aC => (if ((rd_T120 x0 x5).f1.f1).toList = aC.toList then (if (((rd_T120 x0 x5).f1.f2) != ((Int.tmod (wrap64 ((wrap64 ((wrap64 (x1 + 1)) + 1)) + 1)) 3) == 0)) = true then (some (-1)) else (if (((rd_T120 x0 x5).f2.f0) != ((Int.tmod (wrap64 ((wrap64 ((wrap64 ((wrap64 (x1 + 1)) + 1)) + 1)) + 1)) 3) == 0)) = true then (some (-1)) else ((laws_markText.f k (wrap64 ((wrap64 ((wrap64 ((wrap64 ((wrap64 (x1 + 1)) + 1)) + 1)) + 1)) + 1))).bind fun aD => (if ((rd_T120 x0 x5).f2.f1).toList = aD.toList then (if (((rd_T120 x0 x5).f2.f2) != ((Int.tmod (wrap64 ((wrap64 ((wrap64 ((wrap64 ((wrap64 ((wrap64 (x1 + 1)) + 1)) + 1)) + 1)) + 1)) + 1)) 3) == 0)) = true then (some (-1)) else (laws_heldChangeS.l0 k x0 (wrap64 ((wrap64 ((wrap64 ((wrap64 ((wrap64 ((wrap64 ((wrap64 (x1 + 1)) + 1)) + 1)) + 1)) + 1)) + 1)) + 1)) (wrap64 (x5 + 1)))) else (some (-1)))))) else (some (-1))))) else (some (-1)))) else (none)) else (some x1)
def laws_heldChangeS.f (k : Nat) (l0 : List (S120)) (a1 : Int) : Option (Int) := laws_heldChangeS.l0 k l0 a1 0
theorem laws_heldChangeS.mono_l : ∀ k, (∀ y0 y1 y2, LeO (laws_heldChangeS.l0 k y0 y1 y2) (laws_heldChangeS.l0 (k + 1) y0 y1 y2))
 | 0 => fun _ _ _ r h => by simp [laws_heldChangeS.l0] at h
 | k + 1 => by
  have ih0 := laws_heldChangeS.mono_l k
  ·intro y0 y1 y2
   unfold laws_heldChangeS.l0
   repeat' first
   | (with_reducible exact ih0 _ _ _)
   | (with_reducible exact laws_markText.mono _ _)
   | (with_reducible exact LeO.refl _)
   | (with_reducible exact LeO.none _)
   | (with_reducible refine LeO.ite ?_ ?_)
   | (with_reducible refine LeO.bind ?_ (fun _ => ?_))
   | exact ih0 _ _ _
   | exact laws_markText.mono _ _
   | exact LeO.none _
   | refine LeO.ite ?_ ?_
   | refine LeO.bind ?_ (fun _ => ?_)
theorem laws_heldChangeS.mono : ∀ a0 a1 k, LeO (laws_heldChangeS.f k a0 a1) (laws_heldChangeS.f (k + 1) a0 a1) := by
 intro a0 a1 k; have ih0 := laws_heldChangeS.mono_l k
 unfold laws_heldChangeS.f
 repeat' first
   | (with_reducible exact ih0 _ _ _)
   | (with_reducible exact laws_markText.mono _ _)
   | (with_reducible exact LeO.refl _)
   | (with_reducible exact LeO.none _)
   | (with_reducible refine LeO.ite ?_ ?_)
   | (with_reducible refine LeO.bind ?_ (fun _ => ?_))
   | exact ih0 _ _ _
   | exact laws_markText.mono _ _
   | exact LeO.none _
   | refine LeO.ite ?_ ?_
   | refine LeO.bind ?_ (fun _ => ?_)
def laws_heldChangeS.T4 : Bool × List (List Nat × List Nat) := (true, [([], []), ([], []), ([0, 1], [0, 1]), ([2], [2]), ([3], [3]), ([], []), ([5], [5]), ([4, 6], [4, 6])])
def laws_heldChangeS.B4 : List Nat := [0, 0, 3, 7, 15, 0, 32, 127]
theorem laws_heldChangeS.tab4 : rtab .any (opsOf Tryd.f96 4) = laws_heldChangeS.T4 := by kernel_rfl
theorem laws_heldChangeS.bits4 : waitsOk laws_heldChangeS.T4.2 laws_heldChangeS.B4 = true := by kernel_rfl
def laws_heldChangeS.T10 : Bool × List (List Nat × List Nat) := (true, [([], []), ([], []), ([0, 1], [0, 1]), ([2], [2]), ([3], [3]), ([4], [4]), ([], []), ([6], [6]), ([5, 7], [5, 7])])
def laws_heldChangeS.B10 : List Nat := [0, 0, 3, 7, 15, 31, 0, 64, 255]
theorem laws_heldChangeS.tab10 : rtab .any (opsOf Tryd.f96 10) = laws_heldChangeS.T10 := by kernel_rfl
theorem laws_heldChangeS.bits10 : waitsOk laws_heldChangeS.T10.2 laws_heldChangeS.B10 = true := by kernel_rfl
def laws_heldChangeS.T19 : Bool × List (List Nat × List Nat) := (true, [([], []), ([], []), ([0, 1], [0, 1]), ([2], [2]), ([3], [3]), ([4], [4]), ([], []), ([6], [6]), ([5, 7], [5, 7])])
def laws_heldChangeS.B19 : List Nat := [0, 0, 3, 7, 15, 31, 0, 64, 255]
theorem laws_heldChangeS.tab19 : rtab .any (opsOf Tryd.f96 19) = laws_heldChangeS.T19 := by kernel_rfl
theorem laws_heldChangeS.bits19 : waitsOk laws_heldChangeS.T19.2 laws_heldChangeS.B19 = true := by kernel_rfl
set_option maxHeartbeats 8000000 in
set_option maxRecDepth 100000 in
theorem laws_heldChangeS.calls (k : Nat) (A0 : Option Addr) (c0 : Nat) (l0 : List (S120)) (a1 : Int) (r : Int) (w : World) (hr0 : Kd.C k120 w A0 l0.length l0) (hc0 : l0.length ≤ c0) (h : laws_heldChangeS.f k l0 a1 = some r) :
  Calls Tryd.prog 96 #[.slice A0 l0.length c0, .int .i64 a1] w fun e w' => e = .returned (.int .i64 r) ∧ Below w.heap.size w w' := by
 have ac := Aside0.mk hr0; have HC0 := Aside0.mk hc0; clear hr0 hc0; have HB := Aside0.mk (Below.refl w.heap.size w); have H : (laws_heldChangeS.l0 k l0 a1 0) = some r := h; clear h; have H' := Aside0.mk H; clear H
 go_enter Tryd.func96, Tryd.ntmps96
 go_wp2
 go_loopg [1, 5] k (fun kq v1 v5 w' => ∃ (a4 : Int) (a2 : Int), v1 = .int .i64 a4 ∧ v5 = .int .i64 a2 ∧ Aside0 (laws_heldChangeS.l0 kq l0 a4 a2 = some r) ∧ Aside0 (kq ≤ k) ∧ Aside0 (Below w.heap.size w w'))
 case atStart => exact ⟨(a1), (0), Ye1, Ye1, H', ⟨Nat.le_refl _⟩, ⟨be HB.out⟩⟩
 case round =>
  clear H'; (try clear p2); obtain ⟨a4, a2, rfl, rfl, HA, HK1, HB⟩ := hrel
  cases gk with
  | zero => exact absurd HA.out (by simp [laws_heldChangeS.l0])
  | succ k1 =>
   have H := HA.out; clear HA; simp only [laws_heldChangeS.l0] at H
   by_cases c3 : a2 < (l0.length : Int)
   ·rw [if_pos c3] at H
    have bK : decide (a2 < (l0.length : Int)) = true := decide_eq_true c3; clear c3
    by_cases c4 : 0 ≤ a2
    ·rw [if_pos c4] at H
     have c4b0 : decide (0 ≤ a2) = true := decide_eq_true c4; clear c4; replace H := Option.bind_eq_some_iff.mp H; obtain ⟨aB, A50, H⟩ := H; replace H : (if ((rd_T120 l0 a2).f0).toList = aB.toList then (if (((rd_T120 l0 a2).f1.f0) != ((Int.tmod (wrap64 (a4 + 1)) 3) == 0)) = true then (some (-1)) else ((laws_markText.f k1 (wrap64 ((wrap64 (a4 + 1)) + 1))).bind fun aC => (if ((rd_T120 l0 a2).f1.f1).toList = aC.toList then (if (((rd_T120 l0 a2).f1.f2) != ((Int.tmod (wrap64 ((wrap64 ((wrap64 (a4 + 1)) + 1)) + 1)) 3) == 0)) = true then (some (-1)) else (if (((rd_T120 l0 a2).f2.f0) != ((Int.tmod (wrap64 ((wrap64 ((wrap64 ((wrap64 (a4 + 1)) + 1)) + 1)) + 1)) 3) == 0)) = true then (some (-1)) else ((laws_markText.f k1 (wrap64 ((wrap64 ((wrap64 ((wrap64 ((wrap64 (a4 + 1)) + 1)) + 1)) + 1)) + 1))).bind fun aD => (if ((rd_T120 l0 a2).f2.f1).toList = aD.toList then (if (((rd_T120 l0 a2).f2.f2) != ((Int.tmod (wrap64 ((wrap64 ((wrap64 ((wrap64 ((wrap64 ((wrap64 (a4 + 1)) + 1)) + 1)) + 1)) + 1)) + 1)) 3) == 0)) = true then (some (-1)) else (laws_heldChangeS.l0 k1 l0 (wrap64 ((wrap64 ((wrap64 ((wrap64 ((wrap64 ((wrap64 ((wrap64 (a4 + 1)) + 1)) + 1)) + 1)) + 1)) + 1)) + 1)) (wrap64 (a2 + 1)))) else (some (-1)))))) else (some (-1))))) else (some (-1))) = some r := H; have A5 := Aside0.mk A50; clear A50
     by_cases c6 : ((rd_T120 l0 a2).f0).toList = aB.toList
     ·rw [if_pos c6] at H
      have bL : (((rd_T120 l0 a2).f0).toList == aB.toList) = true := beq_iff_eq.mpr c6; have bM : (((rd_T120 l0 a2).f0).toList != aB.toList) = false := bne_eq_false_iff_eq.mpr c6; clear c6
      by_cases c7 : (((rd_T120 l0 a2).f1.f0) != ((Int.tmod (wrap64 (a4 + 1)) 3) == 0)) = true
      ·rw [if_pos c7] at H
       have bN : (((rd_T120 l0 a2).f1.f0) != ((Int.tmod (wrap64 (a4 + 1)) 3) == 0)) = true := c7; (try (have bO : decide (((rd_T120 l0 a2).f1.f0) = ((Int.tmod (wrap64 (a4 + 1)) 3) == 0)) = false := by simpa using c7)); (try (have bP : (((rd_T120 l0 a2).f1.f0) == ((Int.tmod (wrap64 (a4 + 1)) 3) == 0)) = false := by simpa using c7)); (try (have c7b3 : ¬ (((rd_T120 l0 a2).f1.f0) = ((Int.tmod (wrap64 (a4 + 1)) 3) == 0)) := by simpa using c7)); clear c7; obtain rfl := Option.some.inj H
       try go_wp2
       refine Ya1 (below_drew1 HB.out) ?_; clear HB; intro HB; have ad : 0 ≤ (a2 : Int) := oda; have ae : a2 < (l0.length : Int) := oda; obtain ⟨a3, aE, a5, a6, a7, a8, a9, aa, ab⟩ := at_T120 ac.out a2 ad ae; have hw912_6 := ab; have hw912_5 := aa; have hw912_4 := a9; have hw912_3 := a8; have hw912_2 := a7; have hw912_1 := a6; have hw912_0 := a5
       cases aE
       replace a5 := pw_cell_below HB.out a5; replace a6 := pw_cell_below HB.out a6; replace a7 := pw_cell_below HB.out a7; replace a8 := pw_cell_below HB.out a8; replace a9 := pw_cell_below HB.out a9; replace aa := pw_cell_below HB.out aa; replace ab := pw_cell_below HB.out ab; replace ad := eq_true ad; replace ae := eq_true ae; refine start_ (n := 8) (S := fun w' => w'.cell? (a3.add ((a2).toNat * 7)) = some (.string ((rd_T120 l0 a2).f0)) ∧ w'.cell? ⟨(a3.add ((a2).toNat * 7)).block, (a3.add ((a2).toNat * 7)).off + 1, none⟩ = some (.bool ((rd_T120 l0 a2).f1.f0)) ∧ w'.cell? ⟨(a3.add ((a2).toNat * 7)).block, (a3.add ((a2).toNat * 7)).off + 2, none⟩ = some (.string ((rd_T120 l0 a2).f1.f1)) ∧ w'.cell? ⟨(a3.add ((a2).toNat * 7)).block, (a3.add ((a2).toNat * 7)).off + 3, none⟩ = some (.bool ((rd_T120 l0 a2).f1.f2)) ∧ w'.cell? ⟨(a3.add ((a2).toNat * 7)).block, (a3.add ((a2).toNat * 7)).off + 4, none⟩ = some (.bool ((rd_T120 l0 a2).f2.f0)) ∧ w'.cell? ⟨(a3.add ((a2).toNat * 7)).block, (a3.add ((a2).toNat * 7)).off + 5, none⟩ = some (.string ((rd_T120 l0 a2).f2.f1)) ∧ w'.cell? ⟨(a3.add ((a2).toNat * 7)).block, (a3.add ((a2).toNat * 7)).off + 6, none⟩ = some (.bool ((rd_T120 l0 a2).f2.f2))) (ds := []) (fb 8 0) (by kernel_rfl) rfl rfl ⟨(pw_cell_below HB.out hw912_0), (pw_cell_below HB.out hw912_1), (pw_cell_below HB.out hw912_2), (pw_cell_below HB.out hw912_3), (pw_cell_below HB.out hw912_4), (pw_cell_below HB.out hw912_5), (pw_cell_below HB.out hw912_6)⟩ (fun hHeld => ?_); refine with_tabW laws_heldChangeS.tab4 laws_heldChangeS.bits4 (fun HT_ HW_ => ?_); generalize wr.drew = w8 at HB a5 a6 a7 a8 a9 aa ab hHeld ⊢; refine pu 0 12 (fb 8 1) HT_ ?_; refine pu 1 13 (fb 8 3) HT_ ?_; refine pu 2 14 (fb 8 7) HT_ ?_; refine pu 3 15 (fb 8 15) HT_ ?_; refine pu 5 17 (fb 8 47) HT_ ?_; refine tk 4 16 (fb 8 63) HT_ HW_ hHeld ?_; refine o1 6 (some 18) (fb 8 127) HT_ (fun K hK => ?_); refine gs _ (#[.int .i64 a4]) Tryd.func156 ?_; (with_reducible refine (laws_markText.calls k1 a4 aB _ A5.out).mono ?_); rintro e w9 ⟨rfl, hb⟩; refine ⟨_, rfl, ?_⟩; refine Ya1 (below_step (be HB.out) hb) ?_; clear HB; intro HB; (try clear hb); (try clear hb2); (try clear hk); (try clear hi); refine hK.out _ _ ⟨(pw_cell_below HB.out hw912_0), (pw_cell_below HB.out hw912_1), (pw_cell_below HB.out hw912_2), (pw_cell_below HB.out hw912_3), (pw_cell_below HB.out hw912_4), (pw_cell_below HB.out hw912_5), (pw_cell_below HB.out hw912_6)⟩ (fun hHeld => ?_); clear hK K; refine nm 18 ?_; refine pu 7 19 (fb 8 255) HT_ ?_; refine done_ (done_of HT_.out (by kernel_rfl)) ?_; have am : 0 ≤ (a2 : Int) := oda; have an : a2 < (l0.length : Int) := oda; obtain ⟨aV, aW, aq, ar, au, av, aw, ax, ay⟩ := at_T120 ac.out a2 am an
       obtain rfl : a3 = aV := (by injection aW)
       replace aq := pw_cell_below HB.out aq; replace ar := pw_cell_below HB.out ar; replace au := pw_cell_below HB.out au; replace av := pw_cell_below HB.out av; replace aw := pw_cell_below HB.out aw; replace ax := pw_cell_below HB.out ax; replace ay := pw_cell_below HB.out ay; replace am := eq_true am; replace an := eq_true an
       try go_wp2
       go_ret
       exact ⟨Ye2, be HB.out⟩
      ·rw [if_neg c7] at H
       have bN : (((rd_T120 l0 a2).f1.f0) != ((Int.tmod (wrap64 (a4 + 1)) 3) == 0)) = false := by simpa using c7
       (try (have bO : decide (((rd_T120 l0 a2).f1.f0) = ((Int.tmod (wrap64 (a4 + 1)) 3) == 0)) = true := by simpa using c7)); (try (have bP : (((rd_T120 l0 a2).f1.f0) == ((Int.tmod (wrap64 (a4 + 1)) 3) == 0)) = true := by simpa using c7)); clear c7; replace H := Option.bind_eq_some_iff.mp H; obtain ⟨aC, bI, H⟩ := H; replace H : (if ((rd_T120 l0 a2).f1.f1).toList = aC.toList then (if (((rd_T120 l0 a2).f1.f2) != ((Int.tmod (wrap64 ((wrap64 ((wrap64 (a4 + 1)) + 1)) + 1)) 3) == 0)) = true then (some (-1)) else (if (((rd_T120 l0 a2).f2.f0) != ((Int.tmod (wrap64 ((wrap64 ((wrap64 ((wrap64 (a4 + 1)) + 1)) + 1)) + 1)) 3) == 0)) = true then (some (-1)) else ((laws_markText.f k1 (wrap64 ((wrap64 ((wrap64 ((wrap64 ((wrap64 (a4 + 1)) + 1)) + 1)) + 1)) + 1))).bind fun aD => (if ((rd_T120 l0 a2).f2.f1).toList = aD.toList then (if (((rd_T120 l0 a2).f2.f2) != ((Int.tmod (wrap64 ((wrap64 ((wrap64 ((wrap64 ((wrap64 ((wrap64 (a4 + 1)) + 1)) + 1)) + 1)) + 1)) + 1)) 3) == 0)) = true then (some (-1)) else (laws_heldChangeS.l0 k1 l0 (wrap64 ((wrap64 ((wrap64 ((wrap64 ((wrap64 ((wrap64 ((wrap64 (a4 + 1)) + 1)) + 1)) + 1)) + 1)) + 1)) + 1)) (wrap64 (a2 + 1)))) else (some (-1)))))) else (some (-1))) = some r := H; have bq := Aside0.mk bI; clear bI
       by_cases bh : ((rd_T120 l0 a2).f1.f1).toList = aC.toList
       ·rw [if_pos bh] at H
        have bQ : (((rd_T120 l0 a2).f1.f1).toList == aC.toList) = true := beq_iff_eq.mpr bh; have bR : (((rd_T120 l0 a2).f1.f1).toList != aC.toList) = false := bne_eq_false_iff_eq.mpr bh; clear bh
        by_cases aX : (((rd_T120 l0 a2).f1.f2) != ((Int.tmod (wrap64 ((wrap64 ((wrap64 (a4 + 1)) + 1)) + 1)) 3) == 0)) = true
        ·rw [if_pos aX] at H
         have bS : (((rd_T120 l0 a2).f1.f2) != ((Int.tmod (wrap64 ((wrap64 ((wrap64 (a4 + 1)) + 1)) + 1)) 3) == 0)) = true := aX; (try (have bT : decide (((rd_T120 l0 a2).f1.f2) = ((Int.tmod (wrap64 ((wrap64 ((wrap64 (a4 + 1)) + 1)) + 1)) 3) == 0)) = false := by simpa using aX)); (try (have bU : (((rd_T120 l0 a2).f1.f2) == ((Int.tmod (wrap64 ((wrap64 ((wrap64 (a4 + 1)) + 1)) + 1)) 3) == 0)) = false := by simpa using aX)); (try (have c12b3 : ¬ (((rd_T120 l0 a2).f1.f2) = ((Int.tmod (wrap64 ((wrap64 ((wrap64 (a4 + 1)) + 1)) + 1)) 3) == 0)) := by simpa using aX)); clear aX; obtain rfl := Option.some.inj H
         try go_wp2
         refine Ya1 (below_drew1 HB.out) ?_; clear HB; intro HB; have ad : 0 ≤ (a2 : Int) := oda; have ae : a2 < (l0.length : Int) := oda; obtain ⟨a3, aE, a5, a6, a7, a8, a9, aa, ab⟩ := at_T120 ac.out a2 ad ae; have hw912_6 := ab; have hw912_5 := aa; have hw912_4 := a9; have hw912_3 := a8; have hw912_2 := a7; have hw912_1 := a6; have hw912_0 := a5
         cases aE
         replace a5 := pw_cell_below HB.out a5; replace a6 := pw_cell_below HB.out a6; replace a7 := pw_cell_below HB.out a7; replace a8 := pw_cell_below HB.out a8; replace a9 := pw_cell_below HB.out a9; replace aa := pw_cell_below HB.out aa; replace ab := pw_cell_below HB.out ab; replace ad := eq_true ad; replace ae := eq_true ae; refine start_ (n := 8) (S := fun w' => w'.cell? (a3.add ((a2).toNat * 7)) = some (.string ((rd_T120 l0 a2).f0)) ∧ w'.cell? ⟨(a3.add ((a2).toNat * 7)).block, (a3.add ((a2).toNat * 7)).off + 1, none⟩ = some (.bool ((rd_T120 l0 a2).f1.f0)) ∧ w'.cell? ⟨(a3.add ((a2).toNat * 7)).block, (a3.add ((a2).toNat * 7)).off + 2, none⟩ = some (.string ((rd_T120 l0 a2).f1.f1)) ∧ w'.cell? ⟨(a3.add ((a2).toNat * 7)).block, (a3.add ((a2).toNat * 7)).off + 3, none⟩ = some (.bool ((rd_T120 l0 a2).f1.f2)) ∧ w'.cell? ⟨(a3.add ((a2).toNat * 7)).block, (a3.add ((a2).toNat * 7)).off + 4, none⟩ = some (.bool ((rd_T120 l0 a2).f2.f0)) ∧ w'.cell? ⟨(a3.add ((a2).toNat * 7)).block, (a3.add ((a2).toNat * 7)).off + 5, none⟩ = some (.string ((rd_T120 l0 a2).f2.f1)) ∧ w'.cell? ⟨(a3.add ((a2).toNat * 7)).block, (a3.add ((a2).toNat * 7)).off + 6, none⟩ = some (.bool ((rd_T120 l0 a2).f2.f2))) (ds := []) (fb 8 0) (by kernel_rfl) rfl rfl ⟨(pw_cell_below HB.out hw912_0), (pw_cell_below HB.out hw912_1), (pw_cell_below HB.out hw912_2), (pw_cell_below HB.out hw912_3), (pw_cell_below HB.out hw912_4), (pw_cell_below HB.out hw912_5), (pw_cell_below HB.out hw912_6)⟩ (fun hHeld => ?_); refine with_tabW laws_heldChangeS.tab4 laws_heldChangeS.bits4 (fun HT_ HW_ => ?_); generalize wr.drew = w13 at HB a5 a6 a7 a8 a9 aa ab hHeld ⊢; refine pu 0 12 (fb 8 1) HT_ ?_; refine pu 1 13 (fb 8 3) HT_ ?_; refine pu 2 14 (fb 8 7) HT_ ?_; refine pu 3 15 (fb 8 15) HT_ ?_; refine pu 5 17 (fb 8 47) HT_ ?_; refine tk 4 16 (fb 8 63) HT_ HW_ hHeld ?_; refine o1 6 (some 18) (fb 8 127) HT_ (fun K hK => ?_); refine gs _ (#[.int .i64 a4]) Tryd.func156 ?_; (with_reducible refine (laws_markText.calls k1 a4 aB _ A5.out).mono ?_); rintro e w14 ⟨rfl, hb⟩; refine ⟨_, rfl, ?_⟩; refine Ya1 (below_step (be HB.out) hb) ?_; clear HB; intro HB; (try clear hb); (try clear hb2); (try clear hk); (try clear hi); refine hK.out _ _ ⟨(pw_cell_below HB.out hw912_0), (pw_cell_below HB.out hw912_1), (pw_cell_below HB.out hw912_2), (pw_cell_below HB.out hw912_3), (pw_cell_below HB.out hw912_4), (pw_cell_below HB.out hw912_5), (pw_cell_below HB.out hw912_6)⟩ (fun hHeld => ?_); clear hK K; refine nm 18 ?_; refine pu 7 19 (fb 8 255) HT_ ?_; refine done_ (done_of HT_.out (by kernel_rfl)) ?_; have am : 0 ≤ (a2 : Int) := oda; have an : a2 < (l0.length : Int) := oda; obtain ⟨aV, aW, aq, ar, au, av, aw, ax, ay⟩ := at_T120 ac.out a2 am an
         obtain rfl : a3 = aV := (by injection aW)
         replace aq := pw_cell_below HB.out aq; replace ar := pw_cell_below HB.out ar; replace au := pw_cell_below HB.out au; replace av := pw_cell_below HB.out av; replace aw := pw_cell_below HB.out aw; replace ax := pw_cell_below HB.out ax; replace ay := pw_cell_below HB.out ay; replace am := eq_true am; replace an := eq_true an
         try go_wp2
         refine Ya1 (below_drew1 HB.out) ?_; clear HB; intro HB; have ao : 0 ≤ (a2 : Int) := oda; have ap : a2 < (l0.length : Int) := oda; obtain ⟨aY, aZ, af, ag, ah, ai, aj, ak, al⟩ := at_T120 ac.out a2 ao ap; have hw915_6 := al; have hw915_5 := ak; have hw915_4 := aj; have hw915_3 := ai; have hw915_2 := ah; have hw915_1 := ag; have hw915_0 := af
         obtain rfl : a3 = aY := (by injection aZ)
         replace af := pw_cell_below HB.out af; replace ag := pw_cell_below HB.out ag; replace ah := pw_cell_below HB.out ah; replace ai := pw_cell_below HB.out ai; replace aj := pw_cell_below HB.out aj; replace ak := pw_cell_below HB.out ak; replace al := pw_cell_below HB.out al; replace ao := eq_true ao; replace ap := eq_true ap; refine start_ (n := 9) (S := fun w' => w'.cell? (a3.add ((a2).toNat * 7)) = some (.string ((rd_T120 l0 a2).f0)) ∧ w'.cell? ⟨(a3.add ((a2).toNat * 7)).block, (a3.add ((a2).toNat * 7)).off + 1, none⟩ = some (.bool ((rd_T120 l0 a2).f1.f0)) ∧ w'.cell? ⟨(a3.add ((a2).toNat * 7)).block, (a3.add ((a2).toNat * 7)).off + 2, none⟩ = some (.string ((rd_T120 l0 a2).f1.f1)) ∧ w'.cell? ⟨(a3.add ((a2).toNat * 7)).block, (a3.add ((a2).toNat * 7)).off + 3, none⟩ = some (.bool ((rd_T120 l0 a2).f1.f2)) ∧ w'.cell? ⟨(a3.add ((a2).toNat * 7)).block, (a3.add ((a2).toNat * 7)).off + 4, none⟩ = some (.bool ((rd_T120 l0 a2).f2.f0)) ∧ w'.cell? ⟨(a3.add ((a2).toNat * 7)).block, (a3.add ((a2).toNat * 7)).off + 5, none⟩ = some (.string ((rd_T120 l0 a2).f2.f1)) ∧ w'.cell? ⟨(a3.add ((a2).toNat * 7)).block, (a3.add ((a2).toNat * 7)).off + 6, none⟩ = some (.bool ((rd_T120 l0 a2).f2.f2))) (ds := []) (fb 9 0) (by kernel_rfl) rfl rfl ⟨(pw_cell_below HB.out hw915_0), (pw_cell_below HB.out hw915_1), (pw_cell_below HB.out hw915_2), (pw_cell_below HB.out hw915_3), (pw_cell_below HB.out hw915_4), (pw_cell_below HB.out hw915_5), (pw_cell_below HB.out hw915_6)⟩ (fun hHeld => ?_); refine with_tabW laws_heldChangeS.tab10 laws_heldChangeS.bits10 (fun HT_ HW_ => ?_); generalize w14.drew = w15 at HB af ag ah ai aj ak al hHeld ⊢; refine pu 0 34 (fb 9 1) HT_ ?_; refine pu 1 35 (fb 9 3) HT_ ?_; refine pu 2 36 (fb 9 7) HT_ ?_; refine pu 3 37 (fb 9 15) HT_ ?_; refine pu 4 38 (fb 9 31) HT_ ?_; refine pu 6 40 (fb 9 95) HT_ ?_; refine tk 5 39 (fb 9 127) HT_ HW_ hHeld ?_; refine o1 7 (some 41) (fb 9 255) HT_ (fun K hK => ?_); refine gs _ (#[.int .i64 (wrap64 ((wrap64 (a4 + 1)) + 1))]) Tryd.func156 ?_; (with_reducible refine (laws_markText.calls k1 (wrap64 ((wrap64 (a4 + 1)) + 1)) aC _ bq.out).mono ?_); rintro e w16 ⟨rfl, hb⟩; refine ⟨_, rfl, ?_⟩; refine Ya1 (below_step (be HB.out) hb) ?_; clear HB; intro HB; (try clear hb); (try clear hb2); (try clear hk); (try clear hi); refine hK.out _ _ ⟨(pw_cell_below HB.out hw915_0), (pw_cell_below HB.out hw915_1), (pw_cell_below HB.out hw915_2), (pw_cell_below HB.out hw915_3), (pw_cell_below HB.out hw915_4), (pw_cell_below HB.out hw915_5), (pw_cell_below HB.out hw915_6)⟩ (fun hHeld => ?_); clear hK K; refine nm 41 ?_; refine pu 8 42 (fb 9 511) HT_ ?_; refine done_ (done_of HT_.out (by kernel_rfl)) ?_; have az : 0 ≤ (a2 : Int) := oda; have aA : a2 < (l0.length : Int) := oda; obtain ⟨bd, bg, aH, aI, aJ, aK, aL, aM, aN⟩ := at_T120 ac.out a2 az aA
         obtain rfl : a3 = bd := (by injection bg)
         replace aH := pw_cell_below HB.out aH; replace aI := pw_cell_below HB.out aI; replace aJ := pw_cell_below HB.out aJ; replace aK := pw_cell_below HB.out aK; replace aL := pw_cell_below HB.out aL; replace aM := pw_cell_below HB.out aM; replace aN := pw_cell_below HB.out aN; replace az := eq_true az; replace aA := eq_true aA
         try go_wp2
         go_ret
         exact ⟨Ye2, be HB.out⟩
        ·rw [if_neg aX] at H
         have bS : (((rd_T120 l0 a2).f1.f2) != ((Int.tmod (wrap64 ((wrap64 ((wrap64 (a4 + 1)) + 1)) + 1)) 3) == 0)) = false := by simpa using aX
         (try (have bT : decide (((rd_T120 l0 a2).f1.f2) = ((Int.tmod (wrap64 ((wrap64 ((wrap64 (a4 + 1)) + 1)) + 1)) 3) == 0)) = true := by simpa using aX)); (try (have bU : (((rd_T120 l0 a2).f1.f2) == ((Int.tmod (wrap64 ((wrap64 ((wrap64 (a4 + 1)) + 1)) + 1)) 3) == 0)) = true := by simpa using aX)); clear aX
         by_cases b0 : (((rd_T120 l0 a2).f2.f0) != ((Int.tmod (wrap64 ((wrap64 ((wrap64 ((wrap64 (a4 + 1)) + 1)) + 1)) + 1)) 3) == 0)) = true
         ·rw [if_pos b0] at H
          have bV : (((rd_T120 l0 a2).f2.f0) != ((Int.tmod (wrap64 ((wrap64 ((wrap64 ((wrap64 (a4 + 1)) + 1)) + 1)) + 1)) 3) == 0)) = true := b0; (try (have bW : decide (((rd_T120 l0 a2).f2.f0) = ((Int.tmod (wrap64 ((wrap64 ((wrap64 ((wrap64 (a4 + 1)) + 1)) + 1)) + 1)) 3) == 0)) = false := by simpa using b0)); (try (have bX : (((rd_T120 l0 a2).f2.f0) == ((Int.tmod (wrap64 ((wrap64 ((wrap64 ((wrap64 (a4 + 1)) + 1)) + 1)) + 1)) 3) == 0)) = false := by simpa using b0)); (try (have c17b3 : ¬ (((rd_T120 l0 a2).f2.f0) = ((Int.tmod (wrap64 ((wrap64 ((wrap64 ((wrap64 (a4 + 1)) + 1)) + 1)) + 1)) 3) == 0)) := by simpa using b0)); clear b0; obtain rfl := Option.some.inj H
          try go_wp2
          refine Ya1 (below_drew1 HB.out) ?_; clear HB; intro HB; have ad : 0 ≤ (a2 : Int) := oda; have ae : a2 < (l0.length : Int) := oda; obtain ⟨a3, aE, a5, a6, a7, a8, a9, aa, ab⟩ := at_T120 ac.out a2 ad ae; have hw912_6 := ab; have hw912_5 := aa; have hw912_4 := a9; have hw912_3 := a8; have hw912_2 := a7; have hw912_1 := a6; have hw912_0 := a5
          cases aE
          replace a5 := pw_cell_below HB.out a5; replace a6 := pw_cell_below HB.out a6; replace a7 := pw_cell_below HB.out a7; replace a8 := pw_cell_below HB.out a8; replace a9 := pw_cell_below HB.out a9; replace aa := pw_cell_below HB.out aa; replace ab := pw_cell_below HB.out ab; replace ad := eq_true ad; replace ae := eq_true ae; refine start_ (n := 8) (S := fun w' => w'.cell? (a3.add ((a2).toNat * 7)) = some (.string ((rd_T120 l0 a2).f0)) ∧ w'.cell? ⟨(a3.add ((a2).toNat * 7)).block, (a3.add ((a2).toNat * 7)).off + 1, none⟩ = some (.bool ((rd_T120 l0 a2).f1.f0)) ∧ w'.cell? ⟨(a3.add ((a2).toNat * 7)).block, (a3.add ((a2).toNat * 7)).off + 2, none⟩ = some (.string ((rd_T120 l0 a2).f1.f1)) ∧ w'.cell? ⟨(a3.add ((a2).toNat * 7)).block, (a3.add ((a2).toNat * 7)).off + 3, none⟩ = some (.bool ((rd_T120 l0 a2).f1.f2)) ∧ w'.cell? ⟨(a3.add ((a2).toNat * 7)).block, (a3.add ((a2).toNat * 7)).off + 4, none⟩ = some (.bool ((rd_T120 l0 a2).f2.f0)) ∧ w'.cell? ⟨(a3.add ((a2).toNat * 7)).block, (a3.add ((a2).toNat * 7)).off + 5, none⟩ = some (.string ((rd_T120 l0 a2).f2.f1)) ∧ w'.cell? ⟨(a3.add ((a2).toNat * 7)).block, (a3.add ((a2).toNat * 7)).off + 6, none⟩ = some (.bool ((rd_T120 l0 a2).f2.f2))) (ds := []) (fb 8 0) (by kernel_rfl) rfl rfl ⟨(pw_cell_below HB.out hw912_0), (pw_cell_below HB.out hw912_1), (pw_cell_below HB.out hw912_2), (pw_cell_below HB.out hw912_3), (pw_cell_below HB.out hw912_4), (pw_cell_below HB.out hw912_5), (pw_cell_below HB.out hw912_6)⟩ (fun hHeld => ?_); refine with_tabW laws_heldChangeS.tab4 laws_heldChangeS.bits4 (fun HT_ HW_ => ?_); generalize wr.drew = w18 at HB a5 a6 a7 a8 a9 aa ab hHeld ⊢; refine pu 0 12 (fb 8 1) HT_ ?_; refine pu 1 13 (fb 8 3) HT_ ?_; refine pu 2 14 (fb 8 7) HT_ ?_; refine pu 3 15 (fb 8 15) HT_ ?_; refine pu 5 17 (fb 8 47) HT_ ?_; refine tk 4 16 (fb 8 63) HT_ HW_ hHeld ?_; refine o1 6 (some 18) (fb 8 127) HT_ (fun K hK => ?_); refine gs _ (#[.int .i64 a4]) Tryd.func156 ?_; (with_reducible refine (laws_markText.calls k1 a4 aB _ A5.out).mono ?_); rintro e w19 ⟨rfl, hb⟩; refine ⟨_, rfl, ?_⟩; refine Ya1 (below_step (be HB.out) hb) ?_; clear HB; intro HB; (try clear hb); (try clear hb2); (try clear hk); (try clear hi); refine hK.out _ _ ⟨(pw_cell_below HB.out hw912_0), (pw_cell_below HB.out hw912_1), (pw_cell_below HB.out hw912_2), (pw_cell_below HB.out hw912_3), (pw_cell_below HB.out hw912_4), (pw_cell_below HB.out hw912_5), (pw_cell_below HB.out hw912_6)⟩ (fun hHeld => ?_); clear hK K; refine nm 18 ?_; refine pu 7 19 (fb 8 255) HT_ ?_; refine done_ (done_of HT_.out (by kernel_rfl)) ?_; have am : 0 ≤ (a2 : Int) := oda; have an : a2 < (l0.length : Int) := oda; obtain ⟨aV, aW, aq, ar, au, av, aw, ax, ay⟩ := at_T120 ac.out a2 am an
          obtain rfl : a3 = aV := (by injection aW)
          replace aq := pw_cell_below HB.out aq; replace ar := pw_cell_below HB.out ar; replace au := pw_cell_below HB.out au; replace av := pw_cell_below HB.out av; replace aw := pw_cell_below HB.out aw; replace ax := pw_cell_below HB.out ax; replace ay := pw_cell_below HB.out ay; replace am := eq_true am; replace an := eq_true an
          try go_wp2
          refine Ya1 (below_drew1 HB.out) ?_; clear HB; intro HB; have ao : 0 ≤ (a2 : Int) := oda; have ap : a2 < (l0.length : Int) := oda; obtain ⟨aY, aZ, af, ag, ah, ai, aj, ak, al⟩ := at_T120 ac.out a2 ao ap; have hw915_6 := al; have hw915_5 := ak; have hw915_4 := aj; have hw915_3 := ai; have hw915_2 := ah; have hw915_1 := ag; have hw915_0 := af
          obtain rfl : a3 = aY := (by injection aZ)
          replace af := pw_cell_below HB.out af; replace ag := pw_cell_below HB.out ag; replace ah := pw_cell_below HB.out ah; replace ai := pw_cell_below HB.out ai; replace aj := pw_cell_below HB.out aj; replace ak := pw_cell_below HB.out ak; replace al := pw_cell_below HB.out al; replace ao := eq_true ao; replace ap := eq_true ap; refine start_ (n := 9) (S := fun w' => w'.cell? (a3.add ((a2).toNat * 7)) = some (.string ((rd_T120 l0 a2).f0)) ∧ w'.cell? ⟨(a3.add ((a2).toNat * 7)).block, (a3.add ((a2).toNat * 7)).off + 1, none⟩ = some (.bool ((rd_T120 l0 a2).f1.f0)) ∧ w'.cell? ⟨(a3.add ((a2).toNat * 7)).block, (a3.add ((a2).toNat * 7)).off + 2, none⟩ = some (.string ((rd_T120 l0 a2).f1.f1)) ∧ w'.cell? ⟨(a3.add ((a2).toNat * 7)).block, (a3.add ((a2).toNat * 7)).off + 3, none⟩ = some (.bool ((rd_T120 l0 a2).f1.f2)) ∧ w'.cell? ⟨(a3.add ((a2).toNat * 7)).block, (a3.add ((a2).toNat * 7)).off + 4, none⟩ = some (.bool ((rd_T120 l0 a2).f2.f0)) ∧ w'.cell? ⟨(a3.add ((a2).toNat * 7)).block, (a3.add ((a2).toNat * 7)).off + 5, none⟩ = some (.string ((rd_T120 l0 a2).f2.f1)) ∧ w'.cell? ⟨(a3.add ((a2).toNat * 7)).block, (a3.add ((a2).toNat * 7)).off + 6, none⟩ = some (.bool ((rd_T120 l0 a2).f2.f2))) (ds := []) (fb 9 0) (by kernel_rfl) rfl rfl ⟨(pw_cell_below HB.out hw915_0), (pw_cell_below HB.out hw915_1), (pw_cell_below HB.out hw915_2), (pw_cell_below HB.out hw915_3), (pw_cell_below HB.out hw915_4), (pw_cell_below HB.out hw915_5), (pw_cell_below HB.out hw915_6)⟩ (fun hHeld => ?_); refine with_tabW laws_heldChangeS.tab10 laws_heldChangeS.bits10 (fun HT_ HW_ => ?_); generalize w19.drew = w20 at HB af ag ah ai aj ak al hHeld ⊢; refine pu 0 34 (fb 9 1) HT_ ?_; refine pu 1 35 (fb 9 3) HT_ ?_; refine pu 2 36 (fb 9 7) HT_ ?_; refine pu 3 37 (fb 9 15) HT_ ?_; refine pu 4 38 (fb 9 31) HT_ ?_; refine pu 6 40 (fb 9 95) HT_ ?_; refine tk 5 39 (fb 9 127) HT_ HW_ hHeld ?_; refine o1 7 (some 41) (fb 9 255) HT_ (fun K hK => ?_); refine gs _ (#[.int .i64 (wrap64 ((wrap64 (a4 + 1)) + 1))]) Tryd.func156 ?_; (with_reducible refine (laws_markText.calls k1 (wrap64 ((wrap64 (a4 + 1)) + 1)) aC _ bq.out).mono ?_); rintro e w21 ⟨rfl, hb⟩; refine ⟨_, rfl, ?_⟩; refine Ya1 (below_step (be HB.out) hb) ?_; clear HB; intro HB; (try clear hb); (try clear hb2); (try clear hk); (try clear hi); refine hK.out _ _ ⟨(pw_cell_below HB.out hw915_0), (pw_cell_below HB.out hw915_1), (pw_cell_below HB.out hw915_2), (pw_cell_below HB.out hw915_3), (pw_cell_below HB.out hw915_4), (pw_cell_below HB.out hw915_5), (pw_cell_below HB.out hw915_6)⟩ (fun hHeld => ?_); clear hK K; refine nm 41 ?_; refine pu 8 42 (fb 9 511) HT_ ?_; refine done_ (done_of HT_.out (by kernel_rfl)) ?_; have az : 0 ≤ (a2 : Int) := oda; have aA : a2 < (l0.length : Int) := oda; obtain ⟨bd, bg, aH, aI, aJ, aK, aL, aM, aN⟩ := at_T120 ac.out a2 az aA
          obtain rfl : a3 = bd := (by injection bg)
          replace aH := pw_cell_below HB.out aH; replace aI := pw_cell_below HB.out aI; replace aJ := pw_cell_below HB.out aJ; replace aK := pw_cell_below HB.out aK; replace aL := pw_cell_below HB.out aL; replace aM := pw_cell_below HB.out aM; replace aN := pw_cell_below HB.out aN; replace az := eq_true az; replace aA := eq_true aA; have aF : 0 ≤ (a2 : Int) := oda; have aG : a2 < (l0.length : Int) := oda; obtain ⟨bi, bj, b1, b2, b3, b4, b5, b6, b7⟩ := at_T120 ac.out a2 aF aG
          obtain rfl : a3 = bi := (by injection bj)
          replace b1 := pw_cell_below HB.out b1; replace b2 := pw_cell_below HB.out b2; replace b3 := pw_cell_below HB.out b3; replace b4 := pw_cell_below HB.out b4; replace b5 := pw_cell_below HB.out b5; replace b6 := pw_cell_below HB.out b6; replace b7 := pw_cell_below HB.out b7; replace aF := eq_true aF; replace aG := eq_true aG
          try go_wp2
          go_ret
          exact ⟨Ye2, be HB.out⟩
         ·rw [if_neg b0] at H
          have bV : (((rd_T120 l0 a2).f2.f0) != ((Int.tmod (wrap64 ((wrap64 ((wrap64 ((wrap64 (a4 + 1)) + 1)) + 1)) + 1)) 3) == 0)) = false := by simpa using b0
          (try (have bW : decide (((rd_T120 l0 a2).f2.f0) = ((Int.tmod (wrap64 ((wrap64 ((wrap64 ((wrap64 (a4 + 1)) + 1)) + 1)) + 1)) 3) == 0)) = true := by simpa using b0)); (try (have bX : (((rd_T120 l0 a2).f2.f0) == ((Int.tmod (wrap64 ((wrap64 ((wrap64 ((wrap64 (a4 + 1)) + 1)) + 1)) + 1)) 3) == 0)) = true := by simpa using b0)); clear b0; replace H := Option.bind_eq_some_iff.mp H; obtain ⟨aD, bJ, H⟩ := H; replace H : (if ((rd_T120 l0 a2).f2.f1).toList = aD.toList then (if (((rd_T120 l0 a2).f2.f2) != ((Int.tmod (wrap64 ((wrap64 ((wrap64 ((wrap64 ((wrap64 ((wrap64 (a4 + 1)) + 1)) + 1)) + 1)) + 1)) + 1)) 3) == 0)) = true then (some (-1)) else (laws_heldChangeS.l0 k1 l0 (wrap64 ((wrap64 ((wrap64 ((wrap64 ((wrap64 ((wrap64 ((wrap64 (a4 + 1)) + 1)) + 1)) + 1)) + 1)) + 1)) + 1)) (wrap64 (a2 + 1)))) else (some (-1))) = some r := H; have bF := Aside0.mk bJ; clear bJ
          by_cases bm : ((rd_T120 l0 a2).f2.f1).toList = aD.toList
          ·rw [if_pos bm] at H
           have bY : (((rd_T120 l0 a2).f2.f1).toList == aD.toList) = true := beq_iff_eq.mpr bm; have bZ : (((rd_T120 l0 a2).f2.f1).toList != aD.toList) = false := bne_eq_false_iff_eq.mpr bm; clear bm
           by_cases b8 : (((rd_T120 l0 a2).f2.f2) != ((Int.tmod (wrap64 ((wrap64 ((wrap64 ((wrap64 ((wrap64 ((wrap64 (a4 + 1)) + 1)) + 1)) + 1)) + 1)) + 1)) 3) == 0)) = true
           ·rw [if_pos b8] at H
            have c1 : (((rd_T120 l0 a2).f2.f2) != ((Int.tmod (wrap64 ((wrap64 ((wrap64 ((wrap64 ((wrap64 ((wrap64 (a4 + 1)) + 1)) + 1)) + 1)) + 1)) + 1)) 3) == 0)) = true := b8; (try (have ca : decide (((rd_T120 l0 a2).f2.f2) = ((Int.tmod (wrap64 ((wrap64 ((wrap64 ((wrap64 ((wrap64 ((wrap64 (a4 + 1)) + 1)) + 1)) + 1)) + 1)) + 1)) 3) == 0)) = false := by simpa using b8)); (try (have cc : (((rd_T120 l0 a2).f2.f2) == ((Int.tmod (wrap64 ((wrap64 ((wrap64 ((wrap64 ((wrap64 ((wrap64 (a4 + 1)) + 1)) + 1)) + 1)) + 1)) + 1)) 3) == 0)) = false := by simpa using b8)); (try (have c24b3 : ¬ (((rd_T120 l0 a2).f2.f2) = ((Int.tmod (wrap64 ((wrap64 ((wrap64 ((wrap64 ((wrap64 ((wrap64 (a4 + 1)) + 1)) + 1)) + 1)) + 1)) + 1)) 3) == 0)) := by simpa using b8)); clear b8; obtain rfl := Option.some.inj H
            try go_wp2
            refine Ya1 (below_drew1 HB.out) ?_; clear HB; intro HB; have ad : 0 ≤ (a2 : Int) := oda; have ae : a2 < (l0.length : Int) := oda; obtain ⟨a3, aE, a5, a6, a7, a8, a9, aa, ab⟩ := at_T120 ac.out a2 ad ae; have hw912_6 := ab; have hw912_5 := aa; have hw912_4 := a9; have hw912_3 := a8; have hw912_2 := a7; have hw912_1 := a6; have hw912_0 := a5
            cases aE
            replace a5 := pw_cell_below HB.out a5; replace a6 := pw_cell_below HB.out a6; replace a7 := pw_cell_below HB.out a7; replace a8 := pw_cell_below HB.out a8; replace a9 := pw_cell_below HB.out a9; replace aa := pw_cell_below HB.out aa; replace ab := pw_cell_below HB.out ab; replace ad := eq_true ad; replace ae := eq_true ae; refine start_ (n := 8) (S := fun w' => w'.cell? (a3.add ((a2).toNat * 7)) = some (.string ((rd_T120 l0 a2).f0)) ∧ w'.cell? ⟨(a3.add ((a2).toNat * 7)).block, (a3.add ((a2).toNat * 7)).off + 1, none⟩ = some (.bool ((rd_T120 l0 a2).f1.f0)) ∧ w'.cell? ⟨(a3.add ((a2).toNat * 7)).block, (a3.add ((a2).toNat * 7)).off + 2, none⟩ = some (.string ((rd_T120 l0 a2).f1.f1)) ∧ w'.cell? ⟨(a3.add ((a2).toNat * 7)).block, (a3.add ((a2).toNat * 7)).off + 3, none⟩ = some (.bool ((rd_T120 l0 a2).f1.f2)) ∧ w'.cell? ⟨(a3.add ((a2).toNat * 7)).block, (a3.add ((a2).toNat * 7)).off + 4, none⟩ = some (.bool ((rd_T120 l0 a2).f2.f0)) ∧ w'.cell? ⟨(a3.add ((a2).toNat * 7)).block, (a3.add ((a2).toNat * 7)).off + 5, none⟩ = some (.string ((rd_T120 l0 a2).f2.f1)) ∧ w'.cell? ⟨(a3.add ((a2).toNat * 7)).block, (a3.add ((a2).toNat * 7)).off + 6, none⟩ = some (.bool ((rd_T120 l0 a2).f2.f2))) (ds := []) (fb 8 0) (by kernel_rfl) rfl rfl ⟨(pw_cell_below HB.out hw912_0), (pw_cell_below HB.out hw912_1), (pw_cell_below HB.out hw912_2), (pw_cell_below HB.out hw912_3), (pw_cell_below HB.out hw912_4), (pw_cell_below HB.out hw912_5), (pw_cell_below HB.out hw912_6)⟩ (fun hHeld => ?_); refine with_tabW laws_heldChangeS.tab4 laws_heldChangeS.bits4 (fun HT_ HW_ => ?_); generalize wr.drew = w25 at HB a5 a6 a7 a8 a9 aa ab hHeld ⊢; refine pu 0 12 (fb 8 1) HT_ ?_; refine pu 1 13 (fb 8 3) HT_ ?_; refine pu 2 14 (fb 8 7) HT_ ?_; refine pu 3 15 (fb 8 15) HT_ ?_; refine pu 5 17 (fb 8 47) HT_ ?_; refine tk 4 16 (fb 8 63) HT_ HW_ hHeld ?_; refine o1 6 (some 18) (fb 8 127) HT_ (fun K hK => ?_); refine gs _ (#[.int .i64 a4]) Tryd.func156 ?_; (with_reducible refine (laws_markText.calls k1 a4 aB _ A5.out).mono ?_); rintro e w26 ⟨rfl, hb⟩; refine ⟨_, rfl, ?_⟩; refine Ya1 (below_step (be HB.out) hb) ?_; clear HB; intro HB; (try clear hb); (try clear hb2); (try clear hk); (try clear hi); refine hK.out _ _ ⟨(pw_cell_below HB.out hw912_0), (pw_cell_below HB.out hw912_1), (pw_cell_below HB.out hw912_2), (pw_cell_below HB.out hw912_3), (pw_cell_below HB.out hw912_4), (pw_cell_below HB.out hw912_5), (pw_cell_below HB.out hw912_6)⟩ (fun hHeld => ?_); clear hK K; refine nm 18 ?_; refine pu 7 19 (fb 8 255) HT_ ?_; refine done_ (done_of HT_.out (by kernel_rfl)) ?_; have am : 0 ≤ (a2 : Int) := oda; have an : a2 < (l0.length : Int) := oda; obtain ⟨aV, aW, aq, ar, au, av, aw, ax, ay⟩ := at_T120 ac.out a2 am an
            obtain rfl : a3 = aV := (by injection aW)
            replace aq := pw_cell_below HB.out aq; replace ar := pw_cell_below HB.out ar; replace au := pw_cell_below HB.out au; replace av := pw_cell_below HB.out av; replace aw := pw_cell_below HB.out aw; replace ax := pw_cell_below HB.out ax; replace ay := pw_cell_below HB.out ay; replace am := eq_true am; replace an := eq_true an
            try go_wp2
            refine Ya1 (below_drew1 HB.out) ?_; clear HB; intro HB; have ao : 0 ≤ (a2 : Int) := oda; have ap : a2 < (l0.length : Int) := oda; obtain ⟨aY, aZ, af, ag, ah, ai, aj, ak, al⟩ := at_T120 ac.out a2 ao ap; have hw915_6 := al; have hw915_5 := ak; have hw915_4 := aj; have hw915_3 := ai; have hw915_2 := ah; have hw915_1 := ag; have hw915_0 := af
            obtain rfl : a3 = aY := (by injection aZ)
            replace af := pw_cell_below HB.out af; replace ag := pw_cell_below HB.out ag; replace ah := pw_cell_below HB.out ah; replace ai := pw_cell_below HB.out ai; replace aj := pw_cell_below HB.out aj; replace ak := pw_cell_below HB.out ak; replace al := pw_cell_below HB.out al; replace ao := eq_true ao; replace ap := eq_true ap; refine start_ (n := 9) (S := fun w' => w'.cell? (a3.add ((a2).toNat * 7)) = some (.string ((rd_T120 l0 a2).f0)) ∧ w'.cell? ⟨(a3.add ((a2).toNat * 7)).block, (a3.add ((a2).toNat * 7)).off + 1, none⟩ = some (.bool ((rd_T120 l0 a2).f1.f0)) ∧ w'.cell? ⟨(a3.add ((a2).toNat * 7)).block, (a3.add ((a2).toNat * 7)).off + 2, none⟩ = some (.string ((rd_T120 l0 a2).f1.f1)) ∧ w'.cell? ⟨(a3.add ((a2).toNat * 7)).block, (a3.add ((a2).toNat * 7)).off + 3, none⟩ = some (.bool ((rd_T120 l0 a2).f1.f2)) ∧ w'.cell? ⟨(a3.add ((a2).toNat * 7)).block, (a3.add ((a2).toNat * 7)).off + 4, none⟩ = some (.bool ((rd_T120 l0 a2).f2.f0)) ∧ w'.cell? ⟨(a3.add ((a2).toNat * 7)).block, (a3.add ((a2).toNat * 7)).off + 5, none⟩ = some (.string ((rd_T120 l0 a2).f2.f1)) ∧ w'.cell? ⟨(a3.add ((a2).toNat * 7)).block, (a3.add ((a2).toNat * 7)).off + 6, none⟩ = some (.bool ((rd_T120 l0 a2).f2.f2))) (ds := []) (fb 9 0) (by kernel_rfl) rfl rfl ⟨(pw_cell_below HB.out hw915_0), (pw_cell_below HB.out hw915_1), (pw_cell_below HB.out hw915_2), (pw_cell_below HB.out hw915_3), (pw_cell_below HB.out hw915_4), (pw_cell_below HB.out hw915_5), (pw_cell_below HB.out hw915_6)⟩ (fun hHeld => ?_); refine with_tabW laws_heldChangeS.tab10 laws_heldChangeS.bits10 (fun HT_ HW_ => ?_); generalize w26.drew = w27 at HB af ag ah ai aj ak al hHeld ⊢; refine pu 0 34 (fb 9 1) HT_ ?_; refine pu 1 35 (fb 9 3) HT_ ?_; refine pu 2 36 (fb 9 7) HT_ ?_; refine pu 3 37 (fb 9 15) HT_ ?_; refine pu 4 38 (fb 9 31) HT_ ?_; refine pu 6 40 (fb 9 95) HT_ ?_; refine tk 5 39 (fb 9 127) HT_ HW_ hHeld ?_; refine o1 7 (some 41) (fb 9 255) HT_ (fun K hK => ?_); refine gs _ (#[.int .i64 (wrap64 ((wrap64 (a4 + 1)) + 1))]) Tryd.func156 ?_; (with_reducible refine (laws_markText.calls k1 (wrap64 ((wrap64 (a4 + 1)) + 1)) aC _ bq.out).mono ?_); rintro e w28 ⟨rfl, hb⟩; refine ⟨_, rfl, ?_⟩; refine Ya1 (below_step (be HB.out) hb) ?_; clear HB; intro HB; (try clear hb); (try clear hb2); (try clear hk); (try clear hi); refine hK.out _ _ ⟨(pw_cell_below HB.out hw915_0), (pw_cell_below HB.out hw915_1), (pw_cell_below HB.out hw915_2), (pw_cell_below HB.out hw915_3), (pw_cell_below HB.out hw915_4), (pw_cell_below HB.out hw915_5), (pw_cell_below HB.out hw915_6)⟩ (fun hHeld => ?_); clear hK K; refine nm 41 ?_; refine pu 8 42 (fb 9 511) HT_ ?_; refine done_ (done_of HT_.out (by kernel_rfl)) ?_; have az : 0 ≤ (a2 : Int) := oda; have aA : a2 < (l0.length : Int) := oda; obtain ⟨bd, bg, aH, aI, aJ, aK, aL, aM, aN⟩ := at_T120 ac.out a2 az aA
            obtain rfl : a3 = bd := (by injection bg)
            replace aH := pw_cell_below HB.out aH; replace aI := pw_cell_below HB.out aI; replace aJ := pw_cell_below HB.out aJ; replace aK := pw_cell_below HB.out aK; replace aL := pw_cell_below HB.out aL; replace aM := pw_cell_below HB.out aM; replace aN := pw_cell_below HB.out aN; replace az := eq_true az; replace aA := eq_true aA; have aF : 0 ≤ (a2 : Int) := oda; have aG : a2 < (l0.length : Int) := oda; obtain ⟨bi, bj, b1, b2, b3, b4, b5, b6, b7⟩ := at_T120 ac.out a2 aF aG
            obtain rfl : a3 = bi := (by injection bj)
            replace b1 := pw_cell_below HB.out b1; replace b2 := pw_cell_below HB.out b2; replace b3 := pw_cell_below HB.out b3; replace b4 := pw_cell_below HB.out b4; replace b5 := pw_cell_below HB.out b5; replace b6 := pw_cell_below HB.out b6; replace b7 := pw_cell_below HB.out b7; replace aF := eq_true aF; replace aG := eq_true aG
            try go_wp2
            refine Ya1 (below_drew1 HB.out) ?_; clear HB; intro HB; have b9 : 0 ≤ (a2 : Int) := oda; have ba : a2 < (l0.length : Int) := oda; obtain ⟨bu, bv, aO, aP, aQ, aR, aS, aT, aU⟩ := at_T120 ac.out a2 b9 ba; have hw919_6 := aU; have hw919_5 := aT; have hw919_4 := aS; have hw919_3 := aR; have hw919_2 := aQ; have hw919_1 := aP; have hw919_0 := aO
            obtain rfl : a3 = bu := (by injection bv)
            replace aO := pw_cell_below HB.out aO; replace aP := pw_cell_below HB.out aP; replace aQ := pw_cell_below HB.out aQ; replace aR := pw_cell_below HB.out aR; replace aS := pw_cell_below HB.out aS; replace aT := pw_cell_below HB.out aT; replace aU := pw_cell_below HB.out aU; replace b9 := eq_true b9; replace ba := eq_true ba; refine start_ (n := 9) (S := fun w' => w'.cell? (a3.add ((a2).toNat * 7)) = some (.string ((rd_T120 l0 a2).f0)) ∧ w'.cell? ⟨(a3.add ((a2).toNat * 7)).block, (a3.add ((a2).toNat * 7)).off + 1, none⟩ = some (.bool ((rd_T120 l0 a2).f1.f0)) ∧ w'.cell? ⟨(a3.add ((a2).toNat * 7)).block, (a3.add ((a2).toNat * 7)).off + 2, none⟩ = some (.string ((rd_T120 l0 a2).f1.f1)) ∧ w'.cell? ⟨(a3.add ((a2).toNat * 7)).block, (a3.add ((a2).toNat * 7)).off + 3, none⟩ = some (.bool ((rd_T120 l0 a2).f1.f2)) ∧ w'.cell? ⟨(a3.add ((a2).toNat * 7)).block, (a3.add ((a2).toNat * 7)).off + 4, none⟩ = some (.bool ((rd_T120 l0 a2).f2.f0)) ∧ w'.cell? ⟨(a3.add ((a2).toNat * 7)).block, (a3.add ((a2).toNat * 7)).off + 5, none⟩ = some (.string ((rd_T120 l0 a2).f2.f1)) ∧ w'.cell? ⟨(a3.add ((a2).toNat * 7)).block, (a3.add ((a2).toNat * 7)).off + 6, none⟩ = some (.bool ((rd_T120 l0 a2).f2.f2))) (ds := []) (fb 9 0) (by kernel_rfl) rfl rfl ⟨(pw_cell_below HB.out hw919_0), (pw_cell_below HB.out hw919_1), (pw_cell_below HB.out hw919_2), (pw_cell_below HB.out hw919_3), (pw_cell_below HB.out hw919_4), (pw_cell_below HB.out hw919_5), (pw_cell_below HB.out hw919_6)⟩ (fun hHeld => ?_); refine with_tabW laws_heldChangeS.tab19 laws_heldChangeS.bits19 (fun HT_ HW_ => ?_); generalize w28.drew = w29 at HB aO aP aQ aR aS aT aU hHeld ⊢; refine pu 0 69 (fb 9 1) HT_ ?_; refine pu 1 70 (fb 9 3) HT_ ?_; refine pu 2 71 (fb 9 7) HT_ ?_; refine pu 3 72 (fb 9 15) HT_ ?_; refine pu 4 73 (fb 9 31) HT_ ?_; refine pu 6 75 (fb 9 95) HT_ ?_; refine tk 5 74 (fb 9 127) HT_ HW_ hHeld ?_; refine o1 7 (some 76) (fb 9 255) HT_ (fun K hK => ?_); refine gs _ (#[.int .i64 (wrap64 ((wrap64 ((wrap64 ((wrap64 ((wrap64 (a4 + 1)) + 1)) + 1)) + 1)) + 1))]) Tryd.func156 ?_; (with_reducible refine (laws_markText.calls k1 (wrap64 ((wrap64 ((wrap64 ((wrap64 ((wrap64 (a4 + 1)) + 1)) + 1)) + 1)) + 1)) aD _ bF.out).mono ?_); rintro e w30 ⟨rfl, hb⟩; refine ⟨_, rfl, ?_⟩; refine Ya1 (below_step (be HB.out) hb) ?_; clear HB; intro HB; (try clear hb); (try clear hb2); (try clear hk); (try clear hi); refine hK.out _ _ ⟨(pw_cell_below HB.out hw919_0), (pw_cell_below HB.out hw919_1), (pw_cell_below HB.out hw919_2), (pw_cell_below HB.out hw919_3), (pw_cell_below HB.out hw919_4), (pw_cell_below HB.out hw919_5), (pw_cell_below HB.out hw919_6)⟩ (fun hHeld => ?_); clear hK K; refine nm 76 ?_; refine pu 8 77 (fb 9 511) HT_ ?_; refine done_ (done_of HT_.out (by kernel_rfl)) ?_; have bn : 0 ≤ (a2 : Int) := oda; have bo : a2 < (l0.length : Int) := oda; obtain ⟨bG, bH, bw, bz, bA, bB, bC, bD, bE⟩ := at_T120 ac.out a2 bn bo
            obtain rfl : a3 = bG := (by injection bH)
            replace bw := pw_cell_below HB.out bw; replace bz := pw_cell_below HB.out bz; replace bA := pw_cell_below HB.out bA; replace bB := pw_cell_below HB.out bB; replace bC := pw_cell_below HB.out bC; replace bD := pw_cell_below HB.out bD; replace bE := pw_cell_below HB.out bE; replace bn := eq_true bn; replace bo := eq_true bo
            try go_wp2
            go_ret
            exact ⟨Ye2, be HB.out⟩
           ·rw [if_neg b8] at H
            have c1 : (((rd_T120 l0 a2).f2.f2) != ((Int.tmod (wrap64 ((wrap64 ((wrap64 ((wrap64 ((wrap64 ((wrap64 (a4 + 1)) + 1)) + 1)) + 1)) + 1)) + 1)) 3) == 0)) = false := by simpa using b8
            (try (have ca : decide (((rd_T120 l0 a2).f2.f2) = ((Int.tmod (wrap64 ((wrap64 ((wrap64 ((wrap64 ((wrap64 ((wrap64 (a4 + 1)) + 1)) + 1)) + 1)) + 1)) + 1)) 3) == 0)) = true := by simpa using b8)); (try (have cc : (((rd_T120 l0 a2).f2.f2) == ((Int.tmod (wrap64 ((wrap64 ((wrap64 ((wrap64 ((wrap64 ((wrap64 (a4 + 1)) + 1)) + 1)) + 1)) + 1)) + 1)) 3) == 0)) = true := by simpa using b8)); clear b8; have H' := Aside0.mk H; clear H
            try go_wp2
            refine Ya1 (below_drew1 HB.out) ?_; clear HB; intro HB; have ad : 0 ≤ (a2 : Int) := oda; have ae : a2 < (l0.length : Int) := oda; obtain ⟨a3, aE, a5, a6, a7, a8, a9, aa, ab⟩ := at_T120 ac.out a2 ad ae; have hw912_6 := ab; have hw912_5 := aa; have hw912_4 := a9; have hw912_3 := a8; have hw912_2 := a7; have hw912_1 := a6; have hw912_0 := a5
            cases aE
            replace a5 := pw_cell_below HB.out a5; replace a6 := pw_cell_below HB.out a6; replace a7 := pw_cell_below HB.out a7; replace a8 := pw_cell_below HB.out a8; replace a9 := pw_cell_below HB.out a9; replace aa := pw_cell_below HB.out aa; replace ab := pw_cell_below HB.out ab; replace ad := eq_true ad; replace ae := eq_true ae; refine start_ (n := 8) (S := fun w' => w'.cell? (a3.add ((a2).toNat * 7)) = some (.string ((rd_T120 l0 a2).f0)) ∧ w'.cell? ⟨(a3.add ((a2).toNat * 7)).block, (a3.add ((a2).toNat * 7)).off + 1, none⟩ = some (.bool ((rd_T120 l0 a2).f1.f0)) ∧ w'.cell? ⟨(a3.add ((a2).toNat * 7)).block, (a3.add ((a2).toNat * 7)).off + 2, none⟩ = some (.string ((rd_T120 l0 a2).f1.f1)) ∧ w'.cell? ⟨(a3.add ((a2).toNat * 7)).block, (a3.add ((a2).toNat * 7)).off + 3, none⟩ = some (.bool ((rd_T120 l0 a2).f1.f2)) ∧ w'.cell? ⟨(a3.add ((a2).toNat * 7)).block, (a3.add ((a2).toNat * 7)).off + 4, none⟩ = some (.bool ((rd_T120 l0 a2).f2.f0)) ∧ w'.cell? ⟨(a3.add ((a2).toNat * 7)).block, (a3.add ((a2).toNat * 7)).off + 5, none⟩ = some (.string ((rd_T120 l0 a2).f2.f1)) ∧ w'.cell? ⟨(a3.add ((a2).toNat * 7)).block, (a3.add ((a2).toNat * 7)).off + 6, none⟩ = some (.bool ((rd_T120 l0 a2).f2.f2))) (ds := []) (fb 8 0) (by kernel_rfl) rfl rfl ⟨(pw_cell_below HB.out hw912_0), (pw_cell_below HB.out hw912_1), (pw_cell_below HB.out hw912_2), (pw_cell_below HB.out hw912_3), (pw_cell_below HB.out hw912_4), (pw_cell_below HB.out hw912_5), (pw_cell_below HB.out hw912_6)⟩ (fun hHeld => ?_); refine with_tabW laws_heldChangeS.tab4 laws_heldChangeS.bits4 (fun HT_ HW_ => ?_); generalize wr.drew = w31 at HB a5 a6 a7 a8 a9 aa ab hHeld ⊢; refine pu 0 12 (fb 8 1) HT_ ?_; refine pu 1 13 (fb 8 3) HT_ ?_; refine pu 2 14 (fb 8 7) HT_ ?_; refine pu 3 15 (fb 8 15) HT_ ?_; refine pu 5 17 (fb 8 47) HT_ ?_; refine tk 4 16 (fb 8 63) HT_ HW_ hHeld ?_; refine o1 6 (some 18) (fb 8 127) HT_ (fun K hK => ?_); refine gs _ (#[.int .i64 a4]) Tryd.func156 ?_; (with_reducible refine (laws_markText.calls k1 a4 aB _ A5.out).mono ?_); rintro e w32 ⟨rfl, hb⟩; refine ⟨_, rfl, ?_⟩; refine Ya1 (below_step (be HB.out) hb) ?_; clear HB; intro HB; (try clear hb); (try clear hb2); (try clear hk); (try clear hi); refine hK.out _ _ ⟨(pw_cell_below HB.out hw912_0), (pw_cell_below HB.out hw912_1), (pw_cell_below HB.out hw912_2), (pw_cell_below HB.out hw912_3), (pw_cell_below HB.out hw912_4), (pw_cell_below HB.out hw912_5), (pw_cell_below HB.out hw912_6)⟩ (fun hHeld => ?_); clear hK K; refine nm 18 ?_; refine pu 7 19 (fb 8 255) HT_ ?_; refine done_ (done_of HT_.out (by kernel_rfl)) ?_; have am : 0 ≤ (a2 : Int) := oda; have an : a2 < (l0.length : Int) := oda; obtain ⟨aV, aW, aq, ar, au, av, aw, ax, ay⟩ := at_T120 ac.out a2 am an
            obtain rfl : a3 = aV := (by injection aW)
            replace aq := pw_cell_below HB.out aq; replace ar := pw_cell_below HB.out ar; replace au := pw_cell_below HB.out au; replace av := pw_cell_below HB.out av; replace aw := pw_cell_below HB.out aw; replace ax := pw_cell_below HB.out ax; replace ay := pw_cell_below HB.out ay; replace am := eq_true am; replace an := eq_true an
            try go_wp2
            refine Ya1 (below_drew1 HB.out) ?_; clear HB; intro HB; have ao : 0 ≤ (a2 : Int) := oda; have ap : a2 < (l0.length : Int) := oda; obtain ⟨aY, aZ, af, ag, ah, ai, aj, ak, al⟩ := at_T120 ac.out a2 ao ap; have hw915_6 := al; have hw915_5 := ak; have hw915_4 := aj; have hw915_3 := ai; have hw915_2 := ah; have hw915_1 := ag; have hw915_0 := af
            obtain rfl : a3 = aY := (by injection aZ)
            replace af := pw_cell_below HB.out af; replace ag := pw_cell_below HB.out ag; replace ah := pw_cell_below HB.out ah; replace ai := pw_cell_below HB.out ai; replace aj := pw_cell_below HB.out aj; replace ak := pw_cell_below HB.out ak; replace al := pw_cell_below HB.out al; replace ao := eq_true ao; replace ap := eq_true ap; refine start_ (n := 9) (S := fun w' => w'.cell? (a3.add ((a2).toNat * 7)) = some (.string ((rd_T120 l0 a2).f0)) ∧ w'.cell? ⟨(a3.add ((a2).toNat * 7)).block, (a3.add ((a2).toNat * 7)).off + 1, none⟩ = some (.bool ((rd_T120 l0 a2).f1.f0)) ∧ w'.cell? ⟨(a3.add ((a2).toNat * 7)).block, (a3.add ((a2).toNat * 7)).off + 2, none⟩ = some (.string ((rd_T120 l0 a2).f1.f1)) ∧ w'.cell? ⟨(a3.add ((a2).toNat * 7)).block, (a3.add ((a2).toNat * 7)).off + 3, none⟩ = some (.bool ((rd_T120 l0 a2).f1.f2)) ∧ w'.cell? ⟨(a3.add ((a2).toNat * 7)).block, (a3.add ((a2).toNat * 7)).off + 4, none⟩ = some (.bool ((rd_T120 l0 a2).f2.f0)) ∧ w'.cell? ⟨(a3.add ((a2).toNat * 7)).block, (a3.add ((a2).toNat * 7)).off + 5, none⟩ = some (.string ((rd_T120 l0 a2).f2.f1)) ∧ w'.cell? ⟨(a3.add ((a2).toNat * 7)).block, (a3.add ((a2).toNat * 7)).off + 6, none⟩ = some (.bool ((rd_T120 l0 a2).f2.f2))) (ds := []) (fb 9 0) (by kernel_rfl) rfl rfl ⟨(pw_cell_below HB.out hw915_0), (pw_cell_below HB.out hw915_1), (pw_cell_below HB.out hw915_2), (pw_cell_below HB.out hw915_3), (pw_cell_below HB.out hw915_4), (pw_cell_below HB.out hw915_5), (pw_cell_below HB.out hw915_6)⟩ (fun hHeld => ?_); refine with_tabW laws_heldChangeS.tab10 laws_heldChangeS.bits10 (fun HT_ HW_ => ?_); generalize w32.drew = w33 at HB af ag ah ai aj ak al hHeld ⊢; refine pu 0 34 (fb 9 1) HT_ ?_; refine pu 1 35 (fb 9 3) HT_ ?_; refine pu 2 36 (fb 9 7) HT_ ?_; refine pu 3 37 (fb 9 15) HT_ ?_; refine pu 4 38 (fb 9 31) HT_ ?_; refine pu 6 40 (fb 9 95) HT_ ?_; refine tk 5 39 (fb 9 127) HT_ HW_ hHeld ?_; refine o1 7 (some 41) (fb 9 255) HT_ (fun K hK => ?_); refine gs _ (#[.int .i64 (wrap64 ((wrap64 (a4 + 1)) + 1))]) Tryd.func156 ?_; (with_reducible refine (laws_markText.calls k1 (wrap64 ((wrap64 (a4 + 1)) + 1)) aC _ bq.out).mono ?_); rintro e w34 ⟨rfl, hb⟩; refine ⟨_, rfl, ?_⟩; refine Ya1 (below_step (be HB.out) hb) ?_; clear HB; intro HB; (try clear hb); (try clear hb2); (try clear hk); (try clear hi); refine hK.out _ _ ⟨(pw_cell_below HB.out hw915_0), (pw_cell_below HB.out hw915_1), (pw_cell_below HB.out hw915_2), (pw_cell_below HB.out hw915_3), (pw_cell_below HB.out hw915_4), (pw_cell_below HB.out hw915_5), (pw_cell_below HB.out hw915_6)⟩ (fun hHeld => ?_); clear hK K; refine nm 41 ?_; refine pu 8 42 (fb 9 511) HT_ ?_; refine done_ (done_of HT_.out (by kernel_rfl)) ?_; have az : 0 ≤ (a2 : Int) := oda; have aA : a2 < (l0.length : Int) := oda; obtain ⟨bd, bg, aH, aI, aJ, aK, aL, aM, aN⟩ := at_T120 ac.out a2 az aA
            obtain rfl : a3 = bd := (by injection bg)
            replace aH := pw_cell_below HB.out aH; replace aI := pw_cell_below HB.out aI; replace aJ := pw_cell_below HB.out aJ; replace aK := pw_cell_below HB.out aK; replace aL := pw_cell_below HB.out aL; replace aM := pw_cell_below HB.out aM; replace aN := pw_cell_below HB.out aN; replace az := eq_true az; replace aA := eq_true aA; have aF : 0 ≤ (a2 : Int) := oda; have aG : a2 < (l0.length : Int) := oda; obtain ⟨bi, bj, b1, b2, b3, b4, b5, b6, b7⟩ := at_T120 ac.out a2 aF aG
            obtain rfl : a3 = bi := (by injection bj)
            replace b1 := pw_cell_below HB.out b1; replace b2 := pw_cell_below HB.out b2; replace b3 := pw_cell_below HB.out b3; replace b4 := pw_cell_below HB.out b4; replace b5 := pw_cell_below HB.out b5; replace b6 := pw_cell_below HB.out b6; replace b7 := pw_cell_below HB.out b7; replace aF := eq_true aF; replace aG := eq_true aG
            try go_wp2
            refine Ya1 (below_drew1 HB.out) ?_; clear HB; intro HB; have b9 : 0 ≤ (a2 : Int) := oda; have ba : a2 < (l0.length : Int) := oda; obtain ⟨bu, bv, aO, aP, aQ, aR, aS, aT, aU⟩ := at_T120 ac.out a2 b9 ba; have hw919_6 := aU; have hw919_5 := aT; have hw919_4 := aS; have hw919_3 := aR; have hw919_2 := aQ; have hw919_1 := aP; have hw919_0 := aO
            obtain rfl : a3 = bu := (by injection bv)
            replace aO := pw_cell_below HB.out aO; replace aP := pw_cell_below HB.out aP; replace aQ := pw_cell_below HB.out aQ; replace aR := pw_cell_below HB.out aR; replace aS := pw_cell_below HB.out aS; replace aT := pw_cell_below HB.out aT; replace aU := pw_cell_below HB.out aU; replace b9 := eq_true b9; replace ba := eq_true ba; refine start_ (n := 9) (S := fun w' => w'.cell? (a3.add ((a2).toNat * 7)) = some (.string ((rd_T120 l0 a2).f0)) ∧ w'.cell? ⟨(a3.add ((a2).toNat * 7)).block, (a3.add ((a2).toNat * 7)).off + 1, none⟩ = some (.bool ((rd_T120 l0 a2).f1.f0)) ∧ w'.cell? ⟨(a3.add ((a2).toNat * 7)).block, (a3.add ((a2).toNat * 7)).off + 2, none⟩ = some (.string ((rd_T120 l0 a2).f1.f1)) ∧ w'.cell? ⟨(a3.add ((a2).toNat * 7)).block, (a3.add ((a2).toNat * 7)).off + 3, none⟩ = some (.bool ((rd_T120 l0 a2).f1.f2)) ∧ w'.cell? ⟨(a3.add ((a2).toNat * 7)).block, (a3.add ((a2).toNat * 7)).off + 4, none⟩ = some (.bool ((rd_T120 l0 a2).f2.f0)) ∧ w'.cell? ⟨(a3.add ((a2).toNat * 7)).block, (a3.add ((a2).toNat * 7)).off + 5, none⟩ = some (.string ((rd_T120 l0 a2).f2.f1)) ∧ w'.cell? ⟨(a3.add ((a2).toNat * 7)).block, (a3.add ((a2).toNat * 7)).off + 6, none⟩ = some (.bool ((rd_T120 l0 a2).f2.f2))) (ds := []) (fb 9 0) (by kernel_rfl) rfl rfl ⟨(pw_cell_below HB.out hw919_0), (pw_cell_below HB.out hw919_1), (pw_cell_below HB.out hw919_2), (pw_cell_below HB.out hw919_3), (pw_cell_below HB.out hw919_4), (pw_cell_below HB.out hw919_5), (pw_cell_below HB.out hw919_6)⟩ (fun hHeld => ?_); refine with_tabW laws_heldChangeS.tab19 laws_heldChangeS.bits19 (fun HT_ HW_ => ?_); generalize w34.drew = w35 at HB aO aP aQ aR aS aT aU hHeld ⊢; refine pu 0 69 (fb 9 1) HT_ ?_; refine pu 1 70 (fb 9 3) HT_ ?_; refine pu 2 71 (fb 9 7) HT_ ?_; refine pu 3 72 (fb 9 15) HT_ ?_; refine pu 4 73 (fb 9 31) HT_ ?_; refine pu 6 75 (fb 9 95) HT_ ?_; refine tk 5 74 (fb 9 127) HT_ HW_ hHeld ?_; refine o1 7 (some 76) (fb 9 255) HT_ (fun K hK => ?_); refine gs _ (#[.int .i64 (wrap64 ((wrap64 ((wrap64 ((wrap64 ((wrap64 (a4 + 1)) + 1)) + 1)) + 1)) + 1))]) Tryd.func156 ?_; (with_reducible refine (laws_markText.calls k1 (wrap64 ((wrap64 ((wrap64 ((wrap64 ((wrap64 (a4 + 1)) + 1)) + 1)) + 1)) + 1)) aD _ bF.out).mono ?_); rintro e w36 ⟨rfl, hb⟩; refine ⟨_, rfl, ?_⟩; refine Ya1 (below_step (be HB.out) hb) ?_; clear HB; intro HB; (try clear hb); (try clear hb2); (try clear hk); (try clear hi); refine hK.out _ _ ⟨(pw_cell_below HB.out hw919_0), (pw_cell_below HB.out hw919_1), (pw_cell_below HB.out hw919_2), (pw_cell_below HB.out hw919_3), (pw_cell_below HB.out hw919_4), (pw_cell_below HB.out hw919_5), (pw_cell_below HB.out hw919_6)⟩ (fun hHeld => ?_); clear hK K; refine nm 76 ?_; refine pu 8 77 (fb 9 511) HT_ ?_; refine done_ (done_of HT_.out (by kernel_rfl)) ?_; have bn : 0 ≤ (a2 : Int) := oda; have bo : a2 < (l0.length : Int) := oda; obtain ⟨bG, bH, bw, bz, bA, bB, bC, bD, bE⟩ := at_T120 ac.out a2 bn bo
            obtain rfl : a3 = bG := (by injection bH)
            replace bw := pw_cell_below HB.out bw; replace bz := pw_cell_below HB.out bz; replace bA := pw_cell_below HB.out bA; replace bB := pw_cell_below HB.out bB; replace bC := pw_cell_below HB.out bC; replace bD := pw_cell_below HB.out bD; replace bE := pw_cell_below HB.out bE; replace bn := eq_true bn; replace bo := eq_true bo
            try go_wp2
            go_roundg k1
            case measure => have := HK1.out; omega
            case rel => exact ⟨(wrap64 ((wrap64 ((wrap64 ((wrap64 ((wrap64 ((wrap64 ((wrap64 (a4 + 1)) + 1)) + 1)) + 1)) + 1)) + 1)) + 1)), (wrap64 (a2 + 1)), Ye1, Ye1, H', ⟨by have := HK1.out; omega⟩, ⟨be HB.out⟩⟩
          ·rw [if_neg bm] at H
           have bY : (((rd_T120 l0 a2).f2.f1).toList == aD.toList) = false := beq_eq_false_iff_ne.mpr bm; have bZ : (((rd_T120 l0 a2).f2.f1).toList != aD.toList) = true := bne_iff_ne.mpr bm; obtain rfl := Option.some.inj H
           try go_wp2
           refine Ya1 (below_drew1 HB.out) ?_; clear HB; intro HB; have ad : 0 ≤ (a2 : Int) := oda; have ae : a2 < (l0.length : Int) := oda; obtain ⟨a3, aE, a5, a6, a7, a8, a9, aa, ab⟩ := at_T120 ac.out a2 ad ae; have hw912_6 := ab; have hw912_5 := aa; have hw912_4 := a9; have hw912_3 := a8; have hw912_2 := a7; have hw912_1 := a6; have hw912_0 := a5
           cases aE
           replace a5 := pw_cell_below HB.out a5; replace a6 := pw_cell_below HB.out a6; replace a7 := pw_cell_below HB.out a7; replace a8 := pw_cell_below HB.out a8; replace a9 := pw_cell_below HB.out a9; replace aa := pw_cell_below HB.out aa; replace ab := pw_cell_below HB.out ab; replace ad := eq_true ad; replace ae := eq_true ae; refine start_ (n := 8) (S := fun w' => w'.cell? (a3.add ((a2).toNat * 7)) = some (.string ((rd_T120 l0 a2).f0)) ∧ w'.cell? ⟨(a3.add ((a2).toNat * 7)).block, (a3.add ((a2).toNat * 7)).off + 1, none⟩ = some (.bool ((rd_T120 l0 a2).f1.f0)) ∧ w'.cell? ⟨(a3.add ((a2).toNat * 7)).block, (a3.add ((a2).toNat * 7)).off + 2, none⟩ = some (.string ((rd_T120 l0 a2).f1.f1)) ∧ w'.cell? ⟨(a3.add ((a2).toNat * 7)).block, (a3.add ((a2).toNat * 7)).off + 3, none⟩ = some (.bool ((rd_T120 l0 a2).f1.f2)) ∧ w'.cell? ⟨(a3.add ((a2).toNat * 7)).block, (a3.add ((a2).toNat * 7)).off + 4, none⟩ = some (.bool ((rd_T120 l0 a2).f2.f0)) ∧ w'.cell? ⟨(a3.add ((a2).toNat * 7)).block, (a3.add ((a2).toNat * 7)).off + 5, none⟩ = some (.string ((rd_T120 l0 a2).f2.f1)) ∧ w'.cell? ⟨(a3.add ((a2).toNat * 7)).block, (a3.add ((a2).toNat * 7)).off + 6, none⟩ = some (.bool ((rd_T120 l0 a2).f2.f2))) (ds := []) (fb 8 0) (by kernel_rfl) rfl rfl ⟨(pw_cell_below HB.out hw912_0), (pw_cell_below HB.out hw912_1), (pw_cell_below HB.out hw912_2), (pw_cell_below HB.out hw912_3), (pw_cell_below HB.out hw912_4), (pw_cell_below HB.out hw912_5), (pw_cell_below HB.out hw912_6)⟩ (fun hHeld => ?_); refine with_tabW laws_heldChangeS.tab4 laws_heldChangeS.bits4 (fun HT_ HW_ => ?_); generalize wr.drew = w37 at HB a5 a6 a7 a8 a9 aa ab hHeld ⊢; refine pu 0 12 (fb 8 1) HT_ ?_; refine pu 1 13 (fb 8 3) HT_ ?_; refine pu 2 14 (fb 8 7) HT_ ?_; refine pu 3 15 (fb 8 15) HT_ ?_; refine pu 5 17 (fb 8 47) HT_ ?_; refine tk 4 16 (fb 8 63) HT_ HW_ hHeld ?_; refine o1 6 (some 18) (fb 8 127) HT_ (fun K hK => ?_); refine gs _ (#[.int .i64 a4]) Tryd.func156 ?_; (with_reducible refine (laws_markText.calls k1 a4 aB _ A5.out).mono ?_); rintro e w38 ⟨rfl, hb⟩; refine ⟨_, rfl, ?_⟩; refine Ya1 (below_step (be HB.out) hb) ?_; clear HB; intro HB; (try clear hb); (try clear hb2); (try clear hk); (try clear hi); refine hK.out _ _ ⟨(pw_cell_below HB.out hw912_0), (pw_cell_below HB.out hw912_1), (pw_cell_below HB.out hw912_2), (pw_cell_below HB.out hw912_3), (pw_cell_below HB.out hw912_4), (pw_cell_below HB.out hw912_5), (pw_cell_below HB.out hw912_6)⟩ (fun hHeld => ?_); clear hK K; refine nm 18 ?_; refine pu 7 19 (fb 8 255) HT_ ?_; refine done_ (done_of HT_.out (by kernel_rfl)) ?_; have am : 0 ≤ (a2 : Int) := oda; have an : a2 < (l0.length : Int) := oda; obtain ⟨aV, aW, aq, ar, au, av, aw, ax, ay⟩ := at_T120 ac.out a2 am an
           obtain rfl : a3 = aV := (by injection aW)
           replace aq := pw_cell_below HB.out aq; replace ar := pw_cell_below HB.out ar; replace au := pw_cell_below HB.out au; replace av := pw_cell_below HB.out av; replace aw := pw_cell_below HB.out aw; replace ax := pw_cell_below HB.out ax; replace ay := pw_cell_below HB.out ay; replace am := eq_true am; replace an := eq_true an
           try go_wp2
           refine Ya1 (below_drew1 HB.out) ?_; clear HB; intro HB; have ao : 0 ≤ (a2 : Int) := oda; have ap : a2 < (l0.length : Int) := oda; obtain ⟨aY, aZ, af, ag, ah, ai, aj, ak, al⟩ := at_T120 ac.out a2 ao ap; have hw915_6 := al; have hw915_5 := ak; have hw915_4 := aj; have hw915_3 := ai; have hw915_2 := ah; have hw915_1 := ag; have hw915_0 := af
           obtain rfl : a3 = aY := (by injection aZ)
           replace af := pw_cell_below HB.out af; replace ag := pw_cell_below HB.out ag; replace ah := pw_cell_below HB.out ah; replace ai := pw_cell_below HB.out ai; replace aj := pw_cell_below HB.out aj; replace ak := pw_cell_below HB.out ak; replace al := pw_cell_below HB.out al; replace ao := eq_true ao; replace ap := eq_true ap; refine start_ (n := 9) (S := fun w' => w'.cell? (a3.add ((a2).toNat * 7)) = some (.string ((rd_T120 l0 a2).f0)) ∧ w'.cell? ⟨(a3.add ((a2).toNat * 7)).block, (a3.add ((a2).toNat * 7)).off + 1, none⟩ = some (.bool ((rd_T120 l0 a2).f1.f0)) ∧ w'.cell? ⟨(a3.add ((a2).toNat * 7)).block, (a3.add ((a2).toNat * 7)).off + 2, none⟩ = some (.string ((rd_T120 l0 a2).f1.f1)) ∧ w'.cell? ⟨(a3.add ((a2).toNat * 7)).block, (a3.add ((a2).toNat * 7)).off + 3, none⟩ = some (.bool ((rd_T120 l0 a2).f1.f2)) ∧ w'.cell? ⟨(a3.add ((a2).toNat * 7)).block, (a3.add ((a2).toNat * 7)).off + 4, none⟩ = some (.bool ((rd_T120 l0 a2).f2.f0)) ∧ w'.cell? ⟨(a3.add ((a2).toNat * 7)).block, (a3.add ((a2).toNat * 7)).off + 5, none⟩ = some (.string ((rd_T120 l0 a2).f2.f1)) ∧ w'.cell? ⟨(a3.add ((a2).toNat * 7)).block, (a3.add ((a2).toNat * 7)).off + 6, none⟩ = some (.bool ((rd_T120 l0 a2).f2.f2))) (ds := []) (fb 9 0) (by kernel_rfl) rfl rfl ⟨(pw_cell_below HB.out hw915_0), (pw_cell_below HB.out hw915_1), (pw_cell_below HB.out hw915_2), (pw_cell_below HB.out hw915_3), (pw_cell_below HB.out hw915_4), (pw_cell_below HB.out hw915_5), (pw_cell_below HB.out hw915_6)⟩ (fun hHeld => ?_); refine with_tabW laws_heldChangeS.tab10 laws_heldChangeS.bits10 (fun HT_ HW_ => ?_); generalize w38.drew = w39 at HB af ag ah ai aj ak al hHeld ⊢; refine pu 0 34 (fb 9 1) HT_ ?_; refine pu 1 35 (fb 9 3) HT_ ?_; refine pu 2 36 (fb 9 7) HT_ ?_; refine pu 3 37 (fb 9 15) HT_ ?_; refine pu 4 38 (fb 9 31) HT_ ?_; refine pu 6 40 (fb 9 95) HT_ ?_; refine tk 5 39 (fb 9 127) HT_ HW_ hHeld ?_; refine o1 7 (some 41) (fb 9 255) HT_ (fun K hK => ?_); refine gs _ (#[.int .i64 (wrap64 ((wrap64 (a4 + 1)) + 1))]) Tryd.func156 ?_; (with_reducible refine (laws_markText.calls k1 (wrap64 ((wrap64 (a4 + 1)) + 1)) aC _ bq.out).mono ?_); rintro e w40 ⟨rfl, hb⟩; refine ⟨_, rfl, ?_⟩; refine Ya1 (below_step (be HB.out) hb) ?_; clear HB; intro HB; (try clear hb); (try clear hb2); (try clear hk); (try clear hi); refine hK.out _ _ ⟨(pw_cell_below HB.out hw915_0), (pw_cell_below HB.out hw915_1), (pw_cell_below HB.out hw915_2), (pw_cell_below HB.out hw915_3), (pw_cell_below HB.out hw915_4), (pw_cell_below HB.out hw915_5), (pw_cell_below HB.out hw915_6)⟩ (fun hHeld => ?_); clear hK K; refine nm 41 ?_; refine pu 8 42 (fb 9 511) HT_ ?_; refine done_ (done_of HT_.out (by kernel_rfl)) ?_; have az : 0 ≤ (a2 : Int) := oda; have aA : a2 < (l0.length : Int) := oda; obtain ⟨bd, bg, aH, aI, aJ, aK, aL, aM, aN⟩ := at_T120 ac.out a2 az aA
           obtain rfl : a3 = bd := (by injection bg)
           replace aH := pw_cell_below HB.out aH; replace aI := pw_cell_below HB.out aI; replace aJ := pw_cell_below HB.out aJ; replace aK := pw_cell_below HB.out aK; replace aL := pw_cell_below HB.out aL; replace aM := pw_cell_below HB.out aM; replace aN := pw_cell_below HB.out aN; replace az := eq_true az; replace aA := eq_true aA; have aF : 0 ≤ (a2 : Int) := oda; have aG : a2 < (l0.length : Int) := oda; obtain ⟨bi, bj, b1, b2, b3, b4, b5, b6, b7⟩ := at_T120 ac.out a2 aF aG
           obtain rfl : a3 = bi := (by injection bj)
           replace b1 := pw_cell_below HB.out b1; replace b2 := pw_cell_below HB.out b2; replace b3 := pw_cell_below HB.out b3; replace b4 := pw_cell_below HB.out b4; replace b5 := pw_cell_below HB.out b5; replace b6 := pw_cell_below HB.out b6; replace b7 := pw_cell_below HB.out b7; replace aF := eq_true aF; replace aG := eq_true aG
           try go_wp2
           refine Ya1 (below_drew1 HB.out) ?_; clear HB; intro HB; have b9 : 0 ≤ (a2 : Int) := oda; have ba : a2 < (l0.length : Int) := oda; obtain ⟨bu, bv, aO, aP, aQ, aR, aS, aT, aU⟩ := at_T120 ac.out a2 b9 ba; have hw919_6 := aU; have hw919_5 := aT; have hw919_4 := aS; have hw919_3 := aR; have hw919_2 := aQ; have hw919_1 := aP; have hw919_0 := aO
           obtain rfl : a3 = bu := (by injection bv)
           replace aO := pw_cell_below HB.out aO; replace aP := pw_cell_below HB.out aP; replace aQ := pw_cell_below HB.out aQ; replace aR := pw_cell_below HB.out aR; replace aS := pw_cell_below HB.out aS; replace aT := pw_cell_below HB.out aT; replace aU := pw_cell_below HB.out aU; replace b9 := eq_true b9; replace ba := eq_true ba; refine start_ (n := 9) (S := fun w' => w'.cell? (a3.add ((a2).toNat * 7)) = some (.string ((rd_T120 l0 a2).f0)) ∧ w'.cell? ⟨(a3.add ((a2).toNat * 7)).block, (a3.add ((a2).toNat * 7)).off + 1, none⟩ = some (.bool ((rd_T120 l0 a2).f1.f0)) ∧ w'.cell? ⟨(a3.add ((a2).toNat * 7)).block, (a3.add ((a2).toNat * 7)).off + 2, none⟩ = some (.string ((rd_T120 l0 a2).f1.f1)) ∧ w'.cell? ⟨(a3.add ((a2).toNat * 7)).block, (a3.add ((a2).toNat * 7)).off + 3, none⟩ = some (.bool ((rd_T120 l0 a2).f1.f2)) ∧ w'.cell? ⟨(a3.add ((a2).toNat * 7)).block, (a3.add ((a2).toNat * 7)).off + 4, none⟩ = some (.bool ((rd_T120 l0 a2).f2.f0)) ∧ w'.cell? ⟨(a3.add ((a2).toNat * 7)).block, (a3.add ((a2).toNat * 7)).off + 5, none⟩ = some (.string ((rd_T120 l0 a2).f2.f1)) ∧ w'.cell? ⟨(a3.add ((a2).toNat * 7)).block, (a3.add ((a2).toNat * 7)).off + 6, none⟩ = some (.bool ((rd_T120 l0 a2).f2.f2))) (ds := []) (fb 9 0) (by kernel_rfl) rfl rfl ⟨(pw_cell_below HB.out hw919_0), (pw_cell_below HB.out hw919_1), (pw_cell_below HB.out hw919_2), (pw_cell_below HB.out hw919_3), (pw_cell_below HB.out hw919_4), (pw_cell_below HB.out hw919_5), (pw_cell_below HB.out hw919_6)⟩ (fun hHeld => ?_); refine with_tabW laws_heldChangeS.tab19 laws_heldChangeS.bits19 (fun HT_ HW_ => ?_); generalize w40.drew = w41 at HB aO aP aQ aR aS aT aU hHeld ⊢; refine pu 0 69 (fb 9 1) HT_ ?_; refine pu 1 70 (fb 9 3) HT_ ?_; refine pu 2 71 (fb 9 7) HT_ ?_; refine pu 3 72 (fb 9 15) HT_ ?_; refine pu 4 73 (fb 9 31) HT_ ?_; refine pu 6 75 (fb 9 95) HT_ ?_; refine tk 5 74 (fb 9 127) HT_ HW_ hHeld ?_; refine o1 7 (some 76) (fb 9 255) HT_ (fun K hK => ?_); refine gs _ (#[.int .i64 (wrap64 ((wrap64 ((wrap64 ((wrap64 ((wrap64 (a4 + 1)) + 1)) + 1)) + 1)) + 1))]) Tryd.func156 ?_; (with_reducible refine (laws_markText.calls k1 (wrap64 ((wrap64 ((wrap64 ((wrap64 ((wrap64 (a4 + 1)) + 1)) + 1)) + 1)) + 1)) aD _ bF.out).mono ?_); rintro e w42 ⟨rfl, hb⟩; refine ⟨_, rfl, ?_⟩; refine Ya1 (below_step (be HB.out) hb) ?_; clear HB; intro HB; (try clear hb); (try clear hb2); (try clear hk); (try clear hi); refine hK.out _ _ ⟨(pw_cell_below HB.out hw919_0), (pw_cell_below HB.out hw919_1), (pw_cell_below HB.out hw919_2), (pw_cell_below HB.out hw919_3), (pw_cell_below HB.out hw919_4), (pw_cell_below HB.out hw919_5), (pw_cell_below HB.out hw919_6)⟩ (fun hHeld => ?_); clear hK K; refine nm 76 ?_; refine pu 8 77 (fb 9 511) HT_ ?_; refine done_ (done_of HT_.out (by kernel_rfl)) ?_
           try go_wp2
           go_ret
           exact ⟨Ye2, be HB.out⟩
       ·rw [if_neg bh] at H
        have bQ : (((rd_T120 l0 a2).f1.f1).toList == aC.toList) = false := beq_eq_false_iff_ne.mpr bh; have bR : (((rd_T120 l0 a2).f1.f1).toList != aC.toList) = true := bne_iff_ne.mpr bh; obtain rfl := Option.some.inj H
        try go_wp2
        refine Ya1 (below_drew1 HB.out) ?_; clear HB; intro HB; have ad : 0 ≤ (a2 : Int) := oda; have ae : a2 < (l0.length : Int) := oda; obtain ⟨a3, aE, a5, a6, a7, a8, a9, aa, ab⟩ := at_T120 ac.out a2 ad ae; have hw912_6 := ab; have hw912_5 := aa; have hw912_4 := a9; have hw912_3 := a8; have hw912_2 := a7; have hw912_1 := a6; have hw912_0 := a5
        cases aE
        replace a5 := pw_cell_below HB.out a5; replace a6 := pw_cell_below HB.out a6; replace a7 := pw_cell_below HB.out a7; replace a8 := pw_cell_below HB.out a8; replace a9 := pw_cell_below HB.out a9; replace aa := pw_cell_below HB.out aa; replace ab := pw_cell_below HB.out ab; replace ad := eq_true ad; replace ae := eq_true ae; refine start_ (n := 8) (S := fun w' => w'.cell? (a3.add ((a2).toNat * 7)) = some (.string ((rd_T120 l0 a2).f0)) ∧ w'.cell? ⟨(a3.add ((a2).toNat * 7)).block, (a3.add ((a2).toNat * 7)).off + 1, none⟩ = some (.bool ((rd_T120 l0 a2).f1.f0)) ∧ w'.cell? ⟨(a3.add ((a2).toNat * 7)).block, (a3.add ((a2).toNat * 7)).off + 2, none⟩ = some (.string ((rd_T120 l0 a2).f1.f1)) ∧ w'.cell? ⟨(a3.add ((a2).toNat * 7)).block, (a3.add ((a2).toNat * 7)).off + 3, none⟩ = some (.bool ((rd_T120 l0 a2).f1.f2)) ∧ w'.cell? ⟨(a3.add ((a2).toNat * 7)).block, (a3.add ((a2).toNat * 7)).off + 4, none⟩ = some (.bool ((rd_T120 l0 a2).f2.f0)) ∧ w'.cell? ⟨(a3.add ((a2).toNat * 7)).block, (a3.add ((a2).toNat * 7)).off + 5, none⟩ = some (.string ((rd_T120 l0 a2).f2.f1)) ∧ w'.cell? ⟨(a3.add ((a2).toNat * 7)).block, (a3.add ((a2).toNat * 7)).off + 6, none⟩ = some (.bool ((rd_T120 l0 a2).f2.f2))) (ds := []) (fb 8 0) (by kernel_rfl) rfl rfl ⟨(pw_cell_below HB.out hw912_0), (pw_cell_below HB.out hw912_1), (pw_cell_below HB.out hw912_2), (pw_cell_below HB.out hw912_3), (pw_cell_below HB.out hw912_4), (pw_cell_below HB.out hw912_5), (pw_cell_below HB.out hw912_6)⟩ (fun hHeld => ?_); refine with_tabW laws_heldChangeS.tab4 laws_heldChangeS.bits4 (fun HT_ HW_ => ?_); generalize wr.drew = w43 at HB a5 a6 a7 a8 a9 aa ab hHeld ⊢; refine pu 0 12 (fb 8 1) HT_ ?_; refine pu 1 13 (fb 8 3) HT_ ?_; refine pu 2 14 (fb 8 7) HT_ ?_; refine pu 3 15 (fb 8 15) HT_ ?_; refine pu 5 17 (fb 8 47) HT_ ?_; refine tk 4 16 (fb 8 63) HT_ HW_ hHeld ?_; refine o1 6 (some 18) (fb 8 127) HT_ (fun K hK => ?_); refine gs _ (#[.int .i64 a4]) Tryd.func156 ?_; (with_reducible refine (laws_markText.calls k1 a4 aB _ A5.out).mono ?_); rintro e w44 ⟨rfl, hb⟩; refine ⟨_, rfl, ?_⟩; refine Ya1 (below_step (be HB.out) hb) ?_; clear HB; intro HB; (try clear hb); (try clear hb2); (try clear hk); (try clear hi); refine hK.out _ _ ⟨(pw_cell_below HB.out hw912_0), (pw_cell_below HB.out hw912_1), (pw_cell_below HB.out hw912_2), (pw_cell_below HB.out hw912_3), (pw_cell_below HB.out hw912_4), (pw_cell_below HB.out hw912_5), (pw_cell_below HB.out hw912_6)⟩ (fun hHeld => ?_); clear hK K; refine nm 18 ?_; refine pu 7 19 (fb 8 255) HT_ ?_; refine done_ (done_of HT_.out (by kernel_rfl)) ?_; have am : 0 ≤ (a2 : Int) := oda; have an : a2 < (l0.length : Int) := oda; obtain ⟨aV, aW, aq, ar, au, av, aw, ax, ay⟩ := at_T120 ac.out a2 am an
        obtain rfl : a3 = aV := (by injection aW)
        replace aq := pw_cell_below HB.out aq; replace ar := pw_cell_below HB.out ar; replace au := pw_cell_below HB.out au; replace av := pw_cell_below HB.out av; replace aw := pw_cell_below HB.out aw; replace ax := pw_cell_below HB.out ax; replace ay := pw_cell_below HB.out ay; replace am := eq_true am; replace an := eq_true an
        try go_wp2
        refine Ya1 (below_drew1 HB.out) ?_; clear HB; intro HB; have ao : 0 ≤ (a2 : Int) := oda; have ap : a2 < (l0.length : Int) := oda; obtain ⟨aY, aZ, af, ag, ah, ai, aj, ak, al⟩ := at_T120 ac.out a2 ao ap; have hw915_6 := al; have hw915_5 := ak; have hw915_4 := aj; have hw915_3 := ai; have hw915_2 := ah; have hw915_1 := ag; have hw915_0 := af
        obtain rfl : a3 = aY := (by injection aZ)
        replace af := pw_cell_below HB.out af; replace ag := pw_cell_below HB.out ag; replace ah := pw_cell_below HB.out ah; replace ai := pw_cell_below HB.out ai; replace aj := pw_cell_below HB.out aj; replace ak := pw_cell_below HB.out ak; replace al := pw_cell_below HB.out al; replace ao := eq_true ao; replace ap := eq_true ap; refine start_ (n := 9) (S := fun w' => w'.cell? (a3.add ((a2).toNat * 7)) = some (.string ((rd_T120 l0 a2).f0)) ∧ w'.cell? ⟨(a3.add ((a2).toNat * 7)).block, (a3.add ((a2).toNat * 7)).off + 1, none⟩ = some (.bool ((rd_T120 l0 a2).f1.f0)) ∧ w'.cell? ⟨(a3.add ((a2).toNat * 7)).block, (a3.add ((a2).toNat * 7)).off + 2, none⟩ = some (.string ((rd_T120 l0 a2).f1.f1)) ∧ w'.cell? ⟨(a3.add ((a2).toNat * 7)).block, (a3.add ((a2).toNat * 7)).off + 3, none⟩ = some (.bool ((rd_T120 l0 a2).f1.f2)) ∧ w'.cell? ⟨(a3.add ((a2).toNat * 7)).block, (a3.add ((a2).toNat * 7)).off + 4, none⟩ = some (.bool ((rd_T120 l0 a2).f2.f0)) ∧ w'.cell? ⟨(a3.add ((a2).toNat * 7)).block, (a3.add ((a2).toNat * 7)).off + 5, none⟩ = some (.string ((rd_T120 l0 a2).f2.f1)) ∧ w'.cell? ⟨(a3.add ((a2).toNat * 7)).block, (a3.add ((a2).toNat * 7)).off + 6, none⟩ = some (.bool ((rd_T120 l0 a2).f2.f2))) (ds := []) (fb 9 0) (by kernel_rfl) rfl rfl ⟨(pw_cell_below HB.out hw915_0), (pw_cell_below HB.out hw915_1), (pw_cell_below HB.out hw915_2), (pw_cell_below HB.out hw915_3), (pw_cell_below HB.out hw915_4), (pw_cell_below HB.out hw915_5), (pw_cell_below HB.out hw915_6)⟩ (fun hHeld => ?_); refine with_tabW laws_heldChangeS.tab10 laws_heldChangeS.bits10 (fun HT_ HW_ => ?_); generalize w44.drew = w45 at HB af ag ah ai aj ak al hHeld ⊢; refine pu 0 34 (fb 9 1) HT_ ?_; refine pu 1 35 (fb 9 3) HT_ ?_; refine pu 2 36 (fb 9 7) HT_ ?_; refine pu 3 37 (fb 9 15) HT_ ?_; refine pu 4 38 (fb 9 31) HT_ ?_; refine pu 6 40 (fb 9 95) HT_ ?_; refine tk 5 39 (fb 9 127) HT_ HW_ hHeld ?_; refine o1 7 (some 41) (fb 9 255) HT_ (fun K hK => ?_); refine gs _ (#[.int .i64 (wrap64 ((wrap64 (a4 + 1)) + 1))]) Tryd.func156 ?_; (with_reducible refine (laws_markText.calls k1 (wrap64 ((wrap64 (a4 + 1)) + 1)) aC _ bq.out).mono ?_); rintro e w46 ⟨rfl, hb⟩; refine ⟨_, rfl, ?_⟩; refine Ya1 (below_step (be HB.out) hb) ?_; clear HB; intro HB; (try clear hb); (try clear hb2); (try clear hk); (try clear hi); refine hK.out _ _ ⟨(pw_cell_below HB.out hw915_0), (pw_cell_below HB.out hw915_1), (pw_cell_below HB.out hw915_2), (pw_cell_below HB.out hw915_3), (pw_cell_below HB.out hw915_4), (pw_cell_below HB.out hw915_5), (pw_cell_below HB.out hw915_6)⟩ (fun hHeld => ?_); clear hK K; refine nm 41 ?_; refine pu 8 42 (fb 9 511) HT_ ?_; refine done_ (done_of HT_.out (by kernel_rfl)) ?_
        try go_wp2
        go_ret
        exact ⟨Ye2, be HB.out⟩
     ·rw [if_neg c6] at H
      have bL : (((rd_T120 l0 a2).f0).toList == aB.toList) = false := beq_eq_false_iff_ne.mpr c6; have bM : (((rd_T120 l0 a2).f0).toList != aB.toList) = true := bne_iff_ne.mpr c6; obtain rfl := Option.some.inj H
      try go_wp2
      refine Ya1 (below_drew1 HB.out) ?_; clear HB; intro HB; have ad : 0 ≤ (a2 : Int) := oda; have ae : a2 < (l0.length : Int) := oda; obtain ⟨a3, aE, a5, a6, a7, a8, a9, aa, ab⟩ := at_T120 ac.out a2 ad ae; have hw912_6 := ab; have hw912_5 := aa; have hw912_4 := a9; have hw912_3 := a8; have hw912_2 := a7; have hw912_1 := a6; have hw912_0 := a5
      cases aE
      replace a5 := pw_cell_below HB.out a5; replace a6 := pw_cell_below HB.out a6; replace a7 := pw_cell_below HB.out a7; replace a8 := pw_cell_below HB.out a8; replace a9 := pw_cell_below HB.out a9; replace aa := pw_cell_below HB.out aa; replace ab := pw_cell_below HB.out ab; replace ad := eq_true ad; replace ae := eq_true ae; refine start_ (n := 8) (S := fun w' => w'.cell? (a3.add ((a2).toNat * 7)) = some (.string ((rd_T120 l0 a2).f0)) ∧ w'.cell? ⟨(a3.add ((a2).toNat * 7)).block, (a3.add ((a2).toNat * 7)).off + 1, none⟩ = some (.bool ((rd_T120 l0 a2).f1.f0)) ∧ w'.cell? ⟨(a3.add ((a2).toNat * 7)).block, (a3.add ((a2).toNat * 7)).off + 2, none⟩ = some (.string ((rd_T120 l0 a2).f1.f1)) ∧ w'.cell? ⟨(a3.add ((a2).toNat * 7)).block, (a3.add ((a2).toNat * 7)).off + 3, none⟩ = some (.bool ((rd_T120 l0 a2).f1.f2)) ∧ w'.cell? ⟨(a3.add ((a2).toNat * 7)).block, (a3.add ((a2).toNat * 7)).off + 4, none⟩ = some (.bool ((rd_T120 l0 a2).f2.f0)) ∧ w'.cell? ⟨(a3.add ((a2).toNat * 7)).block, (a3.add ((a2).toNat * 7)).off + 5, none⟩ = some (.string ((rd_T120 l0 a2).f2.f1)) ∧ w'.cell? ⟨(a3.add ((a2).toNat * 7)).block, (a3.add ((a2).toNat * 7)).off + 6, none⟩ = some (.bool ((rd_T120 l0 a2).f2.f2))) (ds := []) (fb 8 0) (by kernel_rfl) rfl rfl ⟨(pw_cell_below HB.out hw912_0), (pw_cell_below HB.out hw912_1), (pw_cell_below HB.out hw912_2), (pw_cell_below HB.out hw912_3), (pw_cell_below HB.out hw912_4), (pw_cell_below HB.out hw912_5), (pw_cell_below HB.out hw912_6)⟩ (fun hHeld => ?_); refine with_tabW laws_heldChangeS.tab4 laws_heldChangeS.bits4 (fun HT_ HW_ => ?_); generalize wr.drew = w47 at HB a5 a6 a7 a8 a9 aa ab hHeld ⊢; refine pu 0 12 (fb 8 1) HT_ ?_; refine pu 1 13 (fb 8 3) HT_ ?_; refine pu 2 14 (fb 8 7) HT_ ?_; refine pu 3 15 (fb 8 15) HT_ ?_; refine pu 5 17 (fb 8 47) HT_ ?_; refine tk 4 16 (fb 8 63) HT_ HW_ hHeld ?_; refine o1 6 (some 18) (fb 8 127) HT_ (fun K hK => ?_); refine gs _ (#[.int .i64 a4]) Tryd.func156 ?_; (with_reducible refine (laws_markText.calls k1 a4 aB _ A5.out).mono ?_); rintro e w48 ⟨rfl, hb⟩; refine ⟨_, rfl, ?_⟩; refine Ya1 (below_step (be HB.out) hb) ?_; clear HB; intro HB; (try clear hb); (try clear hb2); (try clear hk); (try clear hi); refine hK.out _ _ ⟨(pw_cell_below HB.out hw912_0), (pw_cell_below HB.out hw912_1), (pw_cell_below HB.out hw912_2), (pw_cell_below HB.out hw912_3), (pw_cell_below HB.out hw912_4), (pw_cell_below HB.out hw912_5), (pw_cell_below HB.out hw912_6)⟩ (fun hHeld => ?_); clear hK K; refine nm 18 ?_; refine pu 7 19 (fb 8 255) HT_ ?_; refine done_ (done_of HT_.out (by kernel_rfl)) ?_
      try go_wp2
      go_ret
      exact ⟨Ye2, be HB.out⟩
    ·rw [if_neg c4] at H
     exact absurd H (by simp)
   ·rw [if_neg c3] at H
    have bK : decide (a2 < (l0.length : Int)) = false := decide_eq_false c3; clear c3; obtain rfl := Option.some.inj H
    go_wp2
    go_ret
    exact ⟨Ye2, be HB.out⟩

end Go.Proofs.YtknagppkeodggaaDoor.P


namespace Go.Proofs.YtknagppkeodggaaDoor.P
open Go.RowKit Go.Proofs.YtknagppkeodggaaDoorW.PrintWords Go.Proofs.YtknagppkeodggaaDoorW.PrintLast Go.Proofs.YtknagppkeodggaaDoorW.PrintMore
attribute [local go_sem] max2_int min2_int max_two min_two max_three min_three max_four min_four
set_option linter.unusedVariables false
set_option linter.unusedSimpArgs false

/-! ### laws_heldPatch: function 34 -/
def laws_heldPatch.f (k : Nat) (a2 : List (S120)) (a1 : Int) : Option (Int) := (laws_heldChangeS.f k a2 a1).bind fun a3 => (if a3 < 0 then (some (-1)) else (some a3))
theorem laws_heldPatch.mono : ∀ a0 a1 k, LeO (laws_heldPatch.f k a0 a1) (laws_heldPatch.f (k + 1) a0 a1) := by
 intro a0 a1 k
 unfold laws_heldPatch.f
 repeat' first
   | (with_reducible exact laws_heldChangeS.mono _ _ _)
   | (with_reducible exact LeO.refl _)
   | (with_reducible exact LeO.none _)
   | (with_reducible refine LeO.ite ?_ ?_)
   | (with_reducible refine LeO.bind ?_ (fun _ => ?_))
   | exact laws_heldChangeS.mono _ _ _
   | exact LeO.none _
   | refine LeO.ite ?_ ?_
   | refine LeO.bind ?_ (fun _ => ?_)
set_option maxHeartbeats 8000000 in
set_option maxRecDepth 100000 in
theorem laws_heldPatch.calls (k : Nat) (a5 : Option Addr) (a6 : Nat) (a2 : List (S120)) (a1 : Int) (r : Int) (w : World) (a7 : Kd.C k120 w a5 a2.length a2) (a8 : a2.length ≤ a6) (h : laws_heldPatch.f k a2 a1 = some r) :
  Calls Tryd.prog 34 #[.agg #[.slice a5 a2.length a6], .int .i64 a1] w fun e w' => e = .returned (.int .i64 r) ∧ Below w.heap.size w w' := by
 have hu52 := Tryd.underlying52; have a9 := Aside0.mk a7; have aa := Aside0.mk a8; clear a7 a8; have HB := Aside0.mk (Below.refl w.heap.size w); have H : ((laws_heldChangeS.f k a2 a1).bind fun a3 => (if a3 < 0 then (some (-1)) else (some a3))) = some r := h; clear h; replace H := Option.bind_eq_some_iff.mp H; obtain ⟨a3, A30, H⟩ := H; replace H : (if a3 < 0 then (some (-1)) else (some a3)) = some r := H; have A3 := Aside0.mk A30; clear A30
 by_cases c4 : a3 < 0
 ·rw [if_pos c4] at H
  have ab : decide (a3 < 0) = true := decide_eq_true c4; clear c4; obtain rfl := Option.some.inj H
  go_enter Tryd.func34, Tryd.ntmps34
  go_wp2_with (first | ((with_reducible refine gd 2 rfl ?_); refine bx 2 52 (#[.slice a5 a2.length a6]) ?_; intro ac hg w5 hbox hb; refine Ya4 (below_step (be HB.out) hb) (hbox) (bs hg (be HB.out)) (bs hg (be HB.out)) ?_; clear HB; intro HB a4 ad ae; clear hb hbox hg; have ⟨af, ag⟩ := Yc1 a4.out) | ((with_reducible refine gc 96 rfl ?_); refine gl (some 8) _ (#[.slice a5 a2.length a6, .int .i64 a1]) Tryd.func96 ?_; (with_reducible refine (laws_heldChangeS.calls k _ _ a2 a1 a3 _ ?side1 ?side2 A3.out).mono ?_); (case side1 => exact cb (Kd.C_below a9.out HB.out)); (case side2 => exact aa.out); rintro e w7 ⟨rfl, hb⟩; refine ⟨_, rfl, ?_⟩; refine Ya2 (bb a4 hb) (below_step (bf HB.out) hb) ?_; clear a4 HB; intro a4 HB; (try clear hb); (try clear hb2); (try clear hk); (try clear hi)))
  go_ret
  exact ⟨Ye2, (bf HB.out)⟩
 ·rw [if_neg c4] at H
  have ab : decide (a3 < 0) = false := decide_eq_false c4; clear c4; obtain rfl := Option.some.inj H
  go_enter Tryd.func34, Tryd.ntmps34
  go_wp2_with (first | ((with_reducible refine gd 2 rfl ?_); refine bx 2 52 (#[.slice a5 a2.length a6]) ?_; intro ac hg w8 hbox hb; refine Ya4 (below_step (be HB.out) hb) (hbox) (bs hg (be HB.out)) (bs hg (be HB.out)) ?_; clear HB; intro HB a4 ad ae; clear hb hbox hg; have ⟨ah, ai⟩ := Yc1 a4.out) | ((with_reducible refine gc 96 rfl ?_); refine gl (some 8) _ (#[.slice a5 a2.length a6, .int .i64 a1]) Tryd.func96 ?_; (with_reducible refine (laws_heldChangeS.calls k _ _ a2 a1 a3 _ ?side1 ?side2 A3.out).mono ?_); (case side1 => exact cb (Kd.C_below a9.out HB.out)); (case side2 => exact aa.out); rintro e w10 ⟨rfl, hb⟩; refine ⟨_, rfl, ?_⟩; refine Ya2 (bb a4 hb) (below_step (bf HB.out) hb) ?_; clear a4 HB; intro a4 HB; (try clear hb); (try clear hb2); (try clear hk); (try clear hi)))
  go_ret
  exact ⟨Ye2, (bf HB.out)⟩

end Go.Proofs.YtknagppkeodggaaDoor.P


namespace Go.Proofs.YtknagppkeodggaaDoor.P
open Go.RowKit Go.Proofs.YtknagppkeodggaaDoorW.PrintWords Go.Proofs.YtknagppkeodggaaDoorW.PrintLast Go.Proofs.YtknagppkeodggaaDoorW.PrintMore
attribute [local go_sem] max2_int min2_int max_two min_two max_three min_three max_four min_four
set_option linter.unusedVariables false
set_option linter.unusedSimpArgs false

/-! ### laws_markChangeS: function 95 -/
def laws_markChangeS.l0 : Nat → List (S120) → Int → Int → Option (Int × (List (S120)))
 | 0, _, _, _ => none
 | k + 1, x0, x1, x5 => if x5 < (x0.length : Int) then ((laws_markText.f k x1).bind fun an => (if 0 ≤ x5 then ((some (x0.set (x5 : Int).toNat (⟨an, (⟨(rd_T120 x0 x5).f1.f0, (rd_T120 x0 x5).f1.f1, (rd_T120 x0 x5).f1.f2⟩ : S118), (⟨(rd_T120 x0 x5).f2.f0, (rd_T120 x0 x5).f2.f1, (rd_T120 x0 x5).f2.f2⟩ : S118)⟩ : S120) : List (S120))).bind fun ac => ((some (ac.set (x5 : Int).toNat (⟨(rd_T120 ac x5).f0, (⟨((Int.tmod (wrap64 (x1 + 1)) 3) == 0), (rd_T120 ac x5).f1.f1, (rd_T120 ac x5).f1.f2⟩ : S118), (⟨(rd_T120 ac x5).f2.f0, (rd_T120 ac x5).f2.f1, (rd_T120 ac x5).f2.f2⟩ : S118)⟩ : S120) : List (S120))).bind fun aa => ((laws_markText.f k (wrap64 ((wrap64 (x1 + 1)) + 1))).bind fun al => ((some (aa.set (x5 : Int).toNat (⟨(rd_T120 aa x5).f0, (⟨(rd_T120 aa x5).f1.f0, al, (rd_T120 aa x5).f1.f2⟩ : S118), (⟨(rd_T120 aa x5).f2.f0, (rd_T120 aa x5).f2.f1, (rd_T120 aa x5).f2.f2⟩ : S118)⟩ : S120) : List (S120))).bind fun a7 => ((some (a7.set (x5 : Int).toNat (⟨(rd_T120 a7 x5).f0, (⟨(rd_T120 a7 x5).f1.f0, (rd_T120 a7 x5).f1.f1, ((Int.tmod (wrap64 ((wrap64 ((wrap64 (x1 + 1)) + 1)) + 1)) 3) == 0)⟩ : S118), (⟨(rd_T120 a7 x5).f2.f0, (rd_T120 a7 x5).f2.f1, (rd_T120 a7 x5).f2.f2⟩ : S118)⟩ : S120) : List (S120))).bind fun a6 => ((some (a6.set (x5 : Int).toNat (⟨(rd_T120 a6 x5).f0, (⟨(rd_T120 a6 x5).f1.f0, (rd_T120 a6 x5).f1.f1, (rd_T120 a6 x5).f1.f2⟩ : S118), (⟨((Int.tmod (wrap64 ((wrap64 ((wrap64 ((wrap64 (x1 + 1)) + 1)) + 1)) + 1)) 3) == 0), (rd_T120 a6 x5).f2.f1, (rd_T120 a6 x5).f2.f2⟩ : S118)⟩ : S120) : List (S120))).bind fun a5 => ((laws_markText.f k (wrap64 ((wrap64 ((wrap64 ((wrap64 ((wrap64 (x1 + 1)) + 1)) + 1)) + 1)) + 1))).bind fun ad => ((some (a5.set (x5 : Int).toNat (⟨(rd_T120 a5 x5).f0, (⟨(rd_T120 a5 x5).f1.f0, (rd_T120 a5 x5).f1.f1, (rd_T120 a5 x5).f1.f2⟩ : S118), (⟨(rd_T120 a5 x5).f2.f0, ad, (rd_T120 a5 x5).f2.f2⟩ : S118)⟩ : S120) : List (S120))).bind fun a4 => (laws_markChangeS.l0 k (a4.set (x5 : Int).toNat (⟨(rd_T120 a4 x5).f0, (⟨(rd_T120 a4 x5).f1.f0, (rd_T120 a4 x5).f1.f1, (rd_T120 a4 x5).f1.f2⟩ : S118), (⟨(rd_T120 a4 x5).f2.f0, (rd_T120 a4 x5).f2.f1, ((Int.tmod (wrap64 ((wrap64 ((wrap64 ((wrap64 ((wrap64 ((wrap64 (x1 + 1)) + 1)) + 1)) + 1)) + 1)) + 1)) 3) == 0)⟩ : S118)⟩ : S120)) (wrap64 ((wrap64 ((wrap64 ((wrap64 ((wrap64 ((wrap64 ((wrap64 (x1 + 1)) + 1)) + 1)) + 1)) + 1)) + 1)) + 1)) (wrap64 (x5 + 1))))))))))) else (none))) else (some (x1, x0))
def laws_markChangeS.f (k : Nat) (l0 : List (S120)) (a1 : Int) : Option (Int × (List (S120))) := laws_markChangeS.l0 k l0 a1 0
theorem laws_markChangeS.mono_l : ∀ k, (∀ y0 y1 y2, LeO (laws_markChangeS.l0 k y0 y1 y2) (laws_markChangeS.l0 (k + 1) y0 y1 y2))
 | 0 => fun _ _ _ r h => by simp [laws_markChangeS.l0] at h
 | k + 1 => by
  have ih0 := laws_markChangeS.mono_l k
  ·intro y0 y1 y2
   unfold laws_markChangeS.l0
   repeat' first
   | (with_reducible exact ih0 _ _ _)
   | (with_reducible exact laws_markText.mono _ _)
   | (with_reducible exact LeO.refl _)
   | (with_reducible exact LeO.none _)
   | (with_reducible refine LeO.ite ?_ ?_)
   | (with_reducible refine LeO.bind ?_ (fun _ => ?_))
   | exact ih0 _ _ _
   | exact laws_markText.mono _ _
   | exact LeO.none _
   | refine LeO.ite ?_ ?_
   | refine LeO.bind ?_ (fun _ => ?_)
theorem laws_markChangeS.mono : ∀ a0 a1 k, LeO (laws_markChangeS.f k a0 a1) (laws_markChangeS.f (k + 1) a0 a1) := by
 intro a0 a1 k; have ih0 := laws_markChangeS.mono_l k
 unfold laws_markChangeS.f
 repeat' first
   | (with_reducible exact ih0 _ _ _)
   | (with_reducible exact laws_markText.mono _ _)
   | (with_reducible exact LeO.refl _)
   | (with_reducible exact LeO.none _)
   | (with_reducible refine LeO.ite ?_ ?_)
   | (with_reducible refine LeO.bind ?_ (fun _ => ?_))
   | exact ih0 _ _ _
   | exact laws_markText.mono _ _
   | exact LeO.none _
   | refine LeO.ite ?_ ?_
   | refine LeO.bind ?_ (fun _ => ?_)
set_option maxHeartbeats 8000000 in
set_option maxRecDepth 100000 in
theorem laws_markChangeS.calls (k : Nat) (P0_ : Nat → Prop) (u9000_ : Value) (l0 : List (S120)) (a1 : Int) (r1 : Int) (r2 : List (S120)) (w0 w : World) (hB : Below w0.heap.size w0 w) (ho0 : Kd.R k120 120 w w0.heap.size P0_ u9000_ l0) (h : laws_markChangeS.f k l0 a1 = some (r1, r2)) :
  Calls Tryd.prog 95 #[u9000_, .int .i64 a1] w fun e w' => e = .returned (.int .i64 r1) ∧ Kd.R k120 120 w' w0.heap.size (fun k_ => (P0_ k_ ∨ w.heap.size ≤ k_)) u9000_ r2 ∧ Below w0.heap.size w0 w' ∧ Kept w w' (fun k_ => P0_ k_) := by
 have HO0 := Aside0.mk (show Kd.R k120 120 w w0.heap.size (fun k_ => (P0_ k_ ∨ w.heap.size ≤ k_)) u9000_ l0 from Kd.R_mono ho0 (fun k_ hk => (.inl hk))); have HK := Aside0.mk (Kept.refl w (fun k_ => P0_ k_)); have HW0 := Aside0.mk hB.size; have HB := Aside0.mk hB; clear hB; have H : (laws_markChangeS.l0 k l0 a1 0) = some (r1, r2) := h; clear h; have H' := Aside0.mk H; clear H
 go_enter Tryd.func95, Tryd.ntmps95
 go_wp2
 go_loopg [1, 5] k (fun kq v1 v5 w' => ∃ (a8 : List (S120)) (a9 : Int) (a2 : Int), v1 = .int .i64 a9 ∧ v5 = .int .i64 a2 ∧ Aside0 (laws_markChangeS.l0 kq a8 a9 a2 = some (r1, r2)) ∧ Aside0 (kq ≤ k) ∧ Aside0 (Kd.R k120 120 w' w0.heap.size (fun k_ => (P0_ k_ ∨ w.heap.size ≤ k_)) u9000_ a8) ∧ Aside0 (Kept w w' (fun k_ => P0_ k_)) ∧ Aside0 (Below w0.heap.size w0 w'))
 case atStart => exact ⟨(l0), (a1), (0), Ye1, Ye1, H', ⟨Nat.le_refl _⟩, ⟨kr HO0.out⟩, ⟨by repeat (first | (with_reducible first | exact HK.out | apply Kept.alloc | apply Kept.drewN | apply Kept.drew) | exact HK.out)⟩, ⟨be HB.out⟩⟩
 case round =>
  clear H'; (try clear p2); obtain ⟨a8, a9, a2, rfl, rfl, HA, HK1, ab, HK, HB⟩ := hrel
  cases gk with
  | zero => exact absurd HA.out (by simp [laws_markChangeS.l0])
  | succ k1 =>
   have H := HA.out; clear HA; simp only [laws_markChangeS.l0] at H
   by_cases c3 : a2 < (a8.length : Int)
   ·rw [if_pos c3] at H
    have aR : decide (a2 < (a8.length : Int)) = true := decide_eq_true c3; clear c3; replace H := Option.bind_eq_some_iff.mp H; obtain ⟨an, A40, H⟩ := H; replace H : (if 0 ≤ a2 then ((some (a8.set (a2 : Int).toNat (⟨an, (⟨(rd_T120 a8 a2).f1.f0, (rd_T120 a8 a2).f1.f1, (rd_T120 a8 a2).f1.f2⟩ : S118), (⟨(rd_T120 a8 a2).f2.f0, (rd_T120 a8 a2).f2.f1, (rd_T120 a8 a2).f2.f2⟩ : S118)⟩ : S120) : List (S120))).bind fun ac => ((some (ac.set (a2 : Int).toNat (⟨(rd_T120 ac a2).f0, (⟨((Int.tmod (wrap64 (a9 + 1)) 3) == 0), (rd_T120 ac a2).f1.f1, (rd_T120 ac a2).f1.f2⟩ : S118), (⟨(rd_T120 ac a2).f2.f0, (rd_T120 ac a2).f2.f1, (rd_T120 ac a2).f2.f2⟩ : S118)⟩ : S120) : List (S120))).bind fun aa => ((laws_markText.f k1 (wrap64 ((wrap64 (a9 + 1)) + 1))).bind fun al => ((some (aa.set (a2 : Int).toNat (⟨(rd_T120 aa a2).f0, (⟨(rd_T120 aa a2).f1.f0, al, (rd_T120 aa a2).f1.f2⟩ : S118), (⟨(rd_T120 aa a2).f2.f0, (rd_T120 aa a2).f2.f1, (rd_T120 aa a2).f2.f2⟩ : S118)⟩ : S120) : List (S120))).bind fun a7 => ((some (a7.set (a2 : Int).toNat (⟨(rd_T120 a7 a2).f0, (⟨(rd_T120 a7 a2).f1.f0, (rd_T120 a7 a2).f1.f1, ((Int.tmod (wrap64 ((wrap64 ((wrap64 (a9 + 1)) + 1)) + 1)) 3) == 0)⟩ : S118), (⟨(rd_T120 a7 a2).f2.f0, (rd_T120 a7 a2).f2.f1, (rd_T120 a7 a2).f2.f2⟩ : S118)⟩ : S120) : List (S120))).bind fun a6 => ((some (a6.set (a2 : Int).toNat (⟨(rd_T120 a6 a2).f0, (⟨(rd_T120 a6 a2).f1.f0, (rd_T120 a6 a2).f1.f1, (rd_T120 a6 a2).f1.f2⟩ : S118), (⟨((Int.tmod (wrap64 ((wrap64 ((wrap64 ((wrap64 (a9 + 1)) + 1)) + 1)) + 1)) 3) == 0), (rd_T120 a6 a2).f2.f1, (rd_T120 a6 a2).f2.f2⟩ : S118)⟩ : S120) : List (S120))).bind fun a5 => ((laws_markText.f k1 (wrap64 ((wrap64 ((wrap64 ((wrap64 ((wrap64 (a9 + 1)) + 1)) + 1)) + 1)) + 1))).bind fun ad => ((some (a5.set (a2 : Int).toNat (⟨(rd_T120 a5 a2).f0, (⟨(rd_T120 a5 a2).f1.f0, (rd_T120 a5 a2).f1.f1, (rd_T120 a5 a2).f1.f2⟩ : S118), (⟨(rd_T120 a5 a2).f2.f0, ad, (rd_T120 a5 a2).f2.f2⟩ : S118)⟩ : S120) : List (S120))).bind fun a4 => (laws_markChangeS.l0 k1 (a4.set (a2 : Int).toNat (⟨(rd_T120 a4 a2).f0, (⟨(rd_T120 a4 a2).f1.f0, (rd_T120 a4 a2).f1.f1, (rd_T120 a4 a2).f1.f2⟩ : S118), (⟨(rd_T120 a4 a2).f2.f0, (rd_T120 a4 a2).f2.f1, ((Int.tmod (wrap64 ((wrap64 ((wrap64 ((wrap64 ((wrap64 ((wrap64 (a9 + 1)) + 1)) + 1)) + 1)) + 1)) + 1)) 3) == 0)⟩ : S118)⟩ : S120)) (wrap64 ((wrap64 ((wrap64 ((wrap64 ((wrap64 ((wrap64 ((wrap64 (a9 + 1)) + 1)) + 1)) + 1)) + 1)) + 1)) + 1)) (wrap64 (a2 + 1))))))))))) else (none)) = some (r1, r2) := H; have A4 := Aside0.mk A40; clear A40
    by_cases c5 : 0 ≤ a2
    ·rw [if_pos c5] at H
     have c5b0 : decide (0 ≤ a2) = true := decide_eq_true c5; clear c5
     obtain ⟨ac, ap⟩ : ∃ y_ : List (S120), y_ = (a8.set (a2 : Int).toNat (⟨an, (⟨(rd_T120 a8 a2).f1.f0, (rd_T120 a8 a2).f1.f1, (rd_T120 a8 a2).f1.f2⟩ : S118), (⟨(rd_T120 a8 a2).f2.f0, (rd_T120 a8 a2).f2.f1, (rd_T120 a8 a2).f2.f2⟩ : S118)⟩ : S120)) := ⟨_, rfl⟩
     replace H : ((some (ac.set (a2 : Int).toNat (⟨(rd_T120 ac a2).f0, (⟨((Int.tmod (wrap64 (a9 + 1)) 3) == 0), (rd_T120 ac a2).f1.f1, (rd_T120 ac a2).f1.f2⟩ : S118), (⟨(rd_T120 ac a2).f2.f0, (rd_T120 ac a2).f2.f1, (rd_T120 ac a2).f2.f2⟩ : S118)⟩ : S120) : List (S120))).bind fun aa => ((laws_markText.f k1 (wrap64 ((wrap64 (a9 + 1)) + 1))).bind fun al => ((some (aa.set (a2 : Int).toNat (⟨(rd_T120 aa a2).f0, (⟨(rd_T120 aa a2).f1.f0, al, (rd_T120 aa a2).f1.f2⟩ : S118), (⟨(rd_T120 aa a2).f2.f0, (rd_T120 aa a2).f2.f1, (rd_T120 aa a2).f2.f2⟩ : S118)⟩ : S120) : List (S120))).bind fun a7 => ((some (a7.set (a2 : Int).toNat (⟨(rd_T120 a7 a2).f0, (⟨(rd_T120 a7 a2).f1.f0, (rd_T120 a7 a2).f1.f1, ((Int.tmod (wrap64 ((wrap64 ((wrap64 (a9 + 1)) + 1)) + 1)) 3) == 0)⟩ : S118), (⟨(rd_T120 a7 a2).f2.f0, (rd_T120 a7 a2).f2.f1, (rd_T120 a7 a2).f2.f2⟩ : S118)⟩ : S120) : List (S120))).bind fun a6 => ((some (a6.set (a2 : Int).toNat (⟨(rd_T120 a6 a2).f0, (⟨(rd_T120 a6 a2).f1.f0, (rd_T120 a6 a2).f1.f1, (rd_T120 a6 a2).f1.f2⟩ : S118), (⟨((Int.tmod (wrap64 ((wrap64 ((wrap64 ((wrap64 (a9 + 1)) + 1)) + 1)) + 1)) 3) == 0), (rd_T120 a6 a2).f2.f1, (rd_T120 a6 a2).f2.f2⟩ : S118)⟩ : S120) : List (S120))).bind fun a5 => ((laws_markText.f k1 (wrap64 ((wrap64 ((wrap64 ((wrap64 ((wrap64 (a9 + 1)) + 1)) + 1)) + 1)) + 1))).bind fun ad => ((some (a5.set (a2 : Int).toNat (⟨(rd_T120 a5 a2).f0, (⟨(rd_T120 a5 a2).f1.f0, (rd_T120 a5 a2).f1.f1, (rd_T120 a5 a2).f1.f2⟩ : S118), (⟨(rd_T120 a5 a2).f2.f0, ad, (rd_T120 a5 a2).f2.f2⟩ : S118)⟩ : S120) : List (S120))).bind fun a4 => (laws_markChangeS.l0 k1 (a4.set (a2 : Int).toNat (⟨(rd_T120 a4 a2).f0, (⟨(rd_T120 a4 a2).f1.f0, (rd_T120 a4 a2).f1.f1, (rd_T120 a4 a2).f1.f2⟩ : S118), (⟨(rd_T120 a4 a2).f2.f0, (rd_T120 a4 a2).f2.f1, ((Int.tmod (wrap64 ((wrap64 ((wrap64 ((wrap64 ((wrap64 ((wrap64 (a9 + 1)) + 1)) + 1)) + 1)) + 1)) + 1)) 3) == 0)⟩ : S118)⟩ : S120)) (wrap64 ((wrap64 ((wrap64 ((wrap64 ((wrap64 ((wrap64 ((wrap64 (a9 + 1)) + 1)) + 1)) + 1)) + 1)) + 1)) + 1)) (wrap64 (a2 + 1)))))))))) = some (r1, r2) := by first | (rw [ap]; with_reducible exact H) | (have H2_ := (Option.bind_some _ _).symm.trans H; rw [ap]; with_reducible exact H2_) | (have H2_ := (Option.bind_some _ _).symm.trans H; with_reducible exact H2_) | with_reducible exact H | (rw [ap]; exact H) | exact H
     have aS := Aside0.mk ap; clear ap
     obtain ⟨aa, aq⟩ : ∃ y_ : List (S120), y_ = (ac.set (a2 : Int).toNat (⟨(rd_T120 ac a2).f0, (⟨((Int.tmod (wrap64 (a9 + 1)) 3) == 0), (rd_T120 ac a2).f1.f1, (rd_T120 ac a2).f1.f2⟩ : S118), (⟨(rd_T120 ac a2).f2.f0, (rd_T120 ac a2).f2.f1, (rd_T120 ac a2).f2.f2⟩ : S118)⟩ : S120)) := ⟨_, rfl⟩
     replace H : ((laws_markText.f k1 (wrap64 ((wrap64 (a9 + 1)) + 1))).bind fun al => ((some (aa.set (a2 : Int).toNat (⟨(rd_T120 aa a2).f0, (⟨(rd_T120 aa a2).f1.f0, al, (rd_T120 aa a2).f1.f2⟩ : S118), (⟨(rd_T120 aa a2).f2.f0, (rd_T120 aa a2).f2.f1, (rd_T120 aa a2).f2.f2⟩ : S118)⟩ : S120) : List (S120))).bind fun a7 => ((some (a7.set (a2 : Int).toNat (⟨(rd_T120 a7 a2).f0, (⟨(rd_T120 a7 a2).f1.f0, (rd_T120 a7 a2).f1.f1, ((Int.tmod (wrap64 ((wrap64 ((wrap64 (a9 + 1)) + 1)) + 1)) 3) == 0)⟩ : S118), (⟨(rd_T120 a7 a2).f2.f0, (rd_T120 a7 a2).f2.f1, (rd_T120 a7 a2).f2.f2⟩ : S118)⟩ : S120) : List (S120))).bind fun a6 => ((some (a6.set (a2 : Int).toNat (⟨(rd_T120 a6 a2).f0, (⟨(rd_T120 a6 a2).f1.f0, (rd_T120 a6 a2).f1.f1, (rd_T120 a6 a2).f1.f2⟩ : S118), (⟨((Int.tmod (wrap64 ((wrap64 ((wrap64 ((wrap64 (a9 + 1)) + 1)) + 1)) + 1)) 3) == 0), (rd_T120 a6 a2).f2.f1, (rd_T120 a6 a2).f2.f2⟩ : S118)⟩ : S120) : List (S120))).bind fun a5 => ((laws_markText.f k1 (wrap64 ((wrap64 ((wrap64 ((wrap64 ((wrap64 (a9 + 1)) + 1)) + 1)) + 1)) + 1))).bind fun ad => ((some (a5.set (a2 : Int).toNat (⟨(rd_T120 a5 a2).f0, (⟨(rd_T120 a5 a2).f1.f0, (rd_T120 a5 a2).f1.f1, (rd_T120 a5 a2).f1.f2⟩ : S118), (⟨(rd_T120 a5 a2).f2.f0, ad, (rd_T120 a5 a2).f2.f2⟩ : S118)⟩ : S120) : List (S120))).bind fun a4 => (laws_markChangeS.l0 k1 (a4.set (a2 : Int).toNat (⟨(rd_T120 a4 a2).f0, (⟨(rd_T120 a4 a2).f1.f0, (rd_T120 a4 a2).f1.f1, (rd_T120 a4 a2).f1.f2⟩ : S118), (⟨(rd_T120 a4 a2).f2.f0, (rd_T120 a4 a2).f2.f1, ((Int.tmod (wrap64 ((wrap64 ((wrap64 ((wrap64 ((wrap64 ((wrap64 (a9 + 1)) + 1)) + 1)) + 1)) + 1)) + 1)) 3) == 0)⟩ : S118)⟩ : S120)) (wrap64 ((wrap64 ((wrap64 ((wrap64 ((wrap64 ((wrap64 ((wrap64 (a9 + 1)) + 1)) + 1)) + 1)) + 1)) + 1)) + 1)) (wrap64 (a2 + 1))))))))) = some (r1, r2) := by first | (rw [aq]; with_reducible exact H) | (have H2_ := (Option.bind_some _ _).symm.trans H; rw [aq]; with_reducible exact H2_) | (have H2_ := (Option.bind_some _ _).symm.trans H; with_reducible exact H2_) | with_reducible exact H | (rw [aq]; exact H) | exact H
     have aT := Aside0.mk aq; clear aq; replace H := Option.bind_eq_some_iff.mp H; obtain ⟨al, A80, H⟩ := H; replace H : ((some (aa.set (a2 : Int).toNat (⟨(rd_T120 aa a2).f0, (⟨(rd_T120 aa a2).f1.f0, al, (rd_T120 aa a2).f1.f2⟩ : S118), (⟨(rd_T120 aa a2).f2.f0, (rd_T120 aa a2).f2.f1, (rd_T120 aa a2).f2.f2⟩ : S118)⟩ : S120) : List (S120))).bind fun a7 => ((some (a7.set (a2 : Int).toNat (⟨(rd_T120 a7 a2).f0, (⟨(rd_T120 a7 a2).f1.f0, (rd_T120 a7 a2).f1.f1, ((Int.tmod (wrap64 ((wrap64 ((wrap64 (a9 + 1)) + 1)) + 1)) 3) == 0)⟩ : S118), (⟨(rd_T120 a7 a2).f2.f0, (rd_T120 a7 a2).f2.f1, (rd_T120 a7 a2).f2.f2⟩ : S118)⟩ : S120) : List (S120))).bind fun a6 => ((some (a6.set (a2 : Int).toNat (⟨(rd_T120 a6 a2).f0, (⟨(rd_T120 a6 a2).f1.f0, (rd_T120 a6 a2).f1.f1, (rd_T120 a6 a2).f1.f2⟩ : S118), (⟨((Int.tmod (wrap64 ((wrap64 ((wrap64 ((wrap64 (a9 + 1)) + 1)) + 1)) + 1)) 3) == 0), (rd_T120 a6 a2).f2.f1, (rd_T120 a6 a2).f2.f2⟩ : S118)⟩ : S120) : List (S120))).bind fun a5 => ((laws_markText.f k1 (wrap64 ((wrap64 ((wrap64 ((wrap64 ((wrap64 (a9 + 1)) + 1)) + 1)) + 1)) + 1))).bind fun ad => ((some (a5.set (a2 : Int).toNat (⟨(rd_T120 a5 a2).f0, (⟨(rd_T120 a5 a2).f1.f0, (rd_T120 a5 a2).f1.f1, (rd_T120 a5 a2).f1.f2⟩ : S118), (⟨(rd_T120 a5 a2).f2.f0, ad, (rd_T120 a5 a2).f2.f2⟩ : S118)⟩ : S120) : List (S120))).bind fun a4 => (laws_markChangeS.l0 k1 (a4.set (a2 : Int).toNat (⟨(rd_T120 a4 a2).f0, (⟨(rd_T120 a4 a2).f1.f0, (rd_T120 a4 a2).f1.f1, (rd_T120 a4 a2).f1.f2⟩ : S118), (⟨(rd_T120 a4 a2).f2.f0, (rd_T120 a4 a2).f2.f1, ((Int.tmod (wrap64 ((wrap64 ((wrap64 ((wrap64 ((wrap64 ((wrap64 (a9 + 1)) + 1)) + 1)) + 1)) + 1)) + 1)) 3) == 0)⟩ : S118)⟩ : S120)) (wrap64 ((wrap64 ((wrap64 ((wrap64 ((wrap64 ((wrap64 ((wrap64 (a9 + 1)) + 1)) + 1)) + 1)) + 1)) + 1)) + 1)) (wrap64 (a2 + 1)))))))) = some (r1, r2) := H; have A8 := Aside0.mk A80; clear A80
     obtain ⟨a7, ar⟩ : ∃ y_ : List (S120), y_ = (aa.set (a2 : Int).toNat (⟨(rd_T120 aa a2).f0, (⟨(rd_T120 aa a2).f1.f0, al, (rd_T120 aa a2).f1.f2⟩ : S118), (⟨(rd_T120 aa a2).f2.f0, (rd_T120 aa a2).f2.f1, (rd_T120 aa a2).f2.f2⟩ : S118)⟩ : S120)) := ⟨_, rfl⟩
     replace H : ((some (a7.set (a2 : Int).toNat (⟨(rd_T120 a7 a2).f0, (⟨(rd_T120 a7 a2).f1.f0, (rd_T120 a7 a2).f1.f1, ((Int.tmod (wrap64 ((wrap64 ((wrap64 (a9 + 1)) + 1)) + 1)) 3) == 0)⟩ : S118), (⟨(rd_T120 a7 a2).f2.f0, (rd_T120 a7 a2).f2.f1, (rd_T120 a7 a2).f2.f2⟩ : S118)⟩ : S120) : List (S120))).bind fun a6 => ((some (a6.set (a2 : Int).toNat (⟨(rd_T120 a6 a2).f0, (⟨(rd_T120 a6 a2).f1.f0, (rd_T120 a6 a2).f1.f1, (rd_T120 a6 a2).f1.f2⟩ : S118), (⟨((Int.tmod (wrap64 ((wrap64 ((wrap64 ((wrap64 (a9 + 1)) + 1)) + 1)) + 1)) 3) == 0), (rd_T120 a6 a2).f2.f1, (rd_T120 a6 a2).f2.f2⟩ : S118)⟩ : S120) : List (S120))).bind fun a5 => ((laws_markText.f k1 (wrap64 ((wrap64 ((wrap64 ((wrap64 ((wrap64 (a9 + 1)) + 1)) + 1)) + 1)) + 1))).bind fun ad => ((some (a5.set (a2 : Int).toNat (⟨(rd_T120 a5 a2).f0, (⟨(rd_T120 a5 a2).f1.f0, (rd_T120 a5 a2).f1.f1, (rd_T120 a5 a2).f1.f2⟩ : S118), (⟨(rd_T120 a5 a2).f2.f0, ad, (rd_T120 a5 a2).f2.f2⟩ : S118)⟩ : S120) : List (S120))).bind fun a4 => (laws_markChangeS.l0 k1 (a4.set (a2 : Int).toNat (⟨(rd_T120 a4 a2).f0, (⟨(rd_T120 a4 a2).f1.f0, (rd_T120 a4 a2).f1.f1, (rd_T120 a4 a2).f1.f2⟩ : S118), (⟨(rd_T120 a4 a2).f2.f0, (rd_T120 a4 a2).f2.f1, ((Int.tmod (wrap64 ((wrap64 ((wrap64 ((wrap64 ((wrap64 ((wrap64 (a9 + 1)) + 1)) + 1)) + 1)) + 1)) + 1)) 3) == 0)⟩ : S118)⟩ : S120)) (wrap64 ((wrap64 ((wrap64 ((wrap64 ((wrap64 ((wrap64 ((wrap64 (a9 + 1)) + 1)) + 1)) + 1)) + 1)) + 1)) + 1)) (wrap64 (a2 + 1))))))) = some (r1, r2) := by first | (rw [ar]; with_reducible exact H) | (have H2_ := (Option.bind_some _ _).symm.trans H; rw [ar]; with_reducible exact H2_) | (have H2_ := (Option.bind_some _ _).symm.trans H; with_reducible exact H2_) | with_reducible exact H | (rw [ar]; exact H) | exact H
     have aU := Aside0.mk ar; clear ar
     obtain ⟨a6, au⟩ : ∃ y_ : List (S120), y_ = (a7.set (a2 : Int).toNat (⟨(rd_T120 a7 a2).f0, (⟨(rd_T120 a7 a2).f1.f0, (rd_T120 a7 a2).f1.f1, ((Int.tmod (wrap64 ((wrap64 ((wrap64 (a9 + 1)) + 1)) + 1)) 3) == 0)⟩ : S118), (⟨(rd_T120 a7 a2).f2.f0, (rd_T120 a7 a2).f2.f1, (rd_T120 a7 a2).f2.f2⟩ : S118)⟩ : S120)) := ⟨_, rfl⟩
     replace H : ((some (a6.set (a2 : Int).toNat (⟨(rd_T120 a6 a2).f0, (⟨(rd_T120 a6 a2).f1.f0, (rd_T120 a6 a2).f1.f1, (rd_T120 a6 a2).f1.f2⟩ : S118), (⟨((Int.tmod (wrap64 ((wrap64 ((wrap64 ((wrap64 (a9 + 1)) + 1)) + 1)) + 1)) 3) == 0), (rd_T120 a6 a2).f2.f1, (rd_T120 a6 a2).f2.f2⟩ : S118)⟩ : S120) : List (S120))).bind fun a5 => ((laws_markText.f k1 (wrap64 ((wrap64 ((wrap64 ((wrap64 ((wrap64 (a9 + 1)) + 1)) + 1)) + 1)) + 1))).bind fun ad => ((some (a5.set (a2 : Int).toNat (⟨(rd_T120 a5 a2).f0, (⟨(rd_T120 a5 a2).f1.f0, (rd_T120 a5 a2).f1.f1, (rd_T120 a5 a2).f1.f2⟩ : S118), (⟨(rd_T120 a5 a2).f2.f0, ad, (rd_T120 a5 a2).f2.f2⟩ : S118)⟩ : S120) : List (S120))).bind fun a4 => (laws_markChangeS.l0 k1 (a4.set (a2 : Int).toNat (⟨(rd_T120 a4 a2).f0, (⟨(rd_T120 a4 a2).f1.f0, (rd_T120 a4 a2).f1.f1, (rd_T120 a4 a2).f1.f2⟩ : S118), (⟨(rd_T120 a4 a2).f2.f0, (rd_T120 a4 a2).f2.f1, ((Int.tmod (wrap64 ((wrap64 ((wrap64 ((wrap64 ((wrap64 ((wrap64 (a9 + 1)) + 1)) + 1)) + 1)) + 1)) + 1)) 3) == 0)⟩ : S118)⟩ : S120)) (wrap64 ((wrap64 ((wrap64 ((wrap64 ((wrap64 ((wrap64 ((wrap64 (a9 + 1)) + 1)) + 1)) + 1)) + 1)) + 1)) + 1)) (wrap64 (a2 + 1)))))) = some (r1, r2) := by first | (rw [au]; with_reducible exact H) | (have H2_ := (Option.bind_some _ _).symm.trans H; rw [au]; with_reducible exact H2_) | (have H2_ := (Option.bind_some _ _).symm.trans H; with_reducible exact H2_) | with_reducible exact H | (rw [au]; exact H) | exact H
     have aV := Aside0.mk au; clear au
     obtain ⟨a5, av⟩ : ∃ y_ : List (S120), y_ = (a6.set (a2 : Int).toNat (⟨(rd_T120 a6 a2).f0, (⟨(rd_T120 a6 a2).f1.f0, (rd_T120 a6 a2).f1.f1, (rd_T120 a6 a2).f1.f2⟩ : S118), (⟨((Int.tmod (wrap64 ((wrap64 ((wrap64 ((wrap64 (a9 + 1)) + 1)) + 1)) + 1)) 3) == 0), (rd_T120 a6 a2).f2.f1, (rd_T120 a6 a2).f2.f2⟩ : S118)⟩ : S120)) := ⟨_, rfl⟩
     replace H : ((laws_markText.f k1 (wrap64 ((wrap64 ((wrap64 ((wrap64 ((wrap64 (a9 + 1)) + 1)) + 1)) + 1)) + 1))).bind fun ad => ((some (a5.set (a2 : Int).toNat (⟨(rd_T120 a5 a2).f0, (⟨(rd_T120 a5 a2).f1.f0, (rd_T120 a5 a2).f1.f1, (rd_T120 a5 a2).f1.f2⟩ : S118), (⟨(rd_T120 a5 a2).f2.f0, ad, (rd_T120 a5 a2).f2.f2⟩ : S118)⟩ : S120) : List (S120))).bind fun a4 => (laws_markChangeS.l0 k1 (a4.set (a2 : Int).toNat (⟨(rd_T120 a4 a2).f0, (⟨(rd_T120 a4 a2).f1.f0, (rd_T120 a4 a2).f1.f1, (rd_T120 a4 a2).f1.f2⟩ : S118), (⟨(rd_T120 a4 a2).f2.f0, (rd_T120 a4 a2).f2.f1, ((Int.tmod (wrap64 ((wrap64 ((wrap64 ((wrap64 ((wrap64 ((wrap64 (a9 + 1)) + 1)) + 1)) + 1)) + 1)) + 1)) 3) == 0)⟩ : S118)⟩ : S120)) (wrap64 ((wrap64 ((wrap64 ((wrap64 ((wrap64 ((wrap64 ((wrap64 (a9 + 1)) + 1)) + 1)) + 1)) + 1)) + 1)) + 1)) (wrap64 (a2 + 1))))) = some (r1, r2) := by first | (rw [av]; with_reducible exact H) | (have H2_ := (Option.bind_some _ _).symm.trans H; rw [av]; with_reducible exact H2_) | (have H2_ := (Option.bind_some _ _).symm.trans H; with_reducible exact H2_) | with_reducible exact H | (rw [av]; exact H) | exact H
     have aW := Aside0.mk av; clear av; replace H := Option.bind_eq_some_iff.mp H; obtain ⟨ad, aJ, H⟩ := H; replace H : ((some (a5.set (a2 : Int).toNat (⟨(rd_T120 a5 a2).f0, (⟨(rd_T120 a5 a2).f1.f0, (rd_T120 a5 a2).f1.f1, (rd_T120 a5 a2).f1.f2⟩ : S118), (⟨(rd_T120 a5 a2).f2.f0, ad, (rd_T120 a5 a2).f2.f2⟩ : S118)⟩ : S120) : List (S120))).bind fun a4 => (laws_markChangeS.l0 k1 (a4.set (a2 : Int).toNat (⟨(rd_T120 a4 a2).f0, (⟨(rd_T120 a4 a2).f1.f0, (rd_T120 a4 a2).f1.f1, (rd_T120 a4 a2).f1.f2⟩ : S118), (⟨(rd_T120 a4 a2).f2.f0, (rd_T120 a4 a2).f2.f1, ((Int.tmod (wrap64 ((wrap64 ((wrap64 ((wrap64 ((wrap64 ((wrap64 (a9 + 1)) + 1)) + 1)) + 1)) + 1)) + 1)) 3) == 0)⟩ : S118)⟩ : S120)) (wrap64 ((wrap64 ((wrap64 ((wrap64 ((wrap64 ((wrap64 ((wrap64 (a9 + 1)) + 1)) + 1)) + 1)) + 1)) + 1)) + 1)) (wrap64 (a2 + 1)))) = some (r1, r2) := H; have A12 := Aside0.mk aJ; clear aJ
     obtain ⟨a4, aw⟩ : ∃ y_ : List (S120), y_ = (a5.set (a2 : Int).toNat (⟨(rd_T120 a5 a2).f0, (⟨(rd_T120 a5 a2).f1.f0, (rd_T120 a5 a2).f1.f1, (rd_T120 a5 a2).f1.f2⟩ : S118), (⟨(rd_T120 a5 a2).f2.f0, ad, (rd_T120 a5 a2).f2.f2⟩ : S118)⟩ : S120)) := ⟨_, rfl⟩
     replace H : (laws_markChangeS.l0 k1 (a4.set (a2 : Int).toNat (⟨(rd_T120 a4 a2).f0, (⟨(rd_T120 a4 a2).f1.f0, (rd_T120 a4 a2).f1.f1, (rd_T120 a4 a2).f1.f2⟩ : S118), (⟨(rd_T120 a4 a2).f2.f0, (rd_T120 a4 a2).f2.f1, ((Int.tmod (wrap64 ((wrap64 ((wrap64 ((wrap64 ((wrap64 ((wrap64 (a9 + 1)) + 1)) + 1)) + 1)) + 1)) + 1)) 3) == 0)⟩ : S118)⟩ : S120)) (wrap64 ((wrap64 ((wrap64 ((wrap64 ((wrap64 ((wrap64 ((wrap64 (a9 + 1)) + 1)) + 1)) + 1)) + 1)) + 1)) + 1)) (wrap64 (a2 + 1))) = some (r1, r2) := by first | (rw [aw]; with_reducible exact H) | (have H2_ := (Option.bind_some _ _).symm.trans H; rw [aw]; with_reducible exact H2_) | (have H2_ := (Option.bind_some _ _).symm.trans H; with_reducible exact H2_) | with_reducible exact H | (rw [aw]; exact H) | exact H
     have aX := Aside0.mk aw; clear aw
     obtain ⟨ay, ax⟩ : ∃ y_ : List (S120), y_ = (a4.set (a2 : Int).toNat (⟨(rd_T120 a4 a2).f0, (⟨(rd_T120 a4 a2).f1.f0, (rd_T120 a4 a2).f1.f1, (rd_T120 a4 a2).f1.f2⟩ : S118), (⟨(rd_T120 a4 a2).f2.f0, (rd_T120 a4 a2).f2.f1, ((Int.tmod (wrap64 ((wrap64 ((wrap64 ((wrap64 ((wrap64 ((wrap64 (a9 + 1)) + 1)) + 1)) + 1)) + 1)) + 1)) 3) == 0)⟩ : S118)⟩ : S120)) := ⟨_, rfl⟩
     replace H : (laws_markChangeS.l0 k1 ay (wrap64 ((wrap64 ((wrap64 ((wrap64 ((wrap64 ((wrap64 ((wrap64 (a9 + 1)) + 1)) + 1)) + 1)) + 1)) + 1)) + 1)) (wrap64 (a2 + 1))) = some (r1, r2) := by first | (rw [ax]; with_reducible exact H) | (have H2_ := (Option.bind_some _ _).symm.trans H; rw [ax]; with_reducible exact H2_) | (have H2_ := (Option.bind_some _ _).symm.trans H; with_reducible exact H2_) | with_reducible exact H | (rw [ax]; exact H) | exact H
     have aY := Aside0.mk ax; clear ax; have H' := Aside0.mk H; clear H; obtain ⟨Ao15, am, aZ⟩ := Kd.R_slice ab.out; subst aZ
     go_wp2_with (first | ((with_reducible refine gc 156 rfl ?_); refine gl (some 15) _ (#[.int .i64 a9]) Tryd.func156 ?_; (with_reducible refine (laws_markText.calls k1 a9 an _ A4.out).mono ?_); rintro e ai ⟨rfl, hb⟩; refine ⟨_, rfl, ?_⟩; refine Ya3 (Kd.R_below (kr ab.out) hb) (Kept.below (S := (fun k_ => P0_ k_)) (by repeat (first | (with_reducible first | exact HK.out | apply Kept.alloc | apply Kept.drewN | apply Kept.drew) | exact HK.out)) hb) (below_step (be HB.out) hb) ?_; clear ab HK HB; intro ab HK HB; (try clear hb); (try clear hb2); (try clear hk); (try clear hi); have p6 : 0 ≤ (a2 : Int) := oda; have q6 : (a2 : Int) < ((a8.length : Int) : Int) := oda; obtain ⟨a3, co6, eo6, gb6, gl6, cl6, HG6⟩ := Kd.R_form ab.out (by omega); (first | cases eo6 | (injection eo6 with ea_ en_ ec_; (first | subst ea_ | (injection ea_ with ea_; subst ea_)); subst ec_; clear en_)); have ao := Aside0.mk gb6; have GG6 := Aside0.mk HG6; clear gb6 gl6 HG6; have HMgo6 := Aside0.mk (show (P0_ a3 ∨ w.heap.size ≤ a3) from (ab.out.1 _ rfl)); obtain ⟨ce6, hcl6, hM6, hcc6, hfr6⟩ := Kd.R_elem ab.out z120 (a2 : Int) p6 q6; obtain rfl := k120_openM hM6; have hx6_0 : ai.cell? ⟨a3, (a2 : Int).toNat * 7, none⟩ = some (.string ((rd_T120 a8 a2).f0)) := hcc6 0 _ rfl; have hx6_1 : ai.cell? ⟨a3, (a2 : Int).toNat * 7 + 1, none⟩ = some (.bool ((rd_T120 a8 a2).f1.f0)) := hcc6 1 _ rfl; have hx6_2 : ai.cell? ⟨a3, (a2 : Int).toNat * 7 + 2, none⟩ = some (.string ((rd_T120 a8 a2).f1.f1)) := hcc6 2 _ rfl; have hx6_3 : ai.cell? ⟨a3, (a2 : Int).toNat * 7 + 3, none⟩ = some (.bool ((rd_T120 a8 a2).f1.f2)) := hcc6 3 _ rfl; have hx6_4 : ai.cell? ⟨a3, (a2 : Int).toNat * 7 + 4, none⟩ = some (.bool ((rd_T120 a8 a2).f2.f0)) := hcc6 4 _ rfl; have hx6_5 : ai.cell? ⟨a3, (a2 : Int).toNat * 7 + 5, none⟩ = some (.string ((rd_T120 a8 a2).f2.f1)) := hcc6 5 _ rfl; have hx6_6 : ai.cell? ⟨a3, (a2 : Int).toNat * 7 + 6, none⟩ = some (.bool ((rd_T120 a8 a2).f2.f2)) := hcc6 6 _ rfl; have hf6_0 : ai.frozen? ⟨a3, (a2 : Int).toNat * 7, none⟩ = false := hfr6 0; have hf6_1 : ai.frozen? ⟨a3, (a2 : Int).toNat * 7 + 1, none⟩ = false := hfr6 1; have hf6_2 : ai.frozen? ⟨a3, (a2 : Int).toNat * 7 + 2, none⟩ = false := hfr6 2; have hf6_3 : ai.frozen? ⟨a3, (a2 : Int).toNat * 7 + 3, none⟩ = false := hfr6 3; have hf6_4 : ai.frozen? ⟨a3, (a2 : Int).toNat * 7 + 4, none⟩ = false := hfr6 4; have hf6_5 : ai.frozen? ⟨a3, (a2 : Int).toNat * 7 + 5, none⟩ = false := hfr6 5; have hf6_6 : ai.frozen? ⟨a3, (a2 : Int).toNat * 7 + 6, none⟩ = false := hfr6 6; (try clear hM6); clear hcl6 hcc6 hfr6; replace p6 := eq_true p6; replace q6 := eq_true q6; have aK := Aside0.mk (show Kd.R k120 120 ai w0.heap.size (fun k_ => (P0_ k_ ∨ w.heap.size ≤ k_)) (.slice (some ⟨a3, 0, none⟩) a8.length am) a8 from (kr ab.out)); obtain ⟨ce17, hcl17, hM17, hcc17, hfr17⟩ := Kd.R_elem aK.out z120 (a2 : Int) (oda) (by have h_ : (a2 : Int) < ((a8.length : Int) : Int) := oda; first | exact h_ | (have e_ := (Kd.R_reads' ab.out).1; omega) | simpa using h_); obtain rfl := k120_openM hM17; have az := Kd.R_seg aK.out (a2 : Int) (oda) (by have h_ : (a2 : Int) < ((a8.length : Int) : Int) := oda; first | exact h_ | (have e_ := (Kd.R_reads' ab.out).1; omega) | simpa using h_) (seg := [.string an]) (j := 0) hcl17 hcc17 (show 1 ≤ 7 from by decide) (x' := (⟨an, (⟨(rd_T120 a8 a2).f1.f0, (rd_T120 a8 a2).f1.f1, (rd_T120 a8 a2).f1.f2⟩ : S118), (⟨(rd_T120 a8 a2).f2.f0, (rd_T120 a8 a2).f2.f1, (rd_T120 a8 a2).f2.f2⟩ : S118)⟩ : S120)) (k120_mkM _ _ _ (⟨an, (⟨(rd_T120 a8 a2).f1.f0, (rd_T120 a8 a2).f1.f1, (rd_T120 a8 a2).f1.f2⟩ : S118), (⟨(rd_T120 a8 a2).f2.f0, (rd_T120 a8 a2).f2.f1, (rd_T120 a8 a2).f2.f2⟩ : S118)⟩ : S120) ) (fun _ hk => hk); have b0 := hcc17 0 _ rfl; (try simp only [show (k120).sz = 7 from rfl, Nat.mul_one, Nat.add_zero] at b0); have hf17_0 := hfr17 0; (try simp only [show (k120).sz = 7 from rfl, Nat.mul_one, Nat.add_zero] at hf17_0); (try clear hM17); clear hcl17 hcc17 hfr17) | ((with_reducible refine gate_store (t := 9) (p := 17) rfl ?_); refine store_event (t := 9) (p := 17) (v := ?vo_w18) (w1 := (ai.setCell ⟨a3, (a2 : Int).toNat * 7, none⟩ (.string an))) ?hg ?ho ?hn ?hr ?_; (case ho => rfl); (case hg => rfl); (case hn => rfl); (case hr => first | (go_simp; done) | (go_simp; rfl)); intro ae hw; have hg : ai.grownBy ae (some a3) := (by rw [hw]; exact az.2); have hp_ : Kd.R k120 120 ae w0.heap.size (fun k_ => (P0_ k_ ∨ w.heap.size ≤ k_)) (.slice (some ⟨a3, 0, none⟩) a8.length am) ac := (by rw [hw, aS.out]; exact az.1); clear az; refine Ya3 (hp_) ((by rw [hw]; exact below_set (HB.out) ao.out : Below w0.heap.size w0 ae)) (Kept.of_grown (S := (fun k_ => P0_ k_)) hg (by repeat (first | (with_reducible first | exact HK.out | apply Kept.alloc | apply Kept.drewN | apply Kept.drew) | exact HK.out)) (fun k_ e_ => (ab.out.1 k_ e_))) ?_; clear ab HB HK; intro ab HB HK; clear hg hw hp_; have p7 : 0 ≤ (a2 : Int) := oda; have q7 : (a2 : Int) < ((a8.length : Int) : Int) := oda; obtain ⟨ce7, hcl7, hM7, hcc7, hfr7⟩ := Kd.R_elem ab.out z120 (a2 : Int) p7 q7; obtain rfl := k120_openM hM7; have hx7_0 : ae.cell? ⟨a3, (a2 : Int).toNat * 7, none⟩ = some (.string ((rd_T120 ac a2).f0)) := hcc7 0 _ rfl; have hx7_1 : ae.cell? ⟨a3, (a2 : Int).toNat * 7 + 1, none⟩ = some (.bool ((rd_T120 ac a2).f1.f0)) := hcc7 1 _ rfl; have hx7_2 : ae.cell? ⟨a3, (a2 : Int).toNat * 7 + 2, none⟩ = some (.string ((rd_T120 ac a2).f1.f1)) := hcc7 2 _ rfl; have hx7_3 : ae.cell? ⟨a3, (a2 : Int).toNat * 7 + 3, none⟩ = some (.bool ((rd_T120 ac a2).f1.f2)) := hcc7 3 _ rfl; have hx7_4 : ae.cell? ⟨a3, (a2 : Int).toNat * 7 + 4, none⟩ = some (.bool ((rd_T120 ac a2).f2.f0)) := hcc7 4 _ rfl; have hx7_5 : ae.cell? ⟨a3, (a2 : Int).toNat * 7 + 5, none⟩ = some (.string ((rd_T120 ac a2).f2.f1)) := hcc7 5 _ rfl; have hx7_6 : ae.cell? ⟨a3, (a2 : Int).toNat * 7 + 6, none⟩ = some (.bool ((rd_T120 ac a2).f2.f2)) := hcc7 6 _ rfl; have hf7_0 : ae.frozen? ⟨a3, (a2 : Int).toNat * 7, none⟩ = false := hfr7 0; have hf7_1 : ae.frozen? ⟨a3, (a2 : Int).toNat * 7 + 1, none⟩ = false := hfr7 1; have hf7_2 : ae.frozen? ⟨a3, (a2 : Int).toNat * 7 + 2, none⟩ = false := hfr7 2; have hf7_3 : ae.frozen? ⟨a3, (a2 : Int).toNat * 7 + 3, none⟩ = false := hfr7 3; have hf7_4 : ae.frozen? ⟨a3, (a2 : Int).toNat * 7 + 4, none⟩ = false := hfr7 4; have hf7_5 : ae.frozen? ⟨a3, (a2 : Int).toNat * 7 + 5, none⟩ = false := hfr7 5; have hf7_6 : ae.frozen? ⟨a3, (a2 : Int).toNat * 7 + 6, none⟩ = false := hfr7 6; (try clear hM7); clear hcl7 hcc7 hfr7; replace p7 := eq_true p7; replace q7 := eq_true q7; have aL := Aside0.mk (show Kd.R k120 120 ae w0.heap.size (fun k_ => (P0_ k_ ∨ w.heap.size ≤ k_)) (.slice (some ⟨a3, 0, none⟩) a8.length am) ac from (kr ab.out)); obtain ⟨ce19, hcl19, hM19, hcc19, hfr19⟩ := Kd.R_elem aL.out z120 (a2 : Int) (oda) (by have h_ : (a2 : Int) < ((a8.length : Int) : Int) := oda; first | exact h_ | (have e_ := (Kd.R_reads' ab.out).1; omega) | simpa using h_); obtain rfl := k120_openM hM19; have aA := Kd.R_seg aL.out (a2 : Int) (oda) (by have h_ : (a2 : Int) < ((a8.length : Int) : Int) := oda; first | exact h_ | (have e_ := (Kd.R_reads' ab.out).1; omega) | simpa using h_) (seg := [.bool ((Int.tmod (wrap64 (a9 + 1)) 3) == 0)]) (j := 1) hcl19 hcc19 (show 2 ≤ 7 from by decide) (x' := (⟨(rd_T120 ac a2).f0, (⟨((Int.tmod (wrap64 (a9 + 1)) 3) == 0), (rd_T120 ac a2).f1.f1, (rd_T120 ac a2).f1.f2⟩ : S118), (⟨(rd_T120 ac a2).f2.f0, (rd_T120 ac a2).f2.f1, (rd_T120 ac a2).f2.f2⟩ : S118)⟩ : S120)) (k120_mkM _ _ _ (⟨(rd_T120 ac a2).f0, (⟨((Int.tmod (wrap64 (a9 + 1)) 3) == 0), (rd_T120 ac a2).f1.f1, (rd_T120 ac a2).f1.f2⟩ : S118), (⟨(rd_T120 ac a2).f2.f0, (rd_T120 ac a2).f2.f1, (rd_T120 ac a2).f2.f2⟩ : S118)⟩ : S120) ) (fun _ hk => hk); have b1 := hcc19 1 _ rfl; (try simp only [show (k120).sz = 7 from rfl, Nat.mul_one, Nat.add_zero] at b1); have hf19_1 := hfr19 1; (try simp only [show (k120).sz = 7 from rfl, Nat.mul_one, Nat.add_zero] at hf19_1); (try clear hM19); clear hcl19 hcc19 hfr19) | ((with_reducible refine gate_store (t := 4) (p := 27) rfl ?_); refine store_event (t := 4) (p := 27) (v := ?vo_w20) (w1 := (ae.setCell ⟨a3, (a2 : Int).toNat * 7 + 1, none⟩ (.bool ((Int.tmod (wrap64 (a9 + 1)) 3) == 0)))) ?hg ?ho ?hn ?hr ?_; (case ho => rfl); (case hg => rfl); (case hn => rfl); (case hr => first | (go_simp; done) | (go_simp; rfl)); intro aB hw; have hg : ae.grownBy aB (some a3) := (by rw [hw]; exact aA.2); have hp_ : Kd.R k120 120 aB w0.heap.size (fun k_ => (P0_ k_ ∨ w.heap.size ≤ k_)) (.slice (some ⟨a3, 0, none⟩) a8.length am) aa := (by rw [hw, aT.out]; exact aA.1); clear aA; refine Ya3 (hp_) ((by rw [hw]; exact below_set (HB.out) ao.out : Below w0.heap.size w0 aB)) (Kept.of_grown (S := (fun k_ => P0_ k_)) hg (by repeat (first | (with_reducible first | exact HK.out | apply Kept.alloc | apply Kept.drewN | apply Kept.drew) | exact HK.out)) (fun k_ e_ => (ab.out.1 k_ e_))) ?_; clear ab HB HK; intro ab HB HK; clear hg hw hp_) | ((with_reducible refine gc 156 rfl ?_); refine gl (some 33) _ (#[.int .i64 (wrap64 ((wrap64 (a9 + 1)) + 1))]) Tryd.func156 ?_; (with_reducible refine (laws_markText.calls k1 (wrap64 ((wrap64 (a9 + 1)) + 1)) al _ A8.out).mono ?_); rintro e aj ⟨rfl, hb⟩; refine ⟨_, rfl, ?_⟩; refine Ya3 (Kd.R_below (kr ab.out) hb) (Kept.below (S := (fun k_ => P0_ k_)) (by repeat (first | (with_reducible first | exact HK.out | apply Kept.alloc | apply Kept.drewN | apply Kept.drew) | exact HK.out)) hb) (below_step (be HB.out) hb) ?_; clear ab HK HB; intro ab HK HB; (try clear hb); (try clear hb2); (try clear hk); (try clear hi); have p9 : 0 ≤ (a2 : Int) := oda; have q9 : (a2 : Int) < ((a8.length : Int) : Int) := oda; obtain ⟨ce9, hcl9, hM9, hcc9, hfr9⟩ := Kd.R_elem ab.out z120 (a2 : Int) p9 q9; obtain rfl := k120_openM hM9; have hx9_0 : aj.cell? ⟨a3, (a2 : Int).toNat * 7, none⟩ = some (.string ((rd_T120 aa a2).f0)) := hcc9 0 _ rfl; have hx9_1 : aj.cell? ⟨a3, (a2 : Int).toNat * 7 + 1, none⟩ = some (.bool ((rd_T120 aa a2).f1.f0)) := hcc9 1 _ rfl; have hx9_2 : aj.cell? ⟨a3, (a2 : Int).toNat * 7 + 2, none⟩ = some (.string ((rd_T120 aa a2).f1.f1)) := hcc9 2 _ rfl; have hx9_3 : aj.cell? ⟨a3, (a2 : Int).toNat * 7 + 3, none⟩ = some (.bool ((rd_T120 aa a2).f1.f2)) := hcc9 3 _ rfl; have hx9_4 : aj.cell? ⟨a3, (a2 : Int).toNat * 7 + 4, none⟩ = some (.bool ((rd_T120 aa a2).f2.f0)) := hcc9 4 _ rfl; have hx9_5 : aj.cell? ⟨a3, (a2 : Int).toNat * 7 + 5, none⟩ = some (.string ((rd_T120 aa a2).f2.f1)) := hcc9 5 _ rfl; have hx9_6 : aj.cell? ⟨a3, (a2 : Int).toNat * 7 + 6, none⟩ = some (.bool ((rd_T120 aa a2).f2.f2)) := hcc9 6 _ rfl; have hf9_0 : aj.frozen? ⟨a3, (a2 : Int).toNat * 7, none⟩ = false := hfr9 0; have hf9_1 : aj.frozen? ⟨a3, (a2 : Int).toNat * 7 + 1, none⟩ = false := hfr9 1; have hf9_2 : aj.frozen? ⟨a3, (a2 : Int).toNat * 7 + 2, none⟩ = false := hfr9 2; have hf9_3 : aj.frozen? ⟨a3, (a2 : Int).toNat * 7 + 3, none⟩ = false := hfr9 3; have hf9_4 : aj.frozen? ⟨a3, (a2 : Int).toNat * 7 + 4, none⟩ = false := hfr9 4; have hf9_5 : aj.frozen? ⟨a3, (a2 : Int).toNat * 7 + 5, none⟩ = false := hfr9 5; have hf9_6 : aj.frozen? ⟨a3, (a2 : Int).toNat * 7 + 6, none⟩ = false := hfr9 6; (try clear hM9); clear hcl9 hcc9 hfr9; replace p9 := eq_true p9; replace q9 := eq_true q9; have aM := Aside0.mk (show Kd.R k120 120 aj w0.heap.size (fun k_ => (P0_ k_ ∨ w.heap.size ≤ k_)) (.slice (some ⟨a3, 0, none⟩) a8.length am) aa from (kr ab.out)); obtain ⟨ce22, hcl22, hM22, hcc22, hfr22⟩ := Kd.R_elem aM.out z120 (a2 : Int) (oda) (by have h_ : (a2 : Int) < ((a8.length : Int) : Int) := oda; first | exact h_ | (have e_ := (Kd.R_reads' ab.out).1; omega) | simpa using h_); obtain rfl := k120_openM hM22; have aC := Kd.R_seg aM.out (a2 : Int) (oda) (by have h_ : (a2 : Int) < ((a8.length : Int) : Int) := oda; first | exact h_ | (have e_ := (Kd.R_reads' ab.out).1; omega) | simpa using h_) (seg := [.string al]) (j := 2) hcl22 hcc22 (show 3 ≤ 7 from by decide) (x' := (⟨(rd_T120 aa a2).f0, (⟨(rd_T120 aa a2).f1.f0, al, (rd_T120 aa a2).f1.f2⟩ : S118), (⟨(rd_T120 aa a2).f2.f0, (rd_T120 aa a2).f2.f1, (rd_T120 aa a2).f2.f2⟩ : S118)⟩ : S120)) (k120_mkM _ _ _ (⟨(rd_T120 aa a2).f0, (⟨(rd_T120 aa a2).f1.f0, al, (rd_T120 aa a2).f1.f2⟩ : S118), (⟨(rd_T120 aa a2).f2.f0, (rd_T120 aa a2).f2.f1, (rd_T120 aa a2).f2.f2⟩ : S118)⟩ : S120) ) (fun _ hk => hk); have b2 := hcc22 2 _ rfl; (try simp only [show (k120).sz = 7 from rfl, Nat.mul_one, Nat.add_zero] at b2); have hf22_2 := hfr22 2; (try simp only [show (k120).sz = 7 from rfl, Nat.mul_one, Nat.add_zero] at hf22_2); (try clear hM22); clear hcl22 hcc22 hfr22) | ((with_reducible refine gate_store (t := 9) (p := 36) rfl ?_); refine store_event (t := 9) (p := 36) (v := ?vo_w23) (w1 := (aj.setCell ⟨a3, (a2 : Int).toNat * 7 + 2, none⟩ (.string al))) ?hg ?ho ?hn ?hr ?_; (case ho => rfl); (case hg => rfl); (case hn => rfl); (case hr => first | (go_simp; done) | (go_simp; rfl)); intro af hw; have hg : aj.grownBy af (some a3) := (by rw [hw]; exact aC.2); have hp_ : Kd.R k120 120 af w0.heap.size (fun k_ => (P0_ k_ ∨ w.heap.size ≤ k_)) (.slice (some ⟨a3, 0, none⟩) a8.length am) a7 := (by rw [hw, aU.out]; exact aC.1); clear aC; refine Ya3 (hp_) ((by rw [hw]; exact below_set (HB.out) ao.out : Below w0.heap.size w0 af)) (Kept.of_grown (S := (fun k_ => P0_ k_)) hg (by repeat (first | (with_reducible first | exact HK.out | apply Kept.alloc | apply Kept.drewN | apply Kept.drew) | exact HK.out)) (fun k_ e_ => (ab.out.1 k_ e_))) ?_; clear ab HB HK; intro ab HB HK; clear hg hw hp_; have p10 : 0 ≤ (a2 : Int) := oda; have q10 : (a2 : Int) < ((a8.length : Int) : Int) := oda; obtain ⟨ce10, hcl10, hM10, hcc10, hfr10⟩ := Kd.R_elem ab.out z120 (a2 : Int) p10 q10; obtain rfl := k120_openM hM10; have b8 : af.cell? ⟨a3, (a2 : Int).toNat * 7, none⟩ = some (.string ((rd_T120 a7 a2).f0)) := hcc10 0 _ rfl; have b9 : af.cell? ⟨a3, (a2 : Int).toNat * 7 + 1, none⟩ = some (.bool ((rd_T120 a7 a2).f1.f0)) := hcc10 1 _ rfl; have ba : af.cell? ⟨a3, (a2 : Int).toNat * 7 + 2, none⟩ = some (.string ((rd_T120 a7 a2).f1.f1)) := hcc10 2 _ rfl; have bd : af.cell? ⟨a3, (a2 : Int).toNat * 7 + 3, none⟩ = some (.bool ((rd_T120 a7 a2).f1.f2)) := hcc10 3 _ rfl; have bg : af.cell? ⟨a3, (a2 : Int).toNat * 7 + 4, none⟩ = some (.bool ((rd_T120 a7 a2).f2.f0)) := hcc10 4 _ rfl; have bh : af.cell? ⟨a3, (a2 : Int).toNat * 7 + 5, none⟩ = some (.string ((rd_T120 a7 a2).f2.f1)) := hcc10 5 _ rfl; have bi : af.cell? ⟨a3, (a2 : Int).toNat * 7 + 6, none⟩ = some (.bool ((rd_T120 a7 a2).f2.f2)) := hcc10 6 _ rfl; have hf10_0 : af.frozen? ⟨a3, (a2 : Int).toNat * 7, none⟩ = false := hfr10 0; have hf10_1 : af.frozen? ⟨a3, (a2 : Int).toNat * 7 + 1, none⟩ = false := hfr10 1; have hf10_2 : af.frozen? ⟨a3, (a2 : Int).toNat * 7 + 2, none⟩ = false := hfr10 2; have hf10_3 : af.frozen? ⟨a3, (a2 : Int).toNat * 7 + 3, none⟩ = false := hfr10 3; have hf10_4 : af.frozen? ⟨a3, (a2 : Int).toNat * 7 + 4, none⟩ = false := hfr10 4; have hf10_5 : af.frozen? ⟨a3, (a2 : Int).toNat * 7 + 5, none⟩ = false := hfr10 5; have hf10_6 : af.frozen? ⟨a3, (a2 : Int).toNat * 7 + 6, none⟩ = false := hfr10 6; (try clear hM10); clear hcl10 hcc10 hfr10; replace p10 := eq_true p10; replace q10 := eq_true q10; have aN := Aside0.mk (show Kd.R k120 120 af w0.heap.size (fun k_ => (P0_ k_ ∨ w.heap.size ≤ k_)) (.slice (some ⟨a3, 0, none⟩) a8.length am) a7 from (kr ab.out)); obtain ⟨ce24, hcl24, hM24, hcc24, hfr24⟩ := Kd.R_elem aN.out z120 (a2 : Int) (oda) (by have h_ : (a2 : Int) < ((a8.length : Int) : Int) := oda; first | exact h_ | (have e_ := (Kd.R_reads' ab.out).1; omega) | simpa using h_); obtain rfl := k120_openM hM24; have aD := Kd.R_seg aN.out (a2 : Int) (oda) (by have h_ : (a2 : Int) < ((a8.length : Int) : Int) := oda; first | exact h_ | (have e_ := (Kd.R_reads' ab.out).1; omega) | simpa using h_) (seg := [.bool ((Int.tmod (wrap64 ((wrap64 ((wrap64 (a9 + 1)) + 1)) + 1)) 3) == 0)]) (j := 3) hcl24 hcc24 (show 4 ≤ 7 from by decide) (x' := (⟨(rd_T120 a7 a2).f0, (⟨(rd_T120 a7 a2).f1.f0, (rd_T120 a7 a2).f1.f1, ((Int.tmod (wrap64 ((wrap64 ((wrap64 (a9 + 1)) + 1)) + 1)) 3) == 0)⟩ : S118), (⟨(rd_T120 a7 a2).f2.f0, (rd_T120 a7 a2).f2.f1, (rd_T120 a7 a2).f2.f2⟩ : S118)⟩ : S120)) (k120_mkM _ _ _ (⟨(rd_T120 a7 a2).f0, (⟨(rd_T120 a7 a2).f1.f0, (rd_T120 a7 a2).f1.f1, ((Int.tmod (wrap64 ((wrap64 ((wrap64 (a9 + 1)) + 1)) + 1)) 3) == 0)⟩ : S118), (⟨(rd_T120 a7 a2).f2.f0, (rd_T120 a7 a2).f2.f1, (rd_T120 a7 a2).f2.f2⟩ : S118)⟩ : S120) ) (fun _ hk => hk); have b3 := hcc24 3 _ rfl; (try simp only [show (k120).sz = 7 from rfl, Nat.mul_one, Nat.add_zero] at b3); have hf24_3 := hfr24 3; (try simp only [show (k120).sz = 7 from rfl, Nat.mul_one, Nat.add_zero] at hf24_3); (try clear hM24); clear hcl24 hcc24 hfr24) | ((with_reducible refine gate_store (t := 4) (p := 46) rfl ?_); refine store_event (t := 4) (p := 46) (v := ?vo_w25) (w1 := (af.setCell ⟨a3, (a2 : Int).toNat * 7 + 3, none⟩ (.bool ((Int.tmod (wrap64 ((wrap64 ((wrap64 (a9 + 1)) + 1)) + 1)) 3) == 0)))) ?hg ?ho ?hn ?hr ?_; (case ho => rfl); (case hg => rfl); (case hn => rfl); (case hr => first | (go_simp; done) | (go_simp; rfl)); intro ag hw; have hg : af.grownBy ag (some a3) := (by rw [hw]; exact aD.2); have hp_ : Kd.R k120 120 ag w0.heap.size (fun k_ => (P0_ k_ ∨ w.heap.size ≤ k_)) (.slice (some ⟨a3, 0, none⟩) a8.length am) a6 := (by rw [hw, aV.out]; exact aD.1); clear aD; refine Ya3 (hp_) ((by rw [hw]; exact below_set (HB.out) ao.out : Below w0.heap.size w0 ag)) (Kept.of_grown (S := (fun k_ => P0_ k_)) hg (by repeat (first | (with_reducible first | exact HK.out | apply Kept.alloc | apply Kept.drewN | apply Kept.drew) | exact HK.out)) (fun k_ e_ => (ab.out.1 k_ e_))) ?_; clear ab HB HK; intro ab HB HK; clear hg hw hp_; have p11 : 0 ≤ (a2 : Int) := oda; have q11 : (a2 : Int) < ((a8.length : Int) : Int) := oda; obtain ⟨ce11, hcl11, hM11, hcc11, hfr11⟩ := Kd.R_elem ab.out z120 (a2 : Int) p11 q11; obtain rfl := k120_openM hM11; have bj : ag.cell? ⟨a3, (a2 : Int).toNat * 7, none⟩ = some (.string ((rd_T120 a6 a2).f0)) := hcc11 0 _ rfl; have bm : ag.cell? ⟨a3, (a2 : Int).toNat * 7 + 1, none⟩ = some (.bool ((rd_T120 a6 a2).f1.f0)) := hcc11 1 _ rfl; have bn : ag.cell? ⟨a3, (a2 : Int).toNat * 7 + 2, none⟩ = some (.string ((rd_T120 a6 a2).f1.f1)) := hcc11 2 _ rfl; have bo : ag.cell? ⟨a3, (a2 : Int).toNat * 7 + 3, none⟩ = some (.bool ((rd_T120 a6 a2).f1.f2)) := hcc11 3 _ rfl; have bq : ag.cell? ⟨a3, (a2 : Int).toNat * 7 + 4, none⟩ = some (.bool ((rd_T120 a6 a2).f2.f0)) := hcc11 4 _ rfl; have bu : ag.cell? ⟨a3, (a2 : Int).toNat * 7 + 5, none⟩ = some (.string ((rd_T120 a6 a2).f2.f1)) := hcc11 5 _ rfl; have bv : ag.cell? ⟨a3, (a2 : Int).toNat * 7 + 6, none⟩ = some (.bool ((rd_T120 a6 a2).f2.f2)) := hcc11 6 _ rfl; have hf11_0 : ag.frozen? ⟨a3, (a2 : Int).toNat * 7, none⟩ = false := hfr11 0; have hf11_1 : ag.frozen? ⟨a3, (a2 : Int).toNat * 7 + 1, none⟩ = false := hfr11 1; have hf11_2 : ag.frozen? ⟨a3, (a2 : Int).toNat * 7 + 2, none⟩ = false := hfr11 2; have hf11_3 : ag.frozen? ⟨a3, (a2 : Int).toNat * 7 + 3, none⟩ = false := hfr11 3; have hf11_4 : ag.frozen? ⟨a3, (a2 : Int).toNat * 7 + 4, none⟩ = false := hfr11 4; have hf11_5 : ag.frozen? ⟨a3, (a2 : Int).toNat * 7 + 5, none⟩ = false := hfr11 5; have hf11_6 : ag.frozen? ⟨a3, (a2 : Int).toNat * 7 + 6, none⟩ = false := hfr11 6; (try clear hM11); clear hcl11 hcc11 hfr11; replace p11 := eq_true p11; replace q11 := eq_true q11; have aO := Aside0.mk (show Kd.R k120 120 ag w0.heap.size (fun k_ => (P0_ k_ ∨ w.heap.size ≤ k_)) (.slice (some ⟨a3, 0, none⟩) a8.length am) a6 from (kr ab.out)); obtain ⟨ce26, hcl26, hM26, hcc26, hfr26⟩ := Kd.R_elem aO.out z120 (a2 : Int) (oda) (by have h_ : (a2 : Int) < ((a8.length : Int) : Int) := oda; first | exact h_ | (have e_ := (Kd.R_reads' ab.out).1; omega) | simpa using h_); obtain rfl := k120_openM hM26; have aE := Kd.R_seg aO.out (a2 : Int) (oda) (by have h_ : (a2 : Int) < ((a8.length : Int) : Int) := oda; first | exact h_ | (have e_ := (Kd.R_reads' ab.out).1; omega) | simpa using h_) (seg := [.bool ((Int.tmod (wrap64 ((wrap64 ((wrap64 ((wrap64 (a9 + 1)) + 1)) + 1)) + 1)) 3) == 0)]) (j := 4) hcl26 hcc26 (show 5 ≤ 7 from by decide) (x' := (⟨(rd_T120 a6 a2).f0, (⟨(rd_T120 a6 a2).f1.f0, (rd_T120 a6 a2).f1.f1, (rd_T120 a6 a2).f1.f2⟩ : S118), (⟨((Int.tmod (wrap64 ((wrap64 ((wrap64 ((wrap64 (a9 + 1)) + 1)) + 1)) + 1)) 3) == 0), (rd_T120 a6 a2).f2.f1, (rd_T120 a6 a2).f2.f2⟩ : S118)⟩ : S120)) (k120_mkM _ _ _ (⟨(rd_T120 a6 a2).f0, (⟨(rd_T120 a6 a2).f1.f0, (rd_T120 a6 a2).f1.f1, (rd_T120 a6 a2).f1.f2⟩ : S118), (⟨((Int.tmod (wrap64 ((wrap64 ((wrap64 ((wrap64 (a9 + 1)) + 1)) + 1)) + 1)) 3) == 0), (rd_T120 a6 a2).f2.f1, (rd_T120 a6 a2).f2.f2⟩ : S118)⟩ : S120) ) (fun _ hk => hk); have b4 := hcc26 4 _ rfl; (try simp only [show (k120).sz = 7 from rfl, Nat.mul_one, Nat.add_zero] at b4); have hf26_4 := hfr26 4; (try simp only [show (k120).sz = 7 from rfl, Nat.mul_one, Nat.add_zero] at hf26_4); (try clear hM26); clear hcl26 hcc26 hfr26) | ((with_reducible refine gate_store (t := 4) (p := 56) rfl ?_); refine store_event (t := 4) (p := 56) (v := ?vo_w27) (w1 := (ag.setCell ⟨a3, (a2 : Int).toNat * 7 + 4, none⟩ (.bool ((Int.tmod (wrap64 ((wrap64 ((wrap64 ((wrap64 (a9 + 1)) + 1)) + 1)) + 1)) 3) == 0)))) ?hg ?ho ?hn ?hr ?_; (case ho => rfl); (case hg => rfl); (case hn => rfl); (case hr => first | (go_simp; done) | (go_simp; rfl)); intro aF hw; have hg : ag.grownBy aF (some a3) := (by rw [hw]; exact aE.2); have hp_ : Kd.R k120 120 aF w0.heap.size (fun k_ => (P0_ k_ ∨ w.heap.size ≤ k_)) (.slice (some ⟨a3, 0, none⟩) a8.length am) a5 := (by rw [hw, aW.out]; exact aE.1); clear aE; refine Ya3 (hp_) ((by rw [hw]; exact below_set (HB.out) ao.out : Below w0.heap.size w0 aF)) (Kept.of_grown (S := (fun k_ => P0_ k_)) hg (by repeat (first | (with_reducible first | exact HK.out | apply Kept.alloc | apply Kept.drewN | apply Kept.drew) | exact HK.out)) (fun k_ e_ => (ab.out.1 k_ e_))) ?_; clear ab HB HK; intro ab HB HK; clear hg hw hp_) | ((with_reducible refine gc 156 rfl ?_); refine gl (some 62) _ (#[.int .i64 (wrap64 ((wrap64 ((wrap64 ((wrap64 ((wrap64 (a9 + 1)) + 1)) + 1)) + 1)) + 1))]) Tryd.func156 ?_; (with_reducible refine (laws_markText.calls k1 (wrap64 ((wrap64 ((wrap64 ((wrap64 ((wrap64 (a9 + 1)) + 1)) + 1)) + 1)) + 1)) ad _ A12.out).mono ?_); rintro e ak ⟨rfl, hb⟩; refine ⟨_, rfl, ?_⟩; refine Ya3 (Kd.R_below (kr ab.out) hb) (Kept.below (S := (fun k_ => P0_ k_)) (by repeat (first | (with_reducible first | exact HK.out | apply Kept.alloc | apply Kept.drewN | apply Kept.drew) | exact HK.out)) hb) (below_step (be HB.out) hb) ?_; clear ab HK HB; intro ab HK HB; (try clear hb); (try clear hb2); (try clear hk); (try clear hi); have p13 : 0 ≤ (a2 : Int) := oda; have q13 : (a2 : Int) < ((a8.length : Int) : Int) := oda; obtain ⟨ce13, hcl13, hM13, hcc13, hfr13⟩ := Kd.R_elem ab.out z120 (a2 : Int) p13 q13; obtain rfl := k120_openM hM13; have bw : ak.cell? ⟨a3, (a2 : Int).toNat * 7, none⟩ = some (.string ((rd_T120 a5 a2).f0)) := hcc13 0 _ rfl; have bz : ak.cell? ⟨a3, (a2 : Int).toNat * 7 + 1, none⟩ = some (.bool ((rd_T120 a5 a2).f1.f0)) := hcc13 1 _ rfl; have bA : ak.cell? ⟨a3, (a2 : Int).toNat * 7 + 2, none⟩ = some (.string ((rd_T120 a5 a2).f1.f1)) := hcc13 2 _ rfl; have bB : ak.cell? ⟨a3, (a2 : Int).toNat * 7 + 3, none⟩ = some (.bool ((rd_T120 a5 a2).f1.f2)) := hcc13 3 _ rfl; have bC : ak.cell? ⟨a3, (a2 : Int).toNat * 7 + 4, none⟩ = some (.bool ((rd_T120 a5 a2).f2.f0)) := hcc13 4 _ rfl; have bD : ak.cell? ⟨a3, (a2 : Int).toNat * 7 + 5, none⟩ = some (.string ((rd_T120 a5 a2).f2.f1)) := hcc13 5 _ rfl; have bE : ak.cell? ⟨a3, (a2 : Int).toNat * 7 + 6, none⟩ = some (.bool ((rd_T120 a5 a2).f2.f2)) := hcc13 6 _ rfl; have hf13_0 : ak.frozen? ⟨a3, (a2 : Int).toNat * 7, none⟩ = false := hfr13 0; have hf13_1 : ak.frozen? ⟨a3, (a2 : Int).toNat * 7 + 1, none⟩ = false := hfr13 1; have hf13_2 : ak.frozen? ⟨a3, (a2 : Int).toNat * 7 + 2, none⟩ = false := hfr13 2; have hf13_3 : ak.frozen? ⟨a3, (a2 : Int).toNat * 7 + 3, none⟩ = false := hfr13 3; have hf13_4 : ak.frozen? ⟨a3, (a2 : Int).toNat * 7 + 4, none⟩ = false := hfr13 4; have hf13_5 : ak.frozen? ⟨a3, (a2 : Int).toNat * 7 + 5, none⟩ = false := hfr13 5; have hf13_6 : ak.frozen? ⟨a3, (a2 : Int).toNat * 7 + 6, none⟩ = false := hfr13 6; (try clear hM13); clear hcl13 hcc13 hfr13; replace p13 := eq_true p13; replace q13 := eq_true q13; have aP := Aside0.mk (show Kd.R k120 120 ak w0.heap.size (fun k_ => (P0_ k_ ∨ w.heap.size ≤ k_)) (.slice (some ⟨a3, 0, none⟩) a8.length am) a5 from (kr ab.out)); obtain ⟨ce29, hcl29, hM29, hcc29, hfr29⟩ := Kd.R_elem aP.out z120 (a2 : Int) (oda) (by have h_ : (a2 : Int) < ((a8.length : Int) : Int) := oda; first | exact h_ | (have e_ := (Kd.R_reads' ab.out).1; omega) | simpa using h_); obtain rfl := k120_openM hM29; have aG := Kd.R_seg aP.out (a2 : Int) (oda) (by have h_ : (a2 : Int) < ((a8.length : Int) : Int) := oda; first | exact h_ | (have e_ := (Kd.R_reads' ab.out).1; omega) | simpa using h_) (seg := [.string ad]) (j := 5) hcl29 hcc29 (show 6 ≤ 7 from by decide) (x' := (⟨(rd_T120 a5 a2).f0, (⟨(rd_T120 a5 a2).f1.f0, (rd_T120 a5 a2).f1.f1, (rd_T120 a5 a2).f1.f2⟩ : S118), (⟨(rd_T120 a5 a2).f2.f0, ad, (rd_T120 a5 a2).f2.f2⟩ : S118)⟩ : S120)) (k120_mkM _ _ _ (⟨(rd_T120 a5 a2).f0, (⟨(rd_T120 a5 a2).f1.f0, (rd_T120 a5 a2).f1.f1, (rd_T120 a5 a2).f1.f2⟩ : S118), (⟨(rd_T120 a5 a2).f2.f0, ad, (rd_T120 a5 a2).f2.f2⟩ : S118)⟩ : S120) ) (fun _ hk => hk); have b5 := hcc29 5 _ rfl; (try simp only [show (k120).sz = 7 from rfl, Nat.mul_one, Nat.add_zero] at b5); have hf29_5 := hfr29 5; (try simp only [show (k120).sz = 7 from rfl, Nat.mul_one, Nat.add_zero] at hf29_5); (try clear hM29); clear hcl29 hcc29 hfr29) | ((with_reducible refine gate_store (t := 9) (p := 65) rfl ?_); refine store_event (t := 9) (p := 65) (v := ?vo_w30) (w1 := (ak.setCell ⟨a3, (a2 : Int).toNat * 7 + 5, none⟩ (.string ad))) ?hg ?ho ?hn ?hr ?_; (case ho => rfl); (case hg => rfl); (case hn => rfl); (case hr => first | (go_simp; done) | (go_simp; rfl)); intro ah hw; have hg : ak.grownBy ah (some a3) := (by rw [hw]; exact aG.2); have hp_ : Kd.R k120 120 ah w0.heap.size (fun k_ => (P0_ k_ ∨ w.heap.size ≤ k_)) (.slice (some ⟨a3, 0, none⟩) a8.length am) a4 := (by rw [hw, aX.out]; exact aG.1); clear aG; refine Ya3 (hp_) ((by rw [hw]; exact below_set (HB.out) ao.out : Below w0.heap.size w0 ah)) (Kept.of_grown (S := (fun k_ => P0_ k_)) hg (by repeat (first | (with_reducible first | exact HK.out | apply Kept.alloc | apply Kept.drewN | apply Kept.drew) | exact HK.out)) (fun k_ e_ => (ab.out.1 k_ e_))) ?_; clear ab HB HK; intro ab HB HK; clear hg hw hp_; have p14 : 0 ≤ (a2 : Int) := oda; have q14 : (a2 : Int) < ((a8.length : Int) : Int) := oda; obtain ⟨ce14, hcl14, hM14, hcc14, hfr14⟩ := Kd.R_elem ab.out z120 (a2 : Int) p14 q14; obtain rfl := k120_openM hM14; have bF : ah.cell? ⟨a3, (a2 : Int).toNat * 7, none⟩ = some (.string ((rd_T120 a4 a2).f0)) := hcc14 0 _ rfl; have bG : ah.cell? ⟨a3, (a2 : Int).toNat * 7 + 1, none⟩ = some (.bool ((rd_T120 a4 a2).f1.f0)) := hcc14 1 _ rfl; have bH : ah.cell? ⟨a3, (a2 : Int).toNat * 7 + 2, none⟩ = some (.string ((rd_T120 a4 a2).f1.f1)) := hcc14 2 _ rfl; have bI : ah.cell? ⟨a3, (a2 : Int).toNat * 7 + 3, none⟩ = some (.bool ((rd_T120 a4 a2).f1.f2)) := hcc14 3 _ rfl; have bJ : ah.cell? ⟨a3, (a2 : Int).toNat * 7 + 4, none⟩ = some (.bool ((rd_T120 a4 a2).f2.f0)) := hcc14 4 _ rfl; have bK : ah.cell? ⟨a3, (a2 : Int).toNat * 7 + 5, none⟩ = some (.string ((rd_T120 a4 a2).f2.f1)) := hcc14 5 _ rfl; have bL : ah.cell? ⟨a3, (a2 : Int).toNat * 7 + 6, none⟩ = some (.bool ((rd_T120 a4 a2).f2.f2)) := hcc14 6 _ rfl; have hf14_0 : ah.frozen? ⟨a3, (a2 : Int).toNat * 7, none⟩ = false := hfr14 0; have hf14_1 : ah.frozen? ⟨a3, (a2 : Int).toNat * 7 + 1, none⟩ = false := hfr14 1; have hf14_2 : ah.frozen? ⟨a3, (a2 : Int).toNat * 7 + 2, none⟩ = false := hfr14 2; have hf14_3 : ah.frozen? ⟨a3, (a2 : Int).toNat * 7 + 3, none⟩ = false := hfr14 3; have hf14_4 : ah.frozen? ⟨a3, (a2 : Int).toNat * 7 + 4, none⟩ = false := hfr14 4; have hf14_5 : ah.frozen? ⟨a3, (a2 : Int).toNat * 7 + 5, none⟩ = false := hfr14 5; have hf14_6 : ah.frozen? ⟨a3, (a2 : Int).toNat * 7 + 6, none⟩ = false := hfr14 6; (try clear hM14); clear hcl14 hcc14 hfr14; replace p14 := eq_true p14; replace q14 := eq_true q14; have aQ := Aside0.mk (show Kd.R k120 120 ah w0.heap.size (fun k_ => (P0_ k_ ∨ w.heap.size ≤ k_)) (.slice (some ⟨a3, 0, none⟩) a8.length am) a4 from (kr ab.out)); obtain ⟨ce31, hcl31, hM31, hcc31, hfr31⟩ := Kd.R_elem aQ.out z120 (a2 : Int) (oda) (by have h_ : (a2 : Int) < ((a8.length : Int) : Int) := oda; first | exact h_ | (have e_ := (Kd.R_reads' ab.out).1; omega) | simpa using h_); obtain rfl := k120_openM hM31; have aH := Kd.R_seg aQ.out (a2 : Int) (oda) (by have h_ : (a2 : Int) < ((a8.length : Int) : Int) := oda; first | exact h_ | (have e_ := (Kd.R_reads' ab.out).1; omega) | simpa using h_) (seg := [.bool ((Int.tmod (wrap64 ((wrap64 ((wrap64 ((wrap64 ((wrap64 ((wrap64 (a9 + 1)) + 1)) + 1)) + 1)) + 1)) + 1)) 3) == 0)]) (j := 6) hcl31 hcc31 (show 7 ≤ 7 from by decide) (x' := (⟨(rd_T120 a4 a2).f0, (⟨(rd_T120 a4 a2).f1.f0, (rd_T120 a4 a2).f1.f1, (rd_T120 a4 a2).f1.f2⟩ : S118), (⟨(rd_T120 a4 a2).f2.f0, (rd_T120 a4 a2).f2.f1, ((Int.tmod (wrap64 ((wrap64 ((wrap64 ((wrap64 ((wrap64 ((wrap64 (a9 + 1)) + 1)) + 1)) + 1)) + 1)) + 1)) 3) == 0)⟩ : S118)⟩ : S120)) (k120_mkM _ _ _ (⟨(rd_T120 a4 a2).f0, (⟨(rd_T120 a4 a2).f1.f0, (rd_T120 a4 a2).f1.f1, (rd_T120 a4 a2).f1.f2⟩ : S118), (⟨(rd_T120 a4 a2).f2.f0, (rd_T120 a4 a2).f2.f1, ((Int.tmod (wrap64 ((wrap64 ((wrap64 ((wrap64 ((wrap64 ((wrap64 (a9 + 1)) + 1)) + 1)) + 1)) + 1)) + 1)) 3) == 0)⟩ : S118)⟩ : S120) ) (fun _ hk => hk); have b6 := hcc31 6 _ rfl; (try simp only [show (k120).sz = 7 from rfl, Nat.mul_one, Nat.add_zero] at b6); have hf31_6 := hfr31 6; (try simp only [show (k120).sz = 7 from rfl, Nat.mul_one, Nat.add_zero] at hf31_6); (try clear hM31); clear hcl31 hcc31 hfr31) | ((with_reducible refine gate_store (t := 4) (p := 75) rfl ?_); refine store_event (t := 4) (p := 75) (v := ?vo_w32) (w1 := (ah.setCell ⟨a3, (a2 : Int).toNat * 7 + 6, none⟩ (.bool ((Int.tmod (wrap64 ((wrap64 ((wrap64 ((wrap64 ((wrap64 ((wrap64 (a9 + 1)) + 1)) + 1)) + 1)) + 1)) + 1)) 3) == 0)))) ?hg ?ho ?hn ?hr ?_; (case ho => rfl); (case hg => rfl); (case hn => rfl); (case hr => first | (go_simp; done) | (go_simp; rfl)); intro aI hw; have hg : ah.grownBy aI (some a3) := (by rw [hw]; exact aH.2); have hp_ : Kd.R k120 120 aI w0.heap.size (fun k_ => (P0_ k_ ∨ w.heap.size ≤ k_)) (.slice (some ⟨a3, 0, none⟩) a8.length am) ay := (by rw [hw, aY.out]; exact aH.1); clear aH; refine Ya3 (hp_) ((by rw [hw]; exact below_set (HB.out) ao.out : Below w0.heap.size w0 aI)) (Kept.of_grown (S := (fun k_ => P0_ k_)) hg (by repeat (first | (with_reducible first | exact HK.out | apply Kept.alloc | apply Kept.drewN | apply Kept.drew) | exact HK.out)) (fun k_ e_ => (ab.out.1 k_ e_))) ?_; clear ab HB HK; intro ab HB HK; clear hg hw hp_))
     go_roundg k1
     case measure => have := HK1.out; omega
     case rel => exact ⟨(ay), (wrap64 ((wrap64 ((wrap64 ((wrap64 ((wrap64 ((wrap64 ((wrap64 (a9 + 1)) + 1)) + 1)) + 1)) + 1)) + 1)) + 1)), (wrap64 (a2 + 1)), Ye1, Ye1, H', ⟨by have := HK1.out; omega⟩, ⟨kr ab.out⟩, ⟨by repeat (first | (with_reducible first | exact HK.out | apply Kept.alloc | apply Kept.drewN | apply Kept.drew) | exact HK.out)⟩, ⟨be HB.out⟩⟩
    ·rw [if_neg c5] at H
     exact absurd H (by simp)
   ·rw [if_neg c3] at H
    have aR : decide (a2 < (a8.length : Int)) = false := decide_eq_false c3; clear c3; simp only [Option.some.injEq, Prod.mk.injEq] at H; obtain ⟨rfl, rfl⟩ := H; obtain ⟨Ao33, co33, b7⟩ := Kd.R_slice ab.out; subst b7
    go_wp2
    go_ret
    exact ⟨Ye2, kr ab.out, be HB.out, by repeat (first | (with_reducible first | exact HK.out | apply Kept.alloc | apply Kept.drewN | apply Kept.drew) | exact HK.out)⟩

end Go.Proofs.YtknagppkeodggaaDoor.P


namespace Go.Proofs.YtknagppkeodggaaDoor.P
open Go.RowKit Go.Proofs.YtknagppkeodggaaDoorW.PrintWords Go.Proofs.YtknagppkeodggaaDoorW.PrintLast Go.Proofs.YtknagppkeodggaaDoorW.PrintMore
attribute [local go_sem] max2_int min2_int max_two min_two max_three min_three max_four min_four
set_option linter.unusedVariables false
set_option linter.unusedSimpArgs false

/-! ### laws_markPatch: function 33 -/
def laws_markPatch.f (k : Nat) (a2 : List (S120)) (a1 : Int) : Option (Int × (List (S120))) := (laws_markChangeS.f k a2 a1).bind fun bt910 => (some (bt910.1, bt910.2))
theorem laws_markPatch.mono : ∀ a0 a1 k, LeO (laws_markPatch.f k a0 a1) (laws_markPatch.f (k + 1) a0 a1) := by
 intro a0 a1 k
 unfold laws_markPatch.f
 repeat' first
   | (with_reducible exact laws_markChangeS.mono _ _ _)
   | (with_reducible exact LeO.refl _)
   | (with_reducible exact LeO.none _)
   | (with_reducible refine LeO.ite ?_ ?_)
   | (with_reducible refine LeO.bind ?_ (fun _ => ?_))
   | exact laws_markChangeS.mono _ _ _
   | exact LeO.none _
   | refine LeO.ite ?_ ?_
   | refine LeO.bind ?_ (fun _ => ?_)
set_option maxHeartbeats 8000000 in
set_option maxRecDepth 100000 in
theorem laws_markPatch.calls (k : Nat) (P0_0_ : Nat → Prop) (u9000_ : Value) (a2 : List (S120)) (a1 : Int) (r1 : Int) (r2 : List (S120)) (w0 w : World) (hB : Below w0.heap.size w0 w) (ho0_0 : Kd.R k120 120 w w0.heap.size P0_0_ u9000_ a2) (h : laws_markPatch.f k a2 a1 = some (r1, r2)) :
  Calls Tryd.prog 33 #[.agg #[u9000_], .int .i64 a1] w fun e w' => e = .returned (.int .i64 r1) ∧ Kd.R k120 120 w' w0.heap.size (fun k_ => (P0_0_ k_ ∨ w.heap.size ≤ k_)) u9000_ r2 ∧ Below w0.heap.size w0 w' ∧ Kept w w' (fun k_ => P0_0_ k_) := by
 have hu52 := Tryd.underlying52; have a3 := Aside0.mk (show Kd.R k120 120 w w0.heap.size (fun k_ => (P0_0_ k_ ∨ w.heap.size ≤ k_)) u9000_ a2 from Kd.R_mono ho0_0 (fun k_ hk => (.inl hk))); have HK := Aside0.mk (Kept.refl w (fun k_ => P0_0_ k_)); have HW0 := Aside0.mk hB.size; have HB := Aside0.mk hB; clear hB; have H : ((laws_markChangeS.f k a2 a1).bind fun bt910 => (some (bt910.1, bt910.2))) = some (r1, r2) := h; clear h; replace H := Option.bind_eq_some_iff.mp H; obtain ⟨⟨a7, a8⟩, A30, H⟩ := H; replace H : (some (a7, a8)) = some (r1, r2) := H; have A3 := Aside0.mk A30; clear A30; simp only [Option.some.injEq, Prod.mk.injEq] at H; obtain ⟨rfl, rfl⟩ := H; obtain ⟨a5, a6, eo4⟩ := Kd.R_slice a3.out; subst eo4
 go_enter Tryd.func33, Tryd.ntmps33
 go_wp2_with (first | ((with_reducible refine gd 2 rfl ?_); refine bx 2 52 (#[.slice a5 a2.length a6]) ?_; intro a9 hg w5 hbox hb; refine Ya6 (Kd.R_below (kr a3.out) hb) (Kept.below (S := (fun k_ => P0_0_ k_)) (by repeat (first | (with_reducible first | exact HK.out | apply Kept.alloc | apply Kept.drewN | apply Kept.drew) | exact HK.out)) hb) (below_step (be HB.out) hb) (hbox) ((by rw [hg]; exact (by first | exact HK.out.1 | exact (show Kept w _ (fun k_ => P0_0_ k_) from by repeat (first | (with_reducible first | exact HK.out | apply Kept.alloc | apply Kept.drewN | apply Kept.drew) | exact HK.out)).1) : w.heap.size ≤ a9)) ((by rw [hg]; exact (below_size (be HB.out)) : w0.heap.size ≤ a9)) ?_; clear a3 HK HB; intro a3 HK HB a4 aa GE909; clear hb hbox hg; have ⟨ab, ac⟩ := Yc1 a4.out) | ((with_reducible refine gc 95 rfl ?_); refine gl (some 8) _ (#[.slice a5 a2.length a6, .int .i64 a1]) Tryd.func95 ?_; (with_reducible refine (laws_markChangeS.calls k (fun k_ => some k_ = (.slice a5 a2.length a6 : Value).ownBlock) (.slice a5 a2.length a6) a2 a1 a7 a8 w0 _ ?side1 ?side2 A3.out).mono ?_); (case side1 => exact bf HB.out); (case side2 => exact Kd.R_tight rfl a3.out); rintro e w7 ⟨rfl, hy0, hb, hkp⟩; refine ⟨_, rfl, ?_⟩; refine Ya4 (Kd.R_reok rfl hy0 (fun k_ e_ => a3.out.1 k_ e_)) (blk_kept (bk a4.out) hkp (fun hs_ => (fun e_ => (Kd.R_ne a3.out a4.out (by decide)) e_) hs_)) (Kept.then_ (S := (fun k_ => P0_0_ k_)) (by repeat (first | (with_reducible first | exact HK.out | apply Kept.alloc | apply Kept.drewN | apply Kept.drew | refine Kept.setCell ?_ (.inr aa.out) _) | exact HK.out)) hkp (fun k_ hs_ => (fun e_ => (a3.out.1 k_ e_.symm)) hs_)) (hb) ?_; clear a3 a4 HK HB; intro a3 a4 HK HB; (try clear hb); (try clear hkp); (try clear hy0)))
 go_ret
 exact ⟨Ye2, kr a3.out, (bf HB.out), by repeat (first | (with_reducible first | exact HK.out | apply Kept.alloc | apply Kept.drewN | apply Kept.drew | refine Kept.setCell ?_ (.inr aa.out) _) | exact HK.out)⟩

end Go.Proofs.YtknagppkeodggaaDoor.P


namespace Go.Proofs.YtknagppkeodggaaDoor.P
open Go.RowKit Go.Proofs.YtknagppkeodggaaDoorW.PrintWords Go.Proofs.YtknagppkeodggaaDoorW.PrintLast Go.Proofs.YtknagppkeodggaaDoorW.PrintMore
attribute [local go_sem] max2_int min2_int max_two min_two max_three min_three max_four min_four
set_option linter.unusedVariables false
set_option linter.unusedSimpArgs false

/-! ### laws_szFile: function 184 -/
def laws_szFile.f (a0_0 : Bool) (a0_1 : ByteArray) (a0_2 : Bool) (a1 : Int) : Option (Int) := if (wrap64 (a1 - (a0_1.size : Int))) < 0 then (some (-1)) else (some (wrap64 (a1 - (a0_1.size : Int))))
set_option maxHeartbeats 8000000 in
set_option maxRecDepth 100000 in
theorem laws_szFile.calls (a0_0 : Bool) (a0_1 : ByteArray) (a0_2 : Bool) (a1 : Int) (r : Int) (w : World) (h : laws_szFile.f a0_0 a0_1 a0_2 a1 = some r) :
  Calls Tryd.prog 184 #[.agg #[.bool a0_0, .string a0_1, .bool a0_2], .int .i64 a1] w fun e w' => e = .returned (.int .i64 r) ∧ Below w.heap.size w w' := by
 have hu181 := Tryd.underlying181; have HB := Aside0.mk (Below.refl w.heap.size w); have H : (if (wrap64 (a1 - (a0_1.size : Int))) < 0 then (some (-1)) else (some (wrap64 (a1 - (a0_1.size : Int))))) = some r := h; clear h
 by_cases c3 : (wrap64 (a1 - (a0_1.size : Int))) < 0
 ·rw [if_pos c3] at H
  have a7 : decide ((wrap64 (a1 - (a0_1.size : Int))) < 0) = true := decide_eq_true c3; clear c3; obtain rfl := Option.some.inj H
  go_enter Tryd.func184, Tryd.ntmps184
  go_wp2_with (first | ((with_reducible refine gd 2 rfl ?_); refine bx 2 181 (#[.bool a0_0, .string a0_1, .bool a0_2]) ?_; intro al hg w4 hbox hb; refine Ya4 (below_step (be HB.out) hb) (hbox) (bs hg (be HB.out)) (bs hg (be HB.out)) ?_; clear HB; intro HB a8 am an; clear hb hbox hg; have ⟨aH, aI, aJ, aK, aL, aM⟩ := Yc3 a8.out))
  go_ret
  exact ⟨Ye2, (bf HB.out)⟩
 ·rw [if_neg c3] at H
  have a7 : decide ((wrap64 (a1 - (a0_1.size : Int))) < 0) = false := decide_eq_false c3; clear c3; obtain rfl := Option.some.inj H
  go_enter Tryd.func184, Tryd.ntmps184
  go_wp2_with (first | ((with_reducible refine gd 2 rfl ?_); refine bx 2 181 (#[.bool a0_0, .string a0_1, .bool a0_2]) ?_; intro al hg w6 hbox hb; refine Ya4 (below_step (be HB.out) hb) (hbox) (bs hg (be HB.out)) (bs hg (be HB.out)) ?_; clear HB; intro HB a8 am an; clear hb hbox hg; have ⟨af, ag, ah, ai, aj, ak⟩ := Yc3 a8.out))
  go_ret
  exact ⟨Ye2, (bf HB.out)⟩

/-! ### laws_toFile: function 185 -/
def laws_toFile.f (a0_0 : Bool) (a0_1 : ByteArray) (a0_2 : Bool) : Option (Bool × ByteArray × Bool) := some (a0_0, a0_1, a0_2)
set_option maxHeartbeats 8000000 in
set_option maxRecDepth 100000 in
theorem laws_toFile.calls (a0_0 : Bool) (a0_1 : ByteArray) (a0_2 : Bool) (r1 : Bool) (r2 : ByteArray) (r3 : Bool) (w : World) (h : laws_toFile.f a0_0 a0_1 a0_2 = some (r1, r2, r3)) :
  Calls Tryd.prog 185 #[.agg #[.bool a0_0, .string a0_1, .bool a0_2]] w fun e w' => e = .returned (.agg #[.bool r1, .string r2, .bool r3]) ∧ Below w.heap.size w w' := by
 have hu181 := Tryd.underlying181; have hu118 := Tryd.underlying118; have HB := Aside0.mk (Below.refl w.heap.size w); have H : (some (a0_0, a0_1, a0_2)) = some (r1, r2, r3) := h; clear h; simp only [Option.some.injEq, Prod.mk.injEq] at H; obtain ⟨rfl, rfl, rfl⟩ := H
 go_enter Tryd.func185, Tryd.ntmps185
 go_wp2_with (first | ((with_reducible refine gd 1 rfl ?_); refine bx 1 181 (#[.bool a0_0, .string a0_1, .bool a0_2]) ?_; intro gb734 hg w2 hbox hb; refine Ya4 (below_step (be HB.out) hb) (hbox) (bs hg (be HB.out)) (bs hg (be HB.out)) ?_; clear HB; intro HB a2 GW734 GE734; clear hb hbox hg) | ((with_reducible refine gd 2 rfl ?_); refine bx 2 118 (#[.bool false, .string (⟨#[]⟩ : ByteArray), .bool false]) ?_; intro ao hg w3 hbox hb; refine Ya7 (bb a2 hb) (below_step (bf HB.out) hb) (hbox) (bs hg (bf HB.out)) (bs hg (bf HB.out)) (bl hg a2) (br hg a2) ?_; clear a2 HB; intro a2 HB a3 GW735 GE735 ap aq; clear hb hbox hg) | ((with_reducible refine gd 3 rfl ?_); refine bx 3 118 (#[.bool false, .string (⟨#[]⟩ : ByteArray), .bool false]) ?_; intro gb736 hg w4 hbox hb; refine Ya10 (bb a2 hb) (bb a3 hb) (below_step (bf HB.out) hb) (hbox) (bs hg (bf HB.out)) (bs hg (bf HB.out)) (bl hg a2) (br hg a2) (bl hg a3) (br hg a3) ?_; clear a2 a3 HB; intro a2 a3 HB ar GW736 GE736 au av aw ax; clear hb hbox hg; have hnb5 := ap.out; have hnc5 := aq.out; have ay := au.out; have az := av.out; have ⟨af, ag, ah, ai, aj, ak⟩ := Yc3 a2.out; have hnb8 := ax.out; have hnc8 := aw.out; have ⟨aN, aO, aP, aQ, aR, aS⟩ := Yc3 ar.out; have ⟨aT, aU, aV, aW, aX, aY⟩ := Yc3 a3.out))
 refine bodyPost_ret (results_cell_row rfl _ _ ao 118 #[.bool a0_0, .string a0_1, .bool a0_2] (0, 0) _ rfl (bp a3.out) Tryd.underlying118 rfl (by kernel_rfl)) rfl ?_; exact ⟨Ye2, (bf HB.out)⟩

/-! ### laws_eqFile: function 187 -/
def laws_eqFile.f (a0_0 : Bool) (a0_1 : ByteArray) (a0_2 : Bool) (a1_0 : Bool) (a1_1 : ByteArray) (a1_2 : Bool) : Option (Bool) := if (a0_0 != a1_0) = true then (some false) else (if a0_1.toList = a1_1.toList then (if (a0_2 != a1_2) = true then (some false) else (some true)) else (some false))
set_option maxHeartbeats 8000000 in
set_option maxRecDepth 100000 in
theorem laws_eqFile.calls (a0_0 : Bool) (a0_1 : ByteArray) (a0_2 : Bool) (a1_0 : Bool) (a1_1 : ByteArray) (a1_2 : Bool) (r : Bool) (w : World) (h : laws_eqFile.f a0_0 a0_1 a0_2 a1_0 a1_1 a1_2 = some r) :
  Calls Tryd.prog 187 #[.agg #[.bool a0_0, .string a0_1, .bool a0_2], .agg #[.bool a1_0, .string a1_1, .bool a1_2]] w fun e w' => e = .returned (.bool r) ∧ Below w.heap.size w w' := by
 have hu118 := Tryd.underlying118; have HB := Aside0.mk (Below.refl w.heap.size w); have H : (if (a0_0 != a1_0) = true then (some false) else (if a0_1.toList = a1_1.toList then (if (a0_2 != a1_2) = true then (some false) else (some true)) else (some false))) = some r := h; clear h
 by_cases c3 : (a0_0 != a1_0) = true
 ·rw [if_pos c3] at H
  have a7 : (a0_0 != a1_0) = true := c3; (try (have aA : decide (a0_0 = a1_0) = false := by simpa using c3)); (try (have aB : (a0_0 == a1_0) = false := by simpa using c3)); (try (have c3b3 : ¬ (a0_0 = a1_0) := by simpa using c3)); clear c3; obtain rfl := Option.some.inj H
  go_enter Tryd.func187, Tryd.ntmps187
  go_wp2_with (first | ((with_reducible refine gd 2 rfl ?_); refine bx 2 118 (#[.bool a0_0, .string a0_1, .bool a0_2]) ?_; intro a9 hg w4 hbox hb; refine Ya4 (below_step (be HB.out) hb) (hbox) (bs hg (be HB.out)) (bs hg (be HB.out)) ?_; clear HB; intro HB a0 aa ab; clear hb hbox hg) | ((with_reducible refine gd 3 rfl ?_); refine bx 3 118 (#[.bool a1_0, .string a1_1, .bool a1_2]) ?_; intro ac hg w5 hbox hb; refine Ya7 (bb a0 hb) (below_step (bf HB.out) hb) (hbox) (bs hg (bf HB.out)) (bs hg (bf HB.out)) (bl hg a0) (br hg a0) ?_; clear a0 HB; intro a0 HB a4 ad ae a5 a6; clear hb hbox hg; have ay := a5.out; have az := a6.out; have ⟨af, ag, ah, ai, aj, ak⟩ := Yc3 a0.out; have ⟨aZ, b0, b1, b2, b3, b4⟩ := Yc3 a4.out))
  go_ret
  exact ⟨Ye2, (bf HB.out)⟩
 ·rw [if_neg c3] at H
  have a7 : (a0_0 != a1_0) = false := by simpa using c3
  (try (have aA : decide (a0_0 = a1_0) = true := by simpa using c3)); (try (have aB : (a0_0 == a1_0) = true := by simpa using c3)); clear c3
  by_cases c9 : a0_1.toList = a1_1.toList
  ·rw [if_pos c9] at H
   have aC : (a0_1.toList == a1_1.toList) = true := beq_iff_eq.mpr c9; have aD : (a0_1.toList != a1_1.toList) = false := bne_eq_false_iff_eq.mpr c9; clear c9
   by_cases c10 : (a0_2 != a1_2) = true
   ·rw [if_pos c10] at H
    have aE : (a0_2 != a1_2) = true := c10; (try (have aF : decide (a0_2 = a1_2) = false := by simpa using c10)); (try (have aG : (a0_2 == a1_2) = false := by simpa using c10)); (try (have c10b3 : ¬ (a0_2 = a1_2) := by simpa using c10)); clear c10; obtain rfl := Option.some.inj H
    go_enter Tryd.func187, Tryd.ntmps187
    go_wp2_with (first | ((with_reducible refine gd 2 rfl ?_); refine bx 2 118 (#[.bool a0_0, .string a0_1, .bool a0_2]) ?_; intro a9 hg w11 hbox hb; refine Ya4 (below_step (be HB.out) hb) (hbox) (bs hg (be HB.out)) (bs hg (be HB.out)) ?_; clear HB; intro HB a0 aa ab; clear hb hbox hg) | ((with_reducible refine gd 3 rfl ?_); refine bx 3 118 (#[.bool a1_0, .string a1_1, .bool a1_2]) ?_; intro ac hg w12 hbox hb; refine Ya7 (bb a0 hb) (below_step (bf HB.out) hb) (hbox) (bs hg (bf HB.out)) (bs hg (bf HB.out)) (bl hg a0) (br hg a0) ?_; clear a0 HB; intro a0 HB a4 ad ae a5 a6; clear hb hbox hg; have hnb13 := a5.out; have hnc13 := a6.out; have ⟨b5, b6, b7, b8, b9, ba⟩ := Yc3 a0.out; have ⟨bd, bg, bh, bi, bj, bm⟩ := Yc3 a4.out))
    go_ret
    exact ⟨Ye2, (bf HB.out)⟩
   ·rw [if_neg c10] at H
    have aE : (a0_2 != a1_2) = false := by simpa using c10
    (try (have aF : decide (a0_2 = a1_2) = true := by simpa using c10)); (try (have aG : (a0_2 == a1_2) = true := by simpa using c10)); clear c10; obtain rfl := Option.some.inj H
    go_enter Tryd.func187, Tryd.ntmps187
    go_wp2_with (first | ((with_reducible refine gd 2 rfl ?_); refine bx 2 118 (#[.bool a0_0, .string a0_1, .bool a0_2]) ?_; intro a9 hg w16 hbox hb; refine Ya4 (below_step (be HB.out) hb) (hbox) (bs hg (be HB.out)) (bs hg (be HB.out)) ?_; clear HB; intro HB a0 aa ab; clear hb hbox hg) | ((with_reducible refine gd 3 rfl ?_); refine bx 3 118 (#[.bool a1_0, .string a1_1, .bool a1_2]) ?_; intro ac hg w17 hbox hb; refine Ya7 (bb a0 hb) (below_step (bf HB.out) hb) (hbox) (bs hg (bf HB.out)) (bs hg (bf HB.out)) (bl hg a0) (br hg a0) ?_; clear a0 HB; intro a0 HB a4 ad ae a5 a6; clear hb hbox hg; have hnb18 := a5.out; have hnc18 := a6.out; have ⟨bn, bo, bq, bu, bv, bw⟩ := Yc3 a0.out; have ⟨bz, bA, bB, bC, bD, bE⟩ := Yc3 a4.out))
    go_ret
    exact ⟨Ye2, (bf HB.out)⟩
  ·rw [if_neg c9] at H
   have aC : (a0_1.toList == a1_1.toList) = false := beq_eq_false_iff_ne.mpr c9; have aD : (a0_1.toList != a1_1.toList) = true := bne_iff_ne.mpr c9; obtain rfl := Option.some.inj H
   go_enter Tryd.func187, Tryd.ntmps187
   go_wp2_with (first | ((with_reducible refine gd 2 rfl ?_); refine bx 2 118 (#[.bool a0_0, .string a0_1, .bool a0_2]) ?_; intro a9 hg w21 hbox hb; refine Ya4 (below_step (be HB.out) hb) (hbox) (bs hg (be HB.out)) (bs hg (be HB.out)) ?_; clear HB; intro HB a0 aa ab; clear hb hbox hg) | ((with_reducible refine gd 3 rfl ?_); refine bx 3 118 (#[.bool a1_0, .string a1_1, .bool a1_2]) ?_; intro ac hg w22 hbox hb; refine Ya7 (bb a0 hb) (below_step (bf HB.out) hb) (hbox) (bs hg (bf HB.out)) (bs hg (bf HB.out)) (bl hg a0) (br hg a0) ?_; clear a0 HB; intro a0 HB a4 ad ae a5 a6; clear hb hbox hg; have hnb23 := a5.out; have hnc23 := a6.out; have ⟨bF, bG, bH, bI, bJ, bK⟩ := Yc3 a0.out; have ⟨bL, bM, bN, bO, bP, bQ⟩ := Yc3 a4.out))
   go_ret
   exact ⟨Ye2, (bf HB.out)⟩

end Go.Proofs.YtknagppkeodggaaDoor.P

