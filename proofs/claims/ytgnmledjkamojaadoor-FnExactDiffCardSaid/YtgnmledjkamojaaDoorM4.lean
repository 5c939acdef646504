/- Several texts of this claim in one file: YtgnmledjkamojaaDoorPImplFile, YtgnmledjkamojaaDoorPImplFiles, YtgnmledjkamojaaDoorPImplTree, YtgnmledjkamojaaDoorPImplIn, YtgnmledjkamojaaDoorPImplGoodPart, YtgnmledjkamojaaDoorPStringsSplit, YtgnmledjkamojaaDoorPImplParts, YtgnmledjkamojaaDoorPImplValidPath, YtgnmledjkamojaaDoorPImplGoodEntry, YtgnmledjkamojaaDoorPStringsliteHasPrefix, YtgnmledjkamojaaDoorPStringsHasPrefix, YtgnmledjkamojaaDoorPImplOver, YtgnmledjkamojaaDoorPImplValidTree, YtgnmledjkamojaaDoorPLawsMarkText, YtgnmledjkamojaaDoorPLawsHeldChangeS, YtgnmledjkamojaaDoorPLawsHeldPatch, YtgnmledjkamojaaDoorPLawsMarkChangeS, YtgnmledjkamojaaDoorPLawsMarkPatch. -/
import Derived.Test.YtgnmledjkamojaaDoorM2
import Derived.Test.YtgnmledjkamojaaDoorM3
import Derived.Shelf.Sort.Plain
import Derived.Shelf.Slices.In.SortNone2
import Derived.Sort.OwnSorted
import Derived.Lib.SplitLaws
namespace Go.Proofs.YtgnmledjkamojaaDoor.P
open Go.RowKit Go.Proofs.YtgnmledjkamojaaDoorW.PrintWords Go.Proofs.YtgnmledjkamojaaDoorW.PrintLast Go.Proofs.YtgnmledjkamojaaDoorW.PrintMore
attribute [local go_sem] max2_int min2_int max_two min_two max_three min_three max_four min_four
set_option linter.unusedVariables false
set_option linter.unusedSimpArgs false

/-! ### impl_File: function 99 -/
/- Walked by hand (written by wip/tools/mkkeys.py). -/
open Go.Proofs.YtgnmledjkamojaaDoor.Pure
theorem bs_ {w W : World} {g : Nat} (hg : g = W.heap.size) (h : Below w.heap.size w W) : w.heap.size ≤ g := by rw [hg]; exact below_size h
theorem take_more {α : Type} (Ms : List (Nat × List (ByteArray × α))) (i : Nat) (hi : i < Ms.length) : allK (Ms.take (i + 1)) = allK (Ms.take i) ++ Ms[i].2.map (·.1) ∧ sizeK (Ms.take (i + 1)) = sizeK (Ms.take i) + Ms[i].2.length := by
 have e : Ms.take (i + 1) = Ms.take i ++ [Ms[i]] := by
  rw [List.take_add_one, List.getElem?_eq_getElem hi]
  rfl
 rw [e]
 refine ⟨?_, ?_⟩
 ·unfold allK
  rw [List.flatMap_append]
  simp only [List.flatMap_cons, List.flatMap_nil, List.append_nil]
 ·unfold sizeK
  rw [List.map_append, List.sum_append]
  simp only [List.map_cons, List.map_nil, List.sum_cons, List.sum_nil, Nat.add_zero]
theorem nodup_mid {a b : List ByteArray} {x : ByteArray} (h : (a ++ x :: b).Nodup) : x ∉ a ++ b := by
 rw [List.nodup_append] at h
 obtain ⟨_, h2, h3⟩ := h
 obtain ⟨h4, _⟩ := List.nodup_cons.1 h2
 intro hx
 rcases List.mem_append.1 hx with hx | hx
 ·exact h3 _ hx _ List.mem_cons_self rfl
 ·exact h4 hx
theorem collect_step {α : Type} {M L1 L2 : List (ByteArray × α)} {p : ByteArray × α} {T : List (ByteArray × Bool)} (h1 : p.1 ∈ M.map (·.1)) (h2 : p.1 ∉ (L1 ++ L2).map (·.1)) (x : ByteArray) :
  (x = p.1 ∨ x ∈ T.map (·.1) ∨ (x ∈ M.map (·.1) ∧ x ∉ (L1 ++ p :: L2).map (·.1))) ↔ (x ∈ T.map (·.1) ∨ (x ∈ M.map (·.1) ∧ x ∉ (L1 ++ L2).map (·.1))) := by
 simp only [List.map_append, List.map_cons, List.mem_append, List.mem_cons, not_or] at h2 ⊢
 constructor
 ·rintro (rfl | h | ⟨h3, h4, h5, h6⟩)
  ·exact .inr ⟨h1, h2.1, h2.2⟩
  ·exact .inl h
  ·exact .inr ⟨h3, h4, h6⟩
 ·rintro (h | ⟨h3, h4, h5⟩)
  ·exact .inr (.inl h)
  ·by_cases hx : x = p.1
   ·exact .inl hx
   ·exact .inr (.inr ⟨h3, h4, hx, h5⟩)
/-- A row of texts of one's own, cell by cell. -/
theorem strs_opened {w : World} {base : Nat} {ok : Nat → Prop} {v : Value} {l : List ByteArray} (h : Kd.R Kd.string 9 w base ok v l) : w.ownsRow base 9 1 v l.length (l.map Value.string) := by
 obtain ⟨_, inner, ho, hr⟩ := h
 have e : inner = l.map Value.string := by
  apply List.ext_getElem?
  intro j
  have hlen : inner.length = l.length * 1 := hr.1
  by_cases hj : j < l.length
  ·have h1 : (inner.drop (j * 1)).take 1 = [Value.string l[j]] := hr.2 j l[j] (List.getElem?_eq_getElem hj)
   have h2 : ((inner.drop (j * 1)).take 1)[0]? = some (Value.string l[j]) := by rw [h1]; rfl
   rw [List.getElem?_take_of_lt (by omega), List.getElem?_drop, Nat.mul_one, Nat.add_zero] at h2
   rw [h2, List.getElem?_map, List.getElem?_eq_getElem hj]
   rfl
  ·rw [List.getElem?_eq_none (by omega), List.getElem?_eq_none (by rw [List.length_map]; omega)]
 rw [← e]
 exact ho
/-- What the sort leaves of the row. -/
theorem strs_closed {w : World} {base g cap n : Nat} {os : Array Obj} {cur : Array Value} {l ks : List ByteArray} (hlen : ks.length = l.length) (hbase : base ≤ g) (hb : w.heap[g]? = some (.cells cur 9 (0, 0))) (h1 : l.length ≤ cap) (h2 : cap ≤ maxLen) (h3 : cur.size = cap * 1) :
  Kd.R Kd.string 9 (Go.Sort.grow (Go.Sort.putRow Go.Proofs.encStr (Go.Sort.ahead w n) g 0 (ks.map fun k => k.data.toList).toArray) os) base (fun _ => True) (.slice (some ⟨g, 0, none⟩) l.length cap) ks ∧ w.grownBy (Go.Sort.grow (Go.Sort.putRow Go.Proofs.encStr (Go.Sort.ahead w n) g 0 (ks.map fun k => k.data.toList).toArray) os) (some g) := by
 have ho := ownsRow_sorted (e := 9) (n := n) (os := os) (ss := l.map fun k => k.data.toList) (ts := ks.map fun k => k.data.toList) (by simp [hlen]) hbase hb (by simpa using h1) h2 h3
 rw [List.length_map] at ho
 have e : (ks.map fun k => k.data.toList).map Go.Proofs.encStr = ks.map Value.string := by
  rw [List.map_map]
  exact List.map_congr_left (fun k _ => by simp)
 rw [e] at ho
 refine ⟨⟨fun _ _ => trivial, ks.map Value.string, ?_, Go.Proofs.YtgnmledjkamojaaDoor.Ow.reps_map Value.string (fun _ => rfl) _ _ _ ks⟩, grownBy_sorted _⟩
 rw [hlen]
 exact ho

set_option maxHeartbeats 4000000 in
set_option maxRecDepth 100000 in
theorem keysFile_calls {α : Type} (enc : α → Value) (Ms : List (Nat × List (ByteArray × α))) (ad : Addr) (c : Nat) (w : World) (hc : ∀ i, (h : i < Ms.length) → w.cell? (ad.add i) = some (.map (some Ms[i].1))) (hM : ∀ i, (h : i < Ms.length) → MapAt enc w Ms[i].1 Ms[i].2) (hn : Ms.length ≤ 1000) (hl : sizeK Ms ≤ 1000000) :
  Calls Tryd.prog 99 #[.slice (some ad) Ms.length c] w fun e w' => ∃ v, e = .returned v ∧ Kd.R Kd.string 9 w' w.heap.size (fun _ => True) v (keysS (allK Ms)) ∧ Below w.heap.size w w' := by
 have HC := Aside0.mk hc
 have HMM := Aside0.mk hM
 have HL := Aside0.mk hl
 have HN := Aside0.mk hn
 have HB := Aside0.mk (Below.refl w.heap.size w)
 clear hc hM hl hn
 go_enter Tryd.func99, Tryd.ntmps99
 go_wp2_with ((with_reducible refine gd 9 rfl ?_); refine wpList_make_M Value.bool _ rfl _ rfl ?_; intro bs w2 hg hM hb; refine Ya3 hM (below_step (be HB.out) hb) (bs_ hg (be HB.out)) ?_; clear HB; intro HS HB GS; clear hM hb hg)
 go_loopg [12] (Ms.length) (fun kq v12 w' => ∃ (i : Nat) (S : List (ByteArray × Bool)), v12 = .int .i64 (i : Int) ∧ Aside0 (kq + i = Ms.length) ∧ Aside0 (MapAt Value.bool w' bs S) ∧ Aside0 (∀ x, x ∈ S.map (·.1) ↔ x ∈ allK (Ms.take i)) ∧ Aside0 (S.length ≤ sizeK (Ms.take i)) ∧ Aside0 (Below w.heap.size w w'))
 case atStart => exact ⟨0, [], rfl, ⟨by omega⟩, HS, ⟨fun x => by simp [allK]⟩, ⟨by simp⟩, HB⟩
 case round =>
  clear HS HB
  obtain ⟨i, S, rfl, HK, HS, HV, HZ, HB⟩ := hrel
  have hik := HK.out
  by_cases hi : i < Ms.length
  ·obtain ⟨go, rfl⟩ : ∃ g, gk = g + 1 := ⟨gk - 1, by omega⟩
   have c1 : decide ((i : Int) < (Ms.length : Int)) = true := decide_eq_true (by omega)
   have c2 : decide (0 ≤ (i : Int)) = true := decide_eq_true (by omega)
   have c3 : decide (i < Ms.length) = true := decide_eq_true hi
   have hx1 : wr.cell? (ad.add i) = some (.map (some Ms[i].1)) := (HB.out.cell (World.block_lt_of_cell? w _ (HC.out i hi))).trans (HC.out i hi)
   have HMi := Aside0.mk ((HMM.out i hi).below HB.out (HMM.out i hi).lt)
   have HLo := Aside0.mk (HMM.out i hi).lt
   have HT := Aside0.mk (take_more Ms i hi)
   generalize Ms[i] = bM at hx1 HMi HT HLo
   obtain ⟨bm, M⟩ := bM
   have HSL := Aside0.mk HS.out.lt
   go_wp2_with (at_range; refine wpList_range_M (enc := enc) _ rfl _ 126 rfl 9 122 Tryd.underlying126 bm M rfl HMi.out ?_; intro r w3 hr hR hg; have hrs := below_size HB.out; refine Ya5 hR (HS.out.kept hg (by simp)) (below_none HB.out hg) (show w.heap.size ≤ r from by omega) (show r ≠ bs ∧ bm ≠ bs from by have := HSL.out; have := GS.out; have := HLo.out; exact ⟨by omega, by simp only at this; omega⟩) ?_; have HS0 := Aside0.mk HZ.out; clear HS HB; intro HR HS HB GR NE; clear hR hr hg hrs)
   (try go_frame)
   go_loopg [6] (M.length) (fun kq v6 w' => ∃ (L : List (ByteArray × α)) (S' : List (ByteArray × Bool)), Aside0 (kq = L.length) ∧ Aside0 (RngAt enc w' bm r M L) ∧ Aside0 (MapAt Value.bool w' bs S') ∧ Aside0 (∀ x, x ∈ S'.map (·.1) ↔ x ∈ S.map (·.1) ∨ (x ∈ M.map (·.1) ∧ x ∉ L.map (·.1))) ∧ Aside0 (S'.length + L.length ≤ S.length + M.length) ∧ Aside0 (Below w.heap.size w w'))
   case atStart => exact ⟨M, S, ⟨rfl⟩, HR, HS, ⟨fun x => ⟨fun h => .inl h, fun h => h.elim id (fun h => absurd h.1 h.2)⟩⟩, ⟨Nat.le_refl _⟩, HB⟩
   case round =>
    clear HR HS HB hx1
    obtain ⟨L, S', HK2, HR, HS2, HV2, HZ2, HB⟩ := hrel
    go_wp2_with (at_next; refine wpList_next_M (enc := enc) _ rfl _ rfl bm r M L rfl HR.out ?_ ?_)
    ·intro hL0
     subst hL0
     go_wp2
     go_roundg go
     case measure => omega
     case rel => exact ⟨i + 1, S', by rw [show wrap64 ((i : Int) + 1) = ((i + 1 : Nat) : Int) from by have := HN.out; unfold wrap64; omega], ⟨by omega⟩, HS2, ⟨fun x => by
      rw [HV2.out x, HV.out x, HT.out.1]
      simp⟩, ⟨by have := HZ2.out; have := HZ.out; have := HT.out.2; simp only [List.length_nil] at *; omega⟩, HB⟩
    ·intro w5 cm
     obtain ⟨L1, pk, px, L2, hL, hR2, hg2, hen⟩ := cm
     dsimp only
     subst hL
     have HG2 := Aside0.mk hg2
     have HR2 := Aside0.mk hR2
     have HKK := Aside0.mk (show pk ∈ M.map (·.1) ∧ pk ∉ (L1 ++ L2).map (·.1) from by
      have hk := HR.out.keys
      refine ⟨hk.subset (by simp), ?_⟩
      have hnd := (hk.nodup HR.out.map.nodup)
      simp only [List.map_append, List.map_cons] at hnd ⊢
      exact nodup_mid hnd)
     clear hg2 hR2
     go_wp2_with (at_mapUpdate; refine wpList_store_M (enc := Value.bool) _ rfl _ _ _ 184 rfl 9 4 Tryd.underlying184 Tryd.underlying9 bs S' rfl (HS2.out.kept HG2.out (ne_some (Ne.symm NE.out.1))) pk rfl true rfl ?_; intro w6 hS3 hg3 hs3; have HS3 := Aside0.mk hS3; have HG3 := Aside0.mk hg3; clear hS3 hg3 hs3)
     go_roundg (gk - 1)
     case measure => have := HK2.out; simp only [List.length_append, List.length_cons] at this; omega
     case rel => exact ⟨L1 ++ L2, _, ⟨by have := HK2.out; simp only [List.length_append, List.length_cons] at this ⊢; omega⟩, ⟨HR2.out.kept HG3.out (ne_some NE.out.2) (ne_some NE.out.1)⟩, HS3, ⟨fun x => by
      rw [mput_map, HV2.out x]
      exact collect_step (p := (pk, px)) HKK.out.1 HKK.out.2 x⟩, ⟨by have := HZ2.out; have := mput_len pk true S'; simp only [List.length_append, List.length_cons] at *; omega⟩, ⟨below_own (below_own HB.out HG2.out GR.out) HG3.out GS.out⟩⟩
  ·have c1 : decide ((i : Int) < (Ms.length : Int)) = false := decide_eq_false (by omega)
   have c3 : decide (i < Ms.length) = false := decide_eq_false hi
   obtain rfl : i = Ms.length := by omega
   have HV' := Aside0.mk HV.out
   rw [List.take_length] at HV'
   have HZ' := Aside0.mk HZ.out
   rw [List.take_length] at HZ'
   clear HV HZ
   have HSL := Aside0.mk HS.out.lt
   go_wp2_with (at_range; refine wpList_range_M (enc := Value.bool) _ rfl _ 184 rfl 9 4 Tryd.underlying184 bs S rfl HS.out ?_; intro r w3 hr hR hg; have hrs := below_size HB.out; refine Ya4 hR (below_none HB.out hg) (show w.heap.size ≤ r from by omega) (show bs ≠ r from by have := HSL.out; omega) ?_; clear HS HB; intro HR HB GR NE; clear hR hr hg hrs)
   (try go_frame)
   go_loopg [7] (S.length) (fun kq v7 w' => ∃ (L : List (ByteArray × Bool)) (out : List ByteArray) (vo : Value), vo = v7 ∧ Aside0 (kq = L.length) ∧ Aside0 (RngAt Value.bool w' bs r S L) ∧ Aside0 (Kd.R Kd.string 9 w' w.heap.size (fun k => k ≠ bs ∧ k ≠ r) vo out) ∧ Aside0 ((out ++ L.map (·.1)).Perm (S.map (·.1))) ∧ Aside0 (Below w.heap.size w w'))
   case atStart => exact ⟨S, [], _, rfl, ⟨rfl⟩, HR, ⟨Kd.R_nil _ _ _ _ _⟩, ⟨by rw [List.nil_append]⟩, HB⟩
   case round =>
    clear HR HB
    obtain ⟨L, out, vo, rfl, HK2, HR, HO, HP, HB⟩ := hrel
    have HOL := Aside0.mk (show out.length + L.length = S.length from by have := HP.out.length_eq; simpa using this)
    go_wp2_with (at_next; refine wpList_next_M (enc := Value.bool) _ rfl _ rfl bs r S L rfl HR.out ?_ ?_)
    ·intro hL0
     subst hL0
     have HPP := Aside0.mk (show out.Perm (S.map (·.1)) from by have := HP.out; simpa using this)
     have HND := Aside0.mk (HPP.out.nodup_iff.2 HR.out.map.nodup)
     have HXX := Aside0.mk (sorted_keys out (allK Ms) HND.out (fun x => (HPP.out.mem_iff).trans (HV'.out x)))
     have HLL := Aside0.mk (show out.length ≤ 1000000 from by have := HOL.out; have := HZ'.out; have := HL.out; simp only [List.length_nil] at *; omega)
     clear HP HPP HND HOL HK2
     obtain ⟨A, cp, hv⟩ := Kd.R_slice HO.out
     by_cases h0 : out.length = 0
     ·have hk0 : keysS (allK Ms) = [] := by
       have := HXX.out
       rw [List.length_eq_zero_iff.1 h0] at this
       simpa using this.symm
      have HO' := Aside0.mk (show Kd.R Kd.string 9 wr w.heap.size (fun _ => True) vo (keysS (allK Ms)) from by rw [hk0, ← List.length_eq_zero_iff.1 h0]; exact Kd.R_mono HO.out (fun _ _ => trivial))
      have HV0 := Aside0.mk hv
      rw [h0] at hv
      subst hv
      have hs : ∀ W, Calls Tryd.prog 154 #[.slice A 0 cp] W fun e w' => e = .returned (.tuple #[]) ∧ w' = W := fun W => Tryd.sort_Strings_none A cp W
      clear hk0 h0 HV0
      have HSN := Aside0.mk hs
      clear hs
      go_wp2_with (go_at_call 154; (with_reducible refine (HSN.out _).mono ?_); rintro e w' ⟨rfl, rfl⟩)
      go_ret
      exact ⟨_, rfl, HO'.out, HB.out⟩
     ·obtain ⟨g, cap, hv2, hbase, hlt, cells, hcell⟩ := Kd.R_form HO.out (by omega)
      have hown := strs_opened HO.out
      rcases hown.2 with ⟨hnil, hnl⟩ | ⟨g', cap', cur, hv3, hb1, hb2, hb3, hb4, hb5, hb6⟩
      ·exact absurd hnl h0
      rw [hv3] at hv2
      injection hv2 with ha _ hcp
      injection ha with ha
      injection ha with ha
      subst ha
      subst hcp
      have hH : Go.Sort.Holds Go.Proofs.encStr wr g' 0 (out.map fun k => k.data.toList).toArray := holds_of_block hb2 (by
       rw [List.length_map, List.map_map]
       rw [Nat.mul_one] at hb6
       rw [hb6]
       exact List.map_congr_left (fun k _ => by simp))
      have hz : (out.map fun k => k.data.toList).length < 4611686018427387904 := Nat.lt_of_le_of_lt (Nat.le_of_eq (List.length_map _)) (Nat.lt_of_le_of_lt HLL.out (by decide))
      have hgb := blk_lt hb2
      have hso := Tryd.sort_Strings g' 0 cap' (out.map fun k => k.data.toList) wr hH hgb hz
      rw [HXX.out, List.length_map] at hso
      have hlen : (keysS (allK Ms)).length = out.length := by
       have := congrArg List.length HXX.out
       simpa using this.symm
      have HFIN := Aside0.mk (fun (nn : Nat) (os : Array Obj) => strs_closed (w := wr) (n := nn) (os := os) (l := out) (ks := keysS (allK Ms)) hlen hb1 hb2 hb3 hb4 (by omega))
      have HSO := Aside0.mk hso
      have HGB := Aside0.mk hb1
      subst hv3
      clear hz hgb
      clear hv hso hH hlen hb1 hb2 hb3 hb4 hb5 hb6 hown hcell hlt hbase h0
      go_wp2_with (go_at_call 154; (with_reducible refine HSO.out.mono ?_); rintro e w' ⟨rfl, nn, os, rfl⟩)
      go_ret
      exact ⟨_, rfl, (HFIN.out nn os).1, pw_below_grown HB.out _ HB.out.size (HFIN.out nn os).2 (fun k e => by cases e; exact HGB.out)⟩
    ·intro w5 cm
     obtain ⟨L1, pk, px, L2, hL, hR2, hg2, hen⟩ := cm
     dsimp only
     subst hL
     have HB2 := Aside0.mk (below_own HB.out hg2 GR.out)
     have HO2 := Aside0.mk (Kd.R_grown HO.out hg2 (fun k hk e => hk.2 (Option.some.inj e)))
     have HR2 := Aside0.mk hR2
     have HLB := Aside0.mk (show bs < w5.heap.size ∧ r < w5.heap.size from ⟨hR2.map.lt, hR2.lt⟩)
     have HOZ := Aside0.mk (show (out.length + 1) * 16 ≤ 140737488355328 from by have := HOL.out; have := HZ'.out; have := HL.out; simp only [List.length_append, List.length_cons] at *; omega)
     clear hg2 hR2
     go_wp2_with (first | ((with_reducible refine gate_builtin (b := .append) (xs := #[.tmp 31, .tmp 33]) rfl ?_); at_builtin; refine Kd.R_append Kd.string (w0 := w) w.heap.size rfl (.tmp 31) (.tmp 33) 50 9 (.string ⟨#[]⟩) 16 rfl Tryd.underlying50 info9 rfl (by decide) (by omega) vo out pk [.string pk] (fun k => k ≠ bs ∧ k ≠ r) (fun _ => False) rfl rfl rfl (fun _ hk => hk.elim) (fun k hk => by have := HLB.out; constructor <;> omega) HO2.out HB2.out (below_size HB2.out) HOZ.out ?_; intro v1 w6 ho hb hg hat; have HO3 := Aside0.mk ho; have HB3 := Aside0.mk hb; have HR3 := Aside0.mk (HR2.out.kept hg (fun e => (HO2.out.1 _ e.symm).1 rfl) (fun e => (HO2.out.1 _ e.symm).2 rfl)); clear ho hb hg hat))
     go_roundg (gk - 1)
     case measure => have := HK2.out; simp only [List.length_append, List.length_cons] at this; omega
     case rel => exact ⟨L1 ++ L2, out ++ [pk], _, rfl, ⟨by have := HK2.out; simp only [List.length_append, List.length_cons] at this ⊢; omega⟩, HR3, HO3, ⟨by
      refine List.Perm.trans ?_ HP.out
      simp only [List.map_append, List.map_cons, List.append_assoc, List.singleton_append]
      exact List.Perm.append_left out List.perm_middle.symm⟩, HB3⟩


end Go.Proofs.YtgnmledjkamojaaDoor.P


namespace Go.Proofs.YtgnmledjkamojaaDoor.P
open Go.RowKit Go.Proofs.YtgnmledjkamojaaDoorW.PrintWords Go.Proofs.YtgnmledjkamojaaDoorW.PrintLast Go.Proofs.YtgnmledjkamojaaDoorW.PrintMore
attribute [local go_sem] max2_int min2_int max_two min_two max_three min_three max_four min_four
set_option linter.unusedVariables false
set_option linter.unusedSimpArgs false

/-! ### impl_files: function 98 -/
/- Walked by hand. -/
/-- What lies under a path: is it there, its text, does it run. -/
abbrev FileT := Bool × ByteArray × Bool
def encF (x : FileT) : Value := .agg #[.bool x.1, .string x.2.1, .bool x.2.2]
def noF : FileT := (false, ByteArray.empty, false)
def fileE (e : S37) : FileT := (true, e.f1, e.f2)
def filesFrom (M : List (ByteArray × FileT)) (l : List S37) : List (ByteArray × FileT) := l.foldl (fun M e => mput e.f0 (fileE e) M) M
def filesM (l : List S37) : List (ByteArray × FileT) := filesFrom [] l
def sameF (x y : FileT) : Bool := x.1 == y.1 && (x.2.1.toList == y.2.1.toList && (x.2.2 == y.2.2))
theorem filesFrom_len : ∀ (l : List S37) (M : List (ByteArray × FileT)), (filesFrom M l).length ≤ M.length + l.length
 | [], M => Nat.le_refl _
 | e :: r, M => by
  have h1 := filesFrom_len r (mput e.f0 (fileE e) M)
  have h2 := mput_len e.f0 (fileE e) M
  show (filesFrom (mput e.f0 (fileE e) M) r).length ≤ M.length + (r.length + 1)
  omega
theorem filesM_len (l : List S37) : (filesM l).length ≤ l.length := by
 have := filesFrom_len l []
 simpa [filesM] using this
theorem encF_zero (w : World) : (zeroValue 122).run Tryd.prog w = .ok (encF noF) w := by
 unfold encF noF
 kernel_rfl
set_option maxHeartbeats 2000000 in
set_option maxRecDepth 100000 in
theorem impl_files.calls (A0 : Option Addr) (c0 : Nat) (l0 : List S37) (w : World) (hr0 : Kd.C k37 w A0 l0.length l0) (hl : l0.length ≤ 1000000) :
  Calls Tryd.prog 98 #[.agg #[.slice A0 l0.length c0]] w fun e w' => ∃ b, e = .returned (.map (some b)) ∧ w.heap.size ≤ b ∧ MapAt encF w' b (filesM l0) ∧ Below w.heap.size w w' := by
 have hu28 := Tryd.underlying28
 have hu37 := Tryd.underlying37
 have HR := Aside0.mk hr0
 have HL := Aside0.mk hl
 have HB := Aside0.mk (Below.refl w.heap.size w)
 clear hr0 hl
 go_enter Tryd.func98, Tryd.ntmps98
 go_wp2_with (first | ((with_reducible refine gd 1 rfl ?_); refine bx 1 28 (#[.slice A0 l0.length c0]) ?_; intro b1 hg w1 hbox hb; refine Ya3 hbox (below_step (be HB.out) hb) (bs hg (be HB.out)) ?_; clear HB; intro B1 HB G1; clear hb hbox hg; have ⟨hcz1, hfz1⟩ := Yc1 B1.out) | ((with_reducible refine gd 6 rfl ?_); go_loud (refine wpList_make_M encF _ rfl _ rfl ?_); intro bm w2 hg hM hb; refine Ya4 hM (below_step (be HB.out) hb) (bs hg (be HB.out)) (bb B1 hb) ?_; clear HB B1; intro HM HB GM B1; clear hM hb hg hcz1 hfz1; have ⟨hcz1, hfz1⟩ := Yc1 B1.out))
 go_loopg [10] (l0.length) (fun kq v10 w' => ∃ (i : Nat) (M : List (ByteArray × FileT)), v10 = .int .i64 (i : Int) ∧ Aside0 (filesFrom M (l0.drop i) = filesM l0) ∧ Aside0 (kq + i = l0.length) ∧ Aside0 (MapAt encF w' bm M) ∧ Aside0 (Below w.heap.size w w'))
 case atStart => exact ⟨0, [], rfl, ⟨by rw [List.drop_zero]; rfl⟩, ⟨by omega⟩, HM, HB⟩
 case round =>
  clear HM HB B1 hcz1 hfz1
  obtain ⟨i, M, rfl, HA, HK, HM, HB⟩ := hrel
  have H := HA.out
  have hik := HK.out
  clear HA
  by_cases hi : i < l0.length
  ·have c1 : decide ((i : Int) < (l0.length : Int)) = true := decide_eq_true (by omega)
   have c2 : decide (0 ≤ (i : Int)) = true := decide_eq_true (by omega)
   have c3 : decide (i < l0.length) = true := decide_eq_true hi
   rw [List.drop_eq_getElem_cons hi] at H
   obtain ⟨ad, e1, hx0⟩ := at_T37 (Kd.C_below HR.out HB.out) (i : Int) (by omega) (by omega)
   subst e1
   obtain ⟨hx1, hx2, hx3⟩ := hx0
   have er : rd_T37 l0 (i : Int) = l0[i] := by
    unfold rd_T37
    rw [Int.toNat_natCast, List.getD_eq_getElem?_getD, List.getElem?_eq_getElem hi]
    rfl
   rw [er] at hx1 hx2 hx3
   rw [Int.toNat_natCast] at hx1 hx2 hx3
   clear er
   generalize l0[i] = en at H hx1 hx2 hx3
   have H' := Aside0.mk H
   clear H
   have HLT := Aside0.mk HM.out.lt
   go_wp2_with (first | ((with_reducible refine gd 5 rfl ?_); refine bx 5 37 (#[.string ByteArray.empty, .string ByteArray.empty, .bool false]) ?_; intro b5 hg w3 hbox hb; refine Ya4 hbox (below_step (be HB.out) hb) (bs hg (be HB.out)) (HM.out.below hb HM.out.lt) ?_; have HN := Aside0.mk (show bm ≠ b5 from by have := HLT.out; omega); clear HB HM; intro B5 HB G5 HM; clear hb hbox hg; have ⟨hcz1, hcz2, hcz3, hfz1, hfz2, hfz3⟩ := Yc3 B5.out) | (at_mapUpdate; go_loud (refine wpList_store_M (enc := encF) _ rfl _ _ _ 126 rfl 9 122 Tryd.underlying126 Tryd.underlying9 bm M rfl (HM.out.kept (set3 B5.out rfl).2.1 (ne_some HN.out)) en.f0 rfl (fileE en) rfl ?_); intro w5 hM2 hg2 hs2; have HM2 := Aside0.mk hM2; have HB2 := Aside0.mk (below_own (below_own HB.out (set3 B5.out rfl).2.1 G5.out) hg2 GM.out); clear HM HB hM2 hg2 hs2))
   go_roundg (gk - 1)
   case measure => omega
   case rel => exact ⟨i + 1, _, by rw [show wrap64 ((i : Int) + 1) = ((i + 1 : Nat) : Int) from by have := HL.out; unfold wrap64; omega], H', ⟨by omega⟩, HM2, HB2⟩
  ·have c1 : decide ((i : Int) < (l0.length : Int)) = false := decide_eq_false (by omega)
   have c3 : decide (i < l0.length) = false := decide_eq_false hi
   rw [List.drop_of_length_le (by omega)] at H
   go_wp2
   go_ret
   exact ⟨bm, rfl, GM.out, by rw [← H]; exact HM.out, HB.out⟩


end Go.Proofs.YtgnmledjkamojaaDoor.P


namespace Go.Proofs.YtgnmledjkamojaaDoor.P
open Go.RowKit Go.Proofs.YtgnmledjkamojaaDoorW.PrintWords Go.Proofs.YtgnmledjkamojaaDoorW.PrintLast Go.Proofs.YtgnmledjkamojaaDoorW.PrintMore
attribute [local go_sem] max2_int min2_int max_two min_two max_three min_three max_four min_four
set_option linter.unusedVariables false
set_option linter.unusedSimpArgs false

/-! ### impl_tree: function 110 -/
/- Walked by hand. -/
open Go.Proofs.YtgnmledjkamojaaDoor.Pure
def treeG (M : List (ByteArray × FileT)) (k : ByteArray) : Option S37 := if (mget noF k M).1 = true then some ⟨k, (mget noF k M).2.1, (mget noF k M).2.2⟩ else none
def treeM (M : List (ByteArray × FileT)) : List S37 := (keysS (M.map (·.1))).filterMap (treeG M)
theorem MapAt.frame {α : Type} {enc : α → Value} {w0 w : World} {b bx : Nat} {M : List (ByteArray × α)} (h : MapAt enc w0 b M) (hf : FrameBut w0 bx w) (hn : b ≠ bx) : MapAt enc w b M := by
 obtain ⟨es, clock, hb, rest⟩ := h
 exact ⟨es, clock, hf.blk hb hn, rest⟩
theorem strs_frame {w0 w : World} {bx base : Nat} {v : Value} {l : List ByteArray} (h : Kd.R Kd.string 9 w0 base (fun k => k ≠ bx) v l) (hf : FrameBut w0 bx w) : Kd.R Kd.string 9 w base (fun k => k ≠ bx) v l :=
 Kd.R_step h (fun k hk hlt => hf.2 k hlt hk)
theorem allK_one {α : Type} (b : Nat) (M : List (ByteArray × α)) : allK [(b, M)] = M.map (·.1) := by simp [allK]
theorem cell_one {α : Type} (b t : Nat) (M : List (ByteArray × α)) (W : World) : ∀ i, (h : i < [(b, M)].length) → (W.alloc (.cells #[.map (some b)] t)).cell? (Addr.add ⟨W.heap.size, 0, none⟩ i) = some (.map (some [(b, M)][i].1)) := by
 intro i h
 obtain rfl : i = 0 := by simpa using h
 simp [Addr.add]
set_option maxHeartbeats 4000000 in
set_option maxRecDepth 100000 in
theorem tree_calls (M : List (ByteArray × FileT)) (b : Nat) (w : World) (hM : MapAt encF w b M) (hl : M.length ≤ 1000000) :
  Calls Tryd.prog 110 #[.map (some b)] w fun e w' => ∃ v0_ : Value, e = .returned (.agg #[v0_]) ∧ Kd.R k37 37 w' w.heap.size (fun _ => True) v0_ (treeM M) ∧ Below w.heap.size w w' := by
 have hu28 := Tryd.underlying28
 have hu37 := Tryd.underlying37
 have hu122 := Tryd.underlying122
 have HM := Aside0.mk hM
 have HL := Aside0.mk hl
 have HB := Aside0.mk (Below.refl w.heap.size w)
 clear hM hl
 go_enter Tryd.func110, Tryd.ntmps110
 go_wp2_with (first | ((with_reducible refine gd 2 rfl ?_); refine bx 2 28 (#[.slice none 0 0]) ?_; intro b2 hg w1 hbox hb; refine Ya3 hbox (below_step (be HB.out) hb) (bs hg (be HB.out)) ?_; clear HB; intro B2 HB G2; clear hb hbox hg) | ((with_reducible refine gd 3 rfl ?_); refine bx 3 28 (#[.slice none 0 0]) ?_; intro b3 hg w2 hbox hb; have HN := Aside0.mk (show b2 ≠ b3 from by have := blk_lt B2.out; omega); refine Ya4 hbox (below_step (be HB.out) hb) (bs hg (be HB.out)) (bb B2 hb) ?_; clear HB B2; intro B3 HB G3 B2; clear hb hbox hg) | (go_at_call 99; go_loud (refine (keysFile_calls encF [(b, M)] ⟨w2.heap.size, 0, none⟩ 1 _ (cell_one b 126 M w2) (fun i h => by obtain rfl : i = 0 := (by simpa using h); exact (HM.out.below HB.out HM.out.lt).alloc _) (by simp) (by simp [sizeK]; exact HL.out)).mono ?_; rintro e w4 ⟨v, rfl, hR, hb⟩; rw [allK_one] at hR; obtain ⟨A, cp, rfl⟩ := Kd.R_slice hR; have HB2 := Aside0.mk (below_step (below_alloc HB.out _) hb); have hb3 := blk_lt B3.out; have HR := Aside0.mk (Kd.R_mono (Kd.R_bound hR) (ok' := fun k => k ≠ b3) (fun k hk => by have h1 := hk.2.1; simp at h1; omega)); have B2' := Aside0.mk (bb B2 hb); have B3' := Aside0.mk (bb B3 hb); clear hb3 HB B2 B3 hR hb)))
 have ⟨hcz3, hfz3⟩ := Yc1 B3'.out
 have HK := Aside0.mk (keysS_len (M.map (·.1)))
 have HT0 := Aside0.mk (show ([] : List S37) ++ ((keysS (M.map (·.1))).drop 0).filterMap (treeG M) = treeM M from rfl)
 have HMl := Aside0.mk HM.out.lt
 have HM4 := Aside0.mk (HM.out.below HB2.out HMl.out)
 have HG4 := Aside0.mk (show b < w4.heap.size ∧ b ≠ b3 ∧ b2 ≠ b3 from by have := HMl.out; have := G3.out; have := HB2.out.size; have := HN.out; exact ⟨by omega, by omega, by omega⟩)
 have HLK := Aside0.mk (show (keysS (M.map (·.1))).length ≤ 1000000 from Nat.le_trans HK.out (by rw [List.length_map]; exact HL.out))
 have HW4 := Aside0.mk HB2.out.size
 clear HM HMl HK HN
 generalize keysS (M.map (·.1)) = ks at HR HT0 HLK ⊢
 go_loopg [11] (ks.length) (fun kq v11 w' => ∃ (i : Nat) (out : List S37) (vo : Value), v11 = .int .i64 (i : Int) ∧ Aside0 (kq + i = ks.length) ∧ Aside0 (out.length ≤ i) ∧ Aside0 (out ++ (ks.drop i).filterMap (treeG M) = treeM M) ∧ Aside0 (Kd.R k37 37 w' w.heap.size (fun k => w4.heap.size ≤ k) vo out) ∧ Aside0 (w'.heap[b3]? = some (.cells #[vo] 28 (0, 0))) ∧ Aside0 (FrameBut w4 b3 w') ∧ Aside0 (Below w.heap.size w w'))
 case atStart => exact ⟨0, [], .slice none 0 0, rfl, ⟨by omega⟩, ⟨Nat.le_refl _⟩, HT0, ⟨Kd.R_nil _ _ _ _ _⟩, B3', ⟨FrameBut.refl _ _⟩, HB2⟩
 case round =>
  clear HT0 HB2 hcz3 hfz3
  obtain ⟨i, out, vo, rfl, HK, HOI, HA, HO, HX, HF, HB⟩ := hrel
  have hik := HK.out
  have ⟨hcz3, hfz3⟩ := Yc1 HX.out
  by_cases hi : i < ks.length
  ·have c1 : decide ((i : Int) < (ks.length : Int)) = true := decide_eq_true (by omega)
   have c2 : decide (0 ≤ (i : Int)) = true := decide_eq_true (by omega)
   have c3 : decide (i < ks.length) = true := decide_eq_true hi
   have HRw := strs_frame HR.out HF.out
   obtain ⟨ad, e1, hx1⟩ := Kd.at_string (Kd.R_reads' HRw).2.2 (i : Int) (by omega) (by omega)
   cases e1
   have er : rdOf ByteArray.empty ks (i : Int) = ks[i] := by
    unfold rdOf
    rw [Int.toNat_natCast, List.getD_eq_getElem?_getD, List.getElem?_eq_getElem hi]
    rfl
   rw [er, Int.toNat_natCast] at hx1
   have H := HA.out
   rw [List.drop_eq_getElem_cons hi] at H
   have HMw := Aside0.mk (HM4.out.frame HF.out HG4.out.2.1)
   clear HRw er
   generalize ks[i] = kk at H hx1
   obtain ⟨f0, f1, f2, hf⟩ : ∃ f0 f1 f2, mget noF kk M = (f0, f1, f2) := ⟨_, _, _, rfl⟩
   have hu : encF (mget noF kk M) = .agg #[.bool f0, .string f1, .bool f2] := by rw [hf]; rfl
   have HU := Aside0.mk hu
   have hg : treeG M kk = if f0 = true then some ⟨kk, f1, f2⟩ else none := by unfold treeG; rw [hf]
   rw [List.filterMap_cons, hg] at H
   clear hf hu hg
   have B3lt := Aside0.mk (show b3 < w4.heap.size from blk_lt B3'.out)
   cases f0 with
   | false =>
    have H' := Aside0.mk (show out ++ (ks.drop (i + 1)).filterMap (treeG M) = treeM M from H)
    clear H
    go_wp2_with (first | (at_lookup; refine wpList_look_M (enc := encF) _ rfl _ _ 126 rfl 9 122 Tryd.underlying126 Tryd.underlying9 noF (encF_zero _) b M rfl HMw.out kk rfl _ HU.out ?_) | ((with_reducible refine gd 6 rfl ?_); refine bx 6 122 (#[.bool false, .string ByteArray.empty, .bool false]) ?_; intro b6 hg w5 hbox hb; have HF2 := Aside0.mk (HF.out.below hb); have HO2 := Aside0.mk (Kd.R_mono (ok' := fun k => w4.heap.size ≤ k ∧ k ≠ b6) (Kd.R_below (Kd.R_bound HO.out) hb) (fun k hk => ⟨hk.1, by have := hk.2.2.1; omega⟩)); have HX2 := Aside0.mk (bb HX hb); have B6 := Aside0.mk hbox; have HB2 := Aside0.mk (below_step (be HB.out) hb); have G6 := Aside0.mk (show w4.heap.size ≤ b6 from by rw [hg]; exact HF.out.1); clear hb hbox hg; have ⟨hdz1, hdz2, hdz3, hez1, hez2, hez3⟩ := Yc3 B6.out; have ⟨hcz4, hfz4⟩ := Yc1 HX2.out))
    go_roundg (gk - 1)
    case measure => omega
    case rel => exact ⟨i + 1, out, vo, by rw [show wrap64 ((i : Int) + 1) = ((i + 1 : Nat) : Int) from by have := HLK.out; unfold wrap64; omega], ⟨by omega⟩, ⟨by have := HOI.out; omega⟩, H', ⟨Kd.R_mono (Kd.R_grown HO2.out (set3 B6.out rfl).2.1 (fun k hk e => hk.2 (Option.some.inj e))) (fun k hk => hk.1)⟩, ⟨blk_grown HX2.out (set3 B6.out rfl).2.1 (ne_some (by have := B3lt.out; have := G6.out; omega))⟩, ⟨HF2.out.grown (set3 B6.out rfl).2.1 (fun k e => by cases e; exact .inl G6.out)⟩, ⟨below_own HB2.out (set3 B6.out rfl).2.1 (by have := G6.out; have := HW4.out; omega)⟩⟩
   | true =>
    have H' := Aside0.mk (show (out ++ [⟨kk, f1, f2⟩]) ++ (ks.drop (i + 1)).filterMap (treeG M) = treeM M from by rw [List.append_assoc]; exact H)
    clear H
    obtain ⟨A0, cp0, rfl⟩ := Kd.R_slice HO.out
    have HZZ := Aside0.mk (show (out.length + 1) * 40 ≤ 140737488355328 from by have := HOI.out; have := HLK.out; omega)
    go_wp2_with (first | (at_lookup; refine wpList_look_M (enc := encF) _ rfl _ _ 126 rfl 9 122 Tryd.underlying126 Tryd.underlying9 noF (encF_zero _) b M rfl HMw.out kk rfl _ HU.out ?_) | ((with_reducible refine gd 6 rfl ?_); refine bx 6 122 (#[.bool false, .string ByteArray.empty, .bool false]) ?_; intro b6 hg w5 hbox hb; have HF2 := Aside0.mk (HF.out.below hb); have HO2 := Aside0.mk (Kd.R_mono (ok' := fun k => w4.heap.size ≤ k ∧ k ≠ b6) (Kd.R_below (Kd.R_bound HO.out) hb) (fun k hk => ⟨hk.1, by have := hk.2.2.1; omega⟩)); have HX2 := Aside0.mk (bb HX hb); have B6 := Aside0.mk hbox; have HB2 := Aside0.mk (below_step (be HB.out) hb); have G6 := Aside0.mk (show w4.heap.size ≤ b6 from by rw [hg]; exact HF.out.1); clear hb hbox hg; have ⟨hdz1, hdz2, hdz3, hez1, hez2, hez3⟩ := Yc3 B6.out; have ⟨hcz4, hfz4⟩ := Yc1 HX2.out; have N36 := Aside0.mk (show b3 ≠ b6 from by have := B3lt.out; have := G6.out; omega); have hne1 := eq_false N36.out; have hne2 := eq_false (Ne.symm N36.out); have G6w := Aside0.mk (show w.heap.size ≤ b6 from by have := G6.out; have := HW4.out; omega)) | ((with_reducible refine gate_builtin (b := .append) (xs := #[.tmp 21, .tmp 28]) rfl ?_); at_builtin; go_loud (refine Kd.R_append k37 (w0 := w) w.heap.size rfl (.tmp 21) (.tmp 28) 26 37 (.agg #[(.string ⟨#[]⟩), (.string ⟨#[]⟩), (.bool false)]) 40 rfl Tryd.underlying26 info37 rfl (by decide) (by omega) (.slice A0 out.length cp0) out (⟨kk, f1, f2⟩ : S37) [.string kk, .string f1, .bool f2] (fun k => w4.heap.size ≤ k) (fun _ => False) rfl (by show Value.slice (some ⟨w5.heap.size, 0, none⟩) 1 1 = _; simp only [size_set]) (k37_mkM _ _ _ ⟨kk, f1, f2⟩) (fun _ hk => hk.elim) (fun k hk => by have h1 := (set3 (w' := (((w5.setCell ⟨b6, 0, none⟩ (.bool true)).setCell ⟨b6, 1, none⟩ (.string f1)).setCell ⟨b6, 2, none⟩ (.bool f2))) B6.out rfl).2.2; have h2 := HF2.out.1; omega) (Kd.R_mono (Kd.R_grown HO2.out (set3 B6.out rfl).2.1 (fun k hk e => hk.2 (Option.some.inj e))) (fun k hk => hk.1)) (below_own HB2.out (set3 B6.out rfl).2.1 G6w.out) (below_size (below_own HB2.out (set3 B6.out rfl).2.1 G6w.out)) HZZ.out ?_; intro v1 w7 ho hb hg hat; obtain ⟨A7, c7, rfl⟩ := Kd.R_slice ho; rw [show (out ++ [(⟨kk, f1, f2⟩ : S37)]).length = out.length + 1 from by simp] at ho; have HO3 := Aside0.mk ho; have HB3 := Aside0.mk hb; have HX3 := Aside0.mk (blk_grown (blk_grown HX2.out (set3 B6.out rfl).2.1 (ne_some N36.out)) hg (fun e => absurd (HO2.out.1 _ e.symm).1 (by have := HG4.out; have := B3lt.out; omega))); have HF3 := Aside0.mk ((HF2.out.grown (set3 B6.out rfl).2.1 (fun k e => by cases e; exact .inl G6.out)).grown hg (fun k e => .inl (HO2.out.1 _ e).1)); clear ho hb hg hat; have ⟨hyz3, hyf3⟩ := Yc1 HX3.out)))
    go_roundg (gk - 1)
    case measure => omega
    case rel => exact ⟨i + 1, out ++ [⟨kk, f1, f2⟩], _, by rw [show wrap64 ((i : Int) + 1) = ((i + 1 : Nat) : Int) from by have := HLK.out; unfold wrap64; omega], ⟨by omega⟩, ⟨by have := HOI.out; rw [List.length_append, List.length_singleton]; omega⟩, H', ⟨Kd.R_grown HO3.out (grown_set _ b3 0 _) (fun k hk e => by have := B3lt.out; have := Option.some.inj e; omega)⟩, ⟨(set1 HX3.out rfl).1⟩, ⟨HF3.out.grown (grown_set _ b3 0 _) (fun k e => by cases e; exact .inr rfl)⟩, ⟨below_own HB3.out (grown_set _ b3 0 _) G3.out⟩⟩
  ·have c1 : decide ((i : Int) < (ks.length : Int)) = false := decide_eq_false (by omega)
   have c3 : decide (i < ks.length) = false := decide_eq_false hi
   have H := HA.out
   rw [List.drop_of_length_le (by omega), List.filterMap_nil, List.append_nil] at H
   subst H
   obtain ⟨A0, cp0, rfl⟩ := Kd.R_slice HO.out
   have HB2w := Aside0.mk (HF.out.blk B2'.out HG4.out.2.2)
   have ⟨hbz, hbf⟩ := Yc1 HB2w.out
   go_wp2
   refine bodyPost_ret (results_cell_row rfl _ _ b2 28 #[.slice A0 (treeM M).length cp0] (0, 0) _ rfl (by refine blk_put (cs := #[.slice none 0 0]) ?_ 0 _ rfl; exact HB2w.out) Tryd.underlying28 rfl (by kernel_rfl)) rfl ?_
   exact ⟨_, rfl, Kd.R_mono (Kd.R_grown HO.out (grown_set _ b2 0 _) (fun k hk e => by have := blk_lt B2'.out; have := Option.some.inj e; omega)) (fun _ _ => trivial), below_own HB.out (grown_set _ b2 0 _) G2.out⟩


end Go.Proofs.YtgnmledjkamojaaDoor.P


namespace Go.Proofs.YtgnmledjkamojaaDoor.P
open Go.RowKit Go.Proofs.YtgnmledjkamojaaDoorW.PrintWords Go.Proofs.YtgnmledjkamojaaDoorW.PrintLast Go.Proofs.YtgnmledjkamojaaDoorW.PrintMore
attribute [local go_sem] max2_int min2_int max_two min_two max_three min_three max_four min_four
set_option linter.unusedVariables false
set_option linter.unusedSimpArgs false

/-! ### impl_in: function 125 -/
def impl_in.f (a0 : Int) (a1 : Int) (a2 : Int) : Option (Bool) := if a0 ≥ a1 then (some (decide (a0 ≤ a2))) else (some false)
set_option maxHeartbeats 8000000 in
set_option maxRecDepth 100000 in
theorem impl_in.calls (a0 : Int) (a1 : Int) (a2 : Int) (r : Bool) (w : World) (h : impl_in.f a0 a1 a2 = some r) :
  Calls Tryd.prog 125 #[.int .i64 a0, .int .i64 a1, .int .i64 a2] w fun e w' => e = .returned (.bool r) ∧ Drawn0 w w' := by
 have H : (if a0 ≥ a1 then (some (decide (a0 ≤ a2))) else (some false)) = some r := h; clear h
 by_cases c4 : a0 ≥ a1
 ·rw [if_pos c4] at H
  have a3 : decide (a1 ≤ a0) = true := decide_eq_true c4; clear c4; obtain rfl := Option.some.inj H
  go_enter Tryd.func125, Tryd.ntmps125
  go_wp2
  go_ret
  exact ⟨Ye1, dz⟩
 ·rw [if_neg c4] at H
  have a3 : decide (a1 ≤ a0) = false := decide_eq_false c4; clear c4; obtain rfl := Option.some.inj H
  go_enter Tryd.func125, Tryd.ntmps125
  go_wp2
  go_ret
  exact ⟨Ye1, dz⟩

end Go.Proofs.YtgnmledjkamojaaDoor.P


namespace Go.Proofs.YtgnmledjkamojaaDoor.P
open Go.RowKit Go.Proofs.YtgnmledjkamojaaDoorW.PrintWords Go.Proofs.YtgnmledjkamojaaDoorW.PrintLast Go.Proofs.YtgnmledjkamojaaDoorW.PrintMore
attribute [local go_sem] max2_int min2_int max_two min_two max_three min_three max_four min_four
set_option linter.unusedVariables false
set_option linter.unusedSimpArgs false

/-! ### impl_goodPart: function 161 -/
mutual
def impl_goodPart.j0 : Nat → ByteArray → Bool → Bool → Option (Bool)
 | 0, _, _, _ => none
 | k + 1, x0, x1, x18 => if x18 = true then (some false) else (impl_goodPart.l0 k x0 x1 0)
def impl_goodPart.l0 : Nat → ByteArray → Bool → Int → Option (Bool)
 | 0, _, _, _ => none
 | k + 1, x0, x1, x5 => if x5 < (x0.size : Int) then (if 0 ≤ x5 then (if (bt x0 x5) < 33 then (some false) else (if (bt x0 x5) > 126 then (some false) else (if (bt x0 x5) = 34 then (some false) else (if (bt x0 x5) = 47 then (some false) else (if x1 = true then (impl_goodPart.l0 k x0 x1 (wrap64 (x5 + 1))) else (if (bt x0 x5) = 42 then (some false) else (if (bt x0 x5) = 63 then (some false) else (impl_goodPart.l0 k x0 x1 (wrap64 (x5 + 1)))))))))) else (none)) else (some true)
end
def impl_goodPart.f (k : Nat) (a0 : ByteArray) (a1 : Bool) : Option (Bool) := (impl_in.f (a0.size : Int) 1 20).bind fun a8 => (if a8 = true then (if a0.toList = ([46] : List UInt8) then (impl_goodPart.j0 k a0 a1 true) else (impl_goodPart.j0 k a0 a1 (a0.toList == ([46, 46] : List UInt8)))) else (impl_goodPart.j0 k a0 a1 true))
theorem impl_goodPart.mono_l : ∀ k, (∀ y0 y1 y2, LeO (impl_goodPart.j0 k y0 y1 y2) (impl_goodPart.j0 (k + 1) y0 y1 y2)) ∧ (∀ y0 y1 y2, LeO (impl_goodPart.l0 k y0 y1 y2) (impl_goodPart.l0 (k + 1) y0 y1 y2))
 | 0 => ⟨fun _ _ _ r h => by simp [impl_goodPart.j0] at h, fun _ _ _ r h => by simp [impl_goodPart.l0] at h⟩
 | k + 1 => by
  obtain ⟨ih0, ih1⟩ := impl_goodPart.mono_l k; refine ⟨?_, ?_⟩
  ·intro y0 y1 y2
   unfold impl_goodPart.j0
   repeat' first
   | (with_reducible exact ih0 _ _ _)
   | (with_reducible exact ih1 _ _ _)
   | (with_reducible exact LeO.refl _)
   | (with_reducible exact LeO.none _)
   | (with_reducible refine LeO.ite ?_ ?_)
   | (with_reducible refine LeO.bind ?_ (fun _ => ?_))
   | exact ih0 _ _ _
   | exact ih1 _ _ _
   | exact LeO.none _
   | refine LeO.ite ?_ ?_
   | refine LeO.bind ?_ (fun _ => ?_)
  ·intro y0 y1 y2
   unfold impl_goodPart.l0
   repeat' first
   | (with_reducible exact ih0 _ _ _)
   | (with_reducible exact ih1 _ _ _)
   | (with_reducible exact LeO.refl _)
   | (with_reducible exact LeO.none _)
   | (with_reducible refine LeO.ite ?_ ?_)
   | (with_reducible refine LeO.bind ?_ (fun _ => ?_))
   | exact ih0 _ _ _
   | exact ih1 _ _ _
   | exact LeO.none _
   | refine LeO.ite ?_ ?_
   | refine LeO.bind ?_ (fun _ => ?_)
theorem impl_goodPart.mono : ∀ a0 a1 k, LeO (impl_goodPart.f k a0 a1) (impl_goodPart.f (k + 1) a0 a1) := by
 intro a0 a1 k; obtain ⟨ih0, ih1⟩ := impl_goodPart.mono_l k
 unfold impl_goodPart.f
 repeat' first
   | (with_reducible exact ih0 _ _ _)
   | (with_reducible exact ih1 _ _ _)
   | (with_reducible exact LeO.refl _)
   | (with_reducible exact LeO.none _)
   | (with_reducible refine LeO.ite ?_ ?_)
   | (with_reducible refine LeO.bind ?_ (fun _ => ?_))
   | exact ih0 _ _ _
   | exact ih1 _ _ _
   | exact LeO.none _
   | refine LeO.ite ?_ ?_
   | refine LeO.bind ?_ (fun _ => ?_)
set_option maxHeartbeats 8000000 in
set_option maxRecDepth 100000 in
theorem impl_goodPart.calls (k : Nat) (a0 : ByteArray) (a1 : Bool) (r : Bool) (w : World) (h : impl_goodPart.f k a0 a1 = some r) :
  Calls Tryd.prog 161 #[.string a0, .bool a1] w fun e w' => e = .returned (.bool r) ∧ Drawn0 w w' := by
 have H : ((impl_in.f (a0.size : Int) 1 20).bind fun a8 => (if a8 = true then (if a0.toList = ([46] : List UInt8) then (impl_goodPart.j0 k a0 a1 true) else (impl_goodPart.j0 k a0 a1 (a0.toList == ([46, 46] : List UInt8)))) else (impl_goodPart.j0 k a0 a1 true))) = some r := h; clear h; have ad := Aside0.mk H; clear H
 go_enter Tryd.func161, Tryd.ntmps161
 go_upto_region 1 with (fail)
 go_cut [18] (fun v18 wc => ∃ (kq : Nat) (ab : Bool), v18 = .bool ab ∧ Aside0 (impl_goodPart.j0 kq a0 a1 ab = some r) ∧ Aside0 (kq ≤ k) ∧ Drawn0 w wc)
 case first =>
  have H := ad.out; clear ad; replace H := Option.bind_eq_some_iff.mp H; obtain ⟨a8, A40, H⟩ := H; replace H : (if a8 = true then (if a0.toList = ([46] : List UInt8) then (impl_goodPart.j0 k a0 a1 true) else (impl_goodPart.j0 k a0 a1 (a0.toList == ([46, 46] : List UInt8)))) else (impl_goodPart.j0 k a0 a1 true)) = some r := H; have A4 := Aside0.mk A40; clear A40
  by_cases c5 : a8 = true
  ·subst c5
   have H1 : (if a0.toList = ([46] : List UInt8) then (impl_goodPart.j0 k a0 a1 true) else (impl_goodPart.j0 k a0 a1 (a0.toList == ([46, 46] : List UInt8)))) = some r := by rw [if_pos rfl] at H; exact H
   clear H; have H := H1; clear H1
   by_cases c6 : a0.toList = ([46] : List UInt8)
   ·rw [if_pos c6] at H
    have a3 : (a0.toList == ([46] : List UInt8)) = true := beq_iff_eq.mpr c6; have ae : (a0.toList != ([46] : List UInt8)) = false := bne_eq_false_iff_eq.mpr c6; clear c6; (first | rw [a3] | (simp only [i64_w, i32_w]; rw [a3]) | skip); have H' := Aside0.mk H; clear H
    go_wp2_with (first | ((with_reducible refine gc 125 rfl ?_); refine gl (some 9) _ (#[.int .i64 (a0.size : Int), .int .i64 1, .int .i64 20]) Tryd.func125 ?_; (with_reducible refine (impl_in.calls (a0.size : Int) 1 20 true _ A4.out).mono ?_); rintro e w' ⟨rfl, ⟨nd, rfl⟩⟩; refine ⟨_, rfl, ?_⟩))
    go_meet
    case rel => exact ⟨_, (true), Ye1, H', ⟨by first | omega | exact Nat.le_refl _⟩, dz⟩
   ·rw [if_neg c6] at H
    have a3 : (a0.toList == ([46] : List UInt8)) = false := beq_eq_false_iff_ne.mpr c6; have ae : (a0.toList != ([46] : List UInt8)) = true := bne_iff_ne.mpr c6; (first | rw [a3] | (simp only [i64_w, i32_w]; rw [a3]) | skip); have H' := Aside0.mk H; clear H
    go_wp2_with (first | ((with_reducible refine gc 125 rfl ?_); refine gl (some 9) _ (#[.int .i64 (a0.size : Int), .int .i64 1, .int .i64 20]) Tryd.func125 ?_; (with_reducible refine (impl_in.calls (a0.size : Int) 1 20 true _ A4.out).mono ?_); rintro e w' ⟨rfl, ⟨nd, rfl⟩⟩; refine ⟨_, rfl, ?_⟩))
    go_meet
    case rel => exact ⟨_, ((a0.toList == ([46, 46] : List UInt8))), Ye1, H', ⟨by first | omega | exact Nat.le_refl _⟩, dz⟩
  ·replace c5 := Bool.eq_false_iff.mpr c5; subst c5
   have H1 : (impl_goodPart.j0 k a0 a1 true) = some r := by rw [if_neg (show ¬ (false = true) by decide)] at H; exact H
   clear H; have H := H1; clear H1; have H' := Aside0.mk H; clear H
   go_wp2_with (first | ((with_reducible refine gc 125 rfl ?_); refine gl (some 9) _ (#[.int .i64 (a0.size : Int), .int .i64 1, .int .i64 20]) Tryd.func125 ?_; (with_reducible refine (impl_in.calls (a0.size : Int) 1 20 false _ A4.out).mono ?_); rintro e w' ⟨rfl, ⟨nd, rfl⟩⟩; refine ⟨_, rfl, ?_⟩))
   go_meet
   case rel => exact ⟨_, (true), Ye1, H', ⟨by first | omega | exact Nat.le_refl _⟩, dz⟩
 case rest =>
  clear ad; (try clear c1); (try clear p2); (try clear c5); (try clear c6); (try clear a3); (try clear ae); obtain ⟨kq, ab, rfl, HA, HJ2, ⟨mc2, rfl⟩⟩ := hcut
  cases kq with
  | zero => exact absurd HA.out (by simp [impl_goodPart.j0])
  | succ af =>
   have H := HA.out; clear HA; simp only [impl_goodPart.j0] at H
   by_cases c7 : ab = true
   ·subst c7
    have H1 : (some false) = some r := by rw [if_pos rfl] at H; exact H
    clear H; have H := H1; clear H1; obtain rfl := Option.some.inj H
    go_wp2
    go_ret
    exact ⟨Ye1, dz⟩
   ·replace c7 := Bool.eq_false_iff.mpr c7; subst c7
    have H1 : (impl_goodPart.l0 af a0 a1 0) = some r := by rw [if_neg (show ¬ (false = true) by decide)] at H; exact H
    clear H; have H := H1; clear H1; have H' := Aside0.mk H; clear H
    go_wp2
    go_loopg [5] af (fun kq v5 w' => ∃ (a2 : Int), v5 = .int .i64 a2 ∧ Aside0 (impl_goodPart.l0 kq a0 a1 a2 = some r) ∧ Aside0 (kq ≤ af) ∧ Drawn0 w w')
    case atStart => exact ⟨(0), Ye1, H', ⟨Nat.le_refl _⟩, dz⟩
    case round =>
     clear H'; (try clear c1); (try clear c2); (try clear p2); (try clear c5); (try clear c6); (try clear a3); (try clear ae); (try clear c7); (try clear p2); obtain ⟨a2, rfl, HA, HK2, ⟨m2, rfl⟩⟩ := hrel
     cases gk with
     | zero => exact absurd HA.out (by simp [impl_goodPart.l0])
     | succ k2 =>
      have H := HA.out; clear HA; simp only [impl_goodPart.l0] at H
      by_cases c8 : a2 < (a0.size : Int)
      ·rw [if_pos c8] at H
       have ag : decide (a2 < (a0.size : Int)) = true := decide_eq_true c8; clear c8
       by_cases c9 : 0 ≤ a2
       ·rw [if_pos c9] at H
        have c9b0 : decide (0 ≤ a2) = true := decide_eq_true c9; clear c9
        by_cases a9 : (bt a0 a2) < 33
        ·rw [if_pos a9] at H
         have ah : decide ((bt a0 a2) < 33) = true := decide_eq_true a9; clear a9; obtain rfl := Option.some.inj H; have p10 : 0 ≤ (a2 : Int) := oda; have q10 : a2 < (a0.size : Int) := oda; have hx10 := bt_at a0 a2; replace p10 := eq_true p10; replace q10 := eq_true q10
         go_wp2
         go_ret
         exact ⟨Ye1, dz⟩
        ·rw [if_neg a9] at H
         have ah : decide ((bt a0 a2) < 33) = false := decide_eq_false a9; clear a9
         by_cases aa : (bt a0 a2) > 126
         ·rw [if_pos aa] at H
          have ai : decide (126 < (bt a0 a2)) = true := decide_eq_true aa; clear aa; obtain rfl := Option.some.inj H; have p10 : 0 ≤ (a2 : Int) := oda; have q10 : a2 < (a0.size : Int) := oda; have hx10 := bt_at a0 a2; replace p10 := eq_true p10; replace q10 := eq_true q10
          go_wp2
          go_ret
          exact ⟨Ye1, dz⟩
         ·rw [if_neg aa] at H
          have ai : decide (126 < (bt a0 a2)) = false := decide_eq_false aa; clear aa
          by_cases a4 : (bt a0 a2) = 34
          ·rw [if_pos a4] at H
           have aj : ((bt a0 a2) == 34) = true := beq_iff_eq.mpr a4; have ak : ((bt a0 a2) != 34) = false := bne_eq_false_iff_eq.mpr a4; clear a4; obtain rfl := Option.some.inj H; have p10 : 0 ≤ (a2 : Int) := oda; have q10 : a2 < (a0.size : Int) := oda; have hx10 := bt_at a0 a2; replace p10 := eq_true p10; replace q10 := eq_true q10
           go_wp2
           go_ret
           exact ⟨Ye1, dz⟩
          ·rw [if_neg a4] at H
           have aj : ((bt a0 a2) == 34) = false := beq_eq_false_iff_ne.mpr a4; have ak : ((bt a0 a2) != 34) = true := bne_iff_ne.mpr a4
           by_cases a5 : (bt a0 a2) = 47
           ·rw [if_pos a5] at H
            have al : ((bt a0 a2) == 47) = true := beq_iff_eq.mpr a5; have am : ((bt a0 a2) != 47) = false := bne_eq_false_iff_eq.mpr a5; clear a5; obtain rfl := Option.some.inj H; have p10 : 0 ≤ (a2 : Int) := oda; have q10 : a2 < (a0.size : Int) := oda; have hx10 := bt_at a0 a2; replace p10 := eq_true p10; replace q10 := eq_true q10
            go_wp2
            go_ret
            exact ⟨Ye1, dz⟩
           ·rw [if_neg a5] at H
            have al : ((bt a0 a2) == 47) = false := beq_eq_false_iff_ne.mpr a5; have am : ((bt a0 a2) != 47) = true := bne_iff_ne.mpr a5
            by_cases ac : a1 = true
            ·subst ac
             have H1 : (impl_goodPart.l0 k2 a0 true (wrap64 (a2 + 1))) = some r := by rw [if_pos rfl] at H; exact H
             clear H; have H := H1; clear H1; have H' := Aside0.mk H; clear H; have p10 : 0 ≤ (a2 : Int) := oda; have q10 : a2 < (a0.size : Int) := oda; have hx10 := bt_at a0 a2; replace p10 := eq_true p10; replace q10 := eq_true q10
             go_wp2
             go_roundg k2
             case measure => have := HJ2.out; have := HK2.out; omega
             case rel => exact ⟨(wrap64 (a2 + 1)), Ye1, H', ⟨by have := HJ2.out; have := HK2.out; omega⟩, dz⟩
            ·replace ac := Bool.eq_false_iff.mpr ac; subst ac
             have H1 : (if (bt a0 a2) = 42 then (some false) else (if (bt a0 a2) = 63 then (some false) else (impl_goodPart.l0 k2 a0 false (wrap64 (a2 + 1))))) = some r := by rw [if_neg (show ¬ (false = true) by decide)] at H; exact H
             clear H; have H := H1; clear H1
             by_cases a6 : (bt a0 a2) = 42
             ·rw [if_pos a6] at H
              have an : ((bt a0 a2) == 42) = true := beq_iff_eq.mpr a6; have ao : ((bt a0 a2) != 42) = false := bne_eq_false_iff_eq.mpr a6; clear a6; obtain rfl := Option.some.inj H; have p10 : 0 ≤ (a2 : Int) := oda; have q10 : a2 < (a0.size : Int) := oda; have hx10 := bt_at a0 a2; replace p10 := eq_true p10; replace q10 := eq_true q10
              go_wp2
              go_ret
              exact ⟨Ye1, dz⟩
             ·rw [if_neg a6] at H
              have an : ((bt a0 a2) == 42) = false := beq_eq_false_iff_ne.mpr a6; have ao : ((bt a0 a2) != 42) = true := bne_iff_ne.mpr a6
              by_cases a7 : (bt a0 a2) = 63
              ·rw [if_pos a7] at H
               have ap : ((bt a0 a2) == 63) = true := beq_iff_eq.mpr a7; have aq : ((bt a0 a2) != 63) = false := bne_eq_false_iff_eq.mpr a7; clear a7; obtain rfl := Option.some.inj H; have p10 : 0 ≤ (a2 : Int) := oda; have q10 : a2 < (a0.size : Int) := oda; have hx10 := bt_at a0 a2; replace p10 := eq_true p10; replace q10 := eq_true q10
               go_wp2
               go_ret
               exact ⟨Ye1, dz⟩
              ·rw [if_neg a7] at H
               have ap : ((bt a0 a2) == 63) = false := beq_eq_false_iff_ne.mpr a7; have aq : ((bt a0 a2) != 63) = true := bne_iff_ne.mpr a7; have H' := Aside0.mk H; clear H; have p10 : 0 ≤ (a2 : Int) := oda; have q10 : a2 < (a0.size : Int) := oda; have hx10 := bt_at a0 a2; replace p10 := eq_true p10; replace q10 := eq_true q10
               go_wp2
               go_roundg k2
               case measure => have := HJ2.out; have := HK2.out; omega
               case rel => exact ⟨(wrap64 (a2 + 1)), Ye1, H', ⟨by have := HJ2.out; have := HK2.out; omega⟩, dz⟩
       ·rw [if_neg c9] at H
        exact absurd H (by simp)
      ·rw [if_neg c8] at H
       have ag : decide (a2 < (a0.size : Int)) = false := decide_eq_false c8; clear c8; obtain rfl := Option.some.inj H
       go_wp2
       go_ret
       exact ⟨Ye1, dz⟩

end Go.Proofs.YtgnmledjkamojaaDoor.P


namespace Go.Proofs.YtgnmledjkamojaaDoor.P
open Go.RowKit Go.Proofs.YtgnmledjkamojaaDoorW.PrintWords Go.Proofs.YtgnmledjkamojaaDoorW.PrintLast Go.Proofs.YtgnmledjkamojaaDoorW.PrintMore
attribute [local go_sem] max2_int min2_int max_two min_two max_three min_three max_four min_four
set_option linter.unusedVariables false
set_option linter.unusedSimpArgs false

/-! ### strings_Split: function 91 -/
def strings_Split.f (a0 a1 : ByteArray) : Option (List ByteArray) := if a0.size < 4294967281 then (if 1 ≤ a1.size then some (Go.Lib.splitB a1 0 (Go.Lib.countB a0 a1) a0) else none) else none
theorem strings_Split.calls (a0 a1 : ByteArray) (r : List ByteArray) (w : World) (hg : GOK w) (h : strings_Split.f a0 a1 = some r) :
  Calls Tryd.prog 91 #[.string a0, .string a1] w fun e w' => ∃ v0_ : Value, e = .returned (v0_) ∧ Kd.R Kd.string 9 w' w.heap.size (fun _ => True) v0_ r ∧ Below w.heap.size w w' := by
 unfold strings_Split.f at h
 split at h
 ·rename_i hs
  split at h
  ·rename_i h1
   obtain rfl := Option.some.inj h; obtain ⟨m, hm⟩ := hg; have hle := Go.Lib.countB_le a1 h1 a0.size a0 (Nat.le_refl _); have hlen := Go.Lib.splitB_all a1 h1 0 (Go.Lib.countB a0 a1) a0 rfl
   refine (Tryd.strings_Split a0 a1 m w hs hm h1).mono fun e w' ⟨he, hw⟩ => ?_
   subst hw; refine ⟨_, he, ?_, below_alloc (Below.refl _ _) _⟩
   rw [← hlen]
   exact Ow.R_new_block Value.string (fun _ => rfl) _ w _ (by rw [hlen]; unfold maxLen; omega)
  ·cases h
 ·cases h


end Go.Proofs.YtgnmledjkamojaaDoor.P


namespace Go.Proofs.YtgnmledjkamojaaDoor.P
open Go.RowKit Go.Proofs.YtgnmledjkamojaaDoorW.PrintWords Go.Proofs.YtgnmledjkamojaaDoorW.PrintLast Go.Proofs.YtgnmledjkamojaaDoorW.PrintMore
attribute [local go_sem] max2_int min2_int max_two min_two max_three min_three max_four min_four
set_option linter.unusedVariables false
set_option linter.unusedSimpArgs false

/-! ### impl_parts: function 148 -/
def impl_parts.l0 : Nat → Bool → List ByteArray → Int → Int → Option (Bool)
 | 0, _, _, _, _ => none
 | k + 1, x1, x13, x14, x15 => if x15 < x14 then (if 0 ≤ x15 then (if x15 < (x13.length : Int) then ((impl_goodPart.f k (rdOf ByteArray.empty x13 x15) x1).bind fun a6 => (if a6 = true then (impl_parts.l0 k x1 x13 x14 (wrap64 (x15 + 1))) else (some false))) else (none)) else (none)) else (some true)
def impl_parts.f (k : Nat) (a0 : ByteArray) (a1 : Bool) : Option (Bool) := (strings_Split.f a0 (⟨#[47]⟩ : ByteArray)).bind fun a2 => (if (a2.length : Int) > 6 then (some false) else (impl_parts.l0 k a1 a2 (a2.length : Int) 0))
theorem impl_parts.mono_l : ∀ k, (∀ y0 y1 y2 y3, LeO (impl_parts.l0 k y0 y1 y2 y3) (impl_parts.l0 (k + 1) y0 y1 y2 y3))
 | 0 => fun _ _ _ _ r h => by simp [impl_parts.l0] at h
 | k + 1 => by
  have ih0 := impl_parts.mono_l k
  ·intro y0 y1 y2 y3
   unfold impl_parts.l0
   repeat' first
   | (with_reducible exact ih0 _ _ _ _)
   | (with_reducible exact impl_goodPart.mono _ _ _)
   | (with_reducible exact LeO.refl _)
   | (with_reducible exact LeO.none _)
   | (with_reducible refine LeO.ite ?_ ?_)
   | (with_reducible refine LeO.bind ?_ (fun _ => ?_))
   | exact ih0 _ _ _ _
   | exact impl_goodPart.mono _ _ _
   | exact LeO.none _
   | refine LeO.ite ?_ ?_
   | refine LeO.bind ?_ (fun _ => ?_)
theorem impl_parts.mono : ∀ a0 a1 k, LeO (impl_parts.f k a0 a1) (impl_parts.f (k + 1) a0 a1) := by
 intro a0 a1 k; have ih0 := impl_parts.mono_l k
 unfold impl_parts.f
 repeat' first
   | (with_reducible exact ih0 _ _ _ _)
   | (with_reducible exact impl_goodPart.mono _ _ _)
   | (with_reducible exact LeO.refl _)
   | (with_reducible exact LeO.none _)
   | (with_reducible refine LeO.ite ?_ ?_)
   | (with_reducible refine LeO.bind ?_ (fun _ => ?_))
   | exact ih0 _ _ _ _
   | exact impl_goodPart.mono _ _ _
   | exact LeO.none _
   | refine LeO.ite ?_ ?_
   | refine LeO.bind ?_ (fun _ => ?_)
set_option maxHeartbeats 8000000 in
set_option maxRecDepth 100000 in
theorem impl_parts.calls (k : Nat) (a0 : ByteArray) (a1 : Bool) (r : Bool) (w : World) (hg : GOK w) (h : impl_parts.f k a0 a1 = some r) :
  Calls Tryd.prog 148 #[.string a0, .bool a1] w fun e w' => e = .returned (.bool r) ∧ Below w.heap.size w w' := by
 have HG := Aside0.mk hg; clear hg; have HB := Aside0.mk (Below.refl w.heap.size w); have H : ((strings_Split.f a0 (⟨#[47]⟩ : ByteArray)).bind fun a2 => (if (a2.length : Int) > 6 then (some false) else (impl_parts.l0 k a1 a2 (a2.length : Int) 0))) = some r := h; clear h; replace H := Option.bind_eq_some_iff.mp H; obtain ⟨a2, A30, H⟩ := H; replace H : (if (a2.length : Int) > 6 then (some false) else (impl_parts.l0 k a1 a2 (a2.length : Int) 0)) = some r := H; have A3 := Aside0.mk A30; clear A30
 by_cases c4 : (a2.length : Int) > 6
 ·rw [if_pos c4] at H
  have ac : decide (6 < (a2.length : Int)) = true := decide_eq_true c4; have ad : decide (6 < a2.length) = true := decide_eq_true (by omega); clear c4; obtain rfl := Option.some.inj H
  go_enter Tryd.func148, Tryd.ntmps148
  go_wp2_with (first | ((with_reducible refine gc 91 rfl ?_); refine gl (some 9) _ (#[.string a0, .string (⟨#[47]⟩ : ByteArray)]) Tryd.func91 ?_; (with_reducible refine (strings_Split.calls a0 (⟨#[47]⟩ : ByteArray) a2 _ ?sideG A3.out).mono ?_); (case sideG => exact gk HG.out HB.out); rintro e w5 ⟨af, rfl, ho0, hb⟩; refine ⟨_, rfl, ?_⟩; refine Ya2 (Kd.R_lower ho0 (below_size (be HB.out))) (below_step (be HB.out) hb) ?_; clear HB; intro a7 HB; (try clear hb); (try clear hb2); (try clear hk); (try clear hi); (try clear ho0); obtain ⟨Ao6, co6, eo6⟩ := Kd.R_slice a7.out; subst eo6))
  go_ret
  exact ⟨Ye2, be HB.out⟩
 ·rw [if_neg c4] at H
  have ac : decide (6 < (a2.length : Int)) = false := decide_eq_false c4; have ad : decide (6 < a2.length) = false := decide_eq_false (by omega); clear c4; have H' := Aside0.mk H; clear H
  go_enter Tryd.func148, Tryd.ntmps148
  go_wp2_with (first | ((with_reducible refine gc 91 rfl ?_); refine gl (some 9) _ (#[.string a0, .string (⟨#[47]⟩ : ByteArray)]) Tryd.func91 ?_; (with_reducible refine (strings_Split.calls a0 (⟨#[47]⟩ : ByteArray) a2 _ ?sideG A3.out).mono ?_); (case sideG => exact gk HG.out HB.out); rintro e w7 ⟨af, rfl, ho0, hb⟩; refine ⟨_, rfl, ?_⟩; refine Ya2 (Kd.R_lower ho0 (below_size (be HB.out))) (below_step (be HB.out) hb) ?_; clear HB; intro a7 HB; (try clear hb); (try clear hb2); (try clear hk); (try clear hi); (try clear ho0); obtain ⟨Ao8, co8, eo8⟩ := Kd.R_slice a7.out; subst eo8))
  go_loopg [15] k (fun kq v15 w' => ∃ (a3 : Int), v15 = .int .i64 a3 ∧ Aside0 (impl_parts.l0 kq a1 a2 (a2.length : Int) a3 = some r) ∧ Aside0 (kq ≤ k) ∧ Aside0 (Kd.R Kd.string 9 w' w.heap.size (fun _ => True) (.slice Ao8 a2.length co8) a2) ∧ Aside0 (Below w.heap.size w w'))
  case atStart => exact ⟨(0), Ye1, H', ⟨Nat.le_refl _⟩, ⟨kr a7.out⟩, ⟨be HB.out⟩⟩
  case round =>
   clear H'; (try clear c1); (try clear p2); (try clear c4); (try clear ac); (try clear ad); obtain ⟨a3, rfl, HA, HK1, aa, HB⟩ := hrel
   cases gk with
   | zero => exact absurd HA.out (by simp [impl_parts.l0])
   | succ k1 =>
    have H := HA.out; clear HA; simp only [impl_parts.l0] at H
    by_cases c9 : a3 < (a2.length : Int)
    ·rw [if_pos c9] at H
     have ag : decide (a3 < (a2.length : Int)) = true := decide_eq_true c9; clear c9
     by_cases c10 : 0 ≤ a3
     ·rw [if_pos c10] at H
      have c10b0 : decide (0 ≤ a3) = true := decide_eq_true c10; clear c10
      by_cases a8 : a3 < (a2.length : Int)
      ·rw [if_pos a8] at H
       have c11b0 : decide (a3 < (a2.length : Int)) = true := decide_eq_true a8; clear a8; replace H := Option.bind_eq_some_iff.mp H; obtain ⟨a6, ae, H⟩ := H; replace H : (if a6 = true then (impl_parts.l0 k1 a1 a2 (a2.length : Int) (wrap64 (a3 + 1))) else (some false)) = some r := H; have A12 := Aside0.mk ae; clear ae
       by_cases a9 : a6 = true
       ·subst a9
        have H1 : (impl_parts.l0 k1 a1 a2 (a2.length : Int) (wrap64 (a3 + 1))) = some r := by rw [if_pos rfl] at H; exact H
        clear H; have H := H1; clear H1; have H' := Aside0.mk H; clear H; have a4 : 0 ≤ (a3 : Int) := oda; have a5 : a3 < (a2.length : Int) := oda; obtain ⟨ah, ab, ai⟩ := Kd.at_string (Kd.R_reads' aa.out).2.2 a3 a4 a5
        cases ab
        replace a4 := eq_true a4; replace a5 := eq_true a5
        go_wp2_with (first | ((with_reducible refine gc 161 rfl ?_); refine gl (some 21) _ (#[.string (rdOf ByteArray.empty a2 a3), .bool a1]) Tryd.func161 ?_; (with_reducible refine (impl_goodPart.calls k1 (rdOf ByteArray.empty a2 a3) a1 true _ A12.out).mono ?_); rintro e w' ⟨rfl, ⟨nd, rfl⟩⟩; refine ⟨_, rfl, ?_⟩))
        go_roundg k1
        case measure => have := HK1.out; omega
        case rel => exact ⟨(wrap64 (a3 + 1)), Ye1, H', ⟨by have := HK1.out; omega⟩, ⟨kr aa.out⟩, ⟨be HB.out⟩⟩
       ·replace a9 := Bool.eq_false_iff.mpr a9; subst a9
        have H1 : (some false) = some r := by rw [if_neg (show ¬ (false = true) by decide)] at H; exact H
        clear H; have H := H1; clear H1; obtain rfl := Option.some.inj H; have a4 : 0 ≤ (a3 : Int) := oda; have a5 : a3 < (a2.length : Int) := oda; obtain ⟨ah, ab, ai⟩ := Kd.at_string (Kd.R_reads' aa.out).2.2 a3 a4 a5
        cases ab
        replace a4 := eq_true a4; replace a5 := eq_true a5
        go_wp2_with (first | ((with_reducible refine gc 161 rfl ?_); refine gl (some 21) _ (#[.string (rdOf ByteArray.empty a2 a3), .bool a1]) Tryd.func161 ?_; (with_reducible refine (impl_goodPart.calls k1 (rdOf ByteArray.empty a2 a3) a1 false _ A12.out).mono ?_); rintro e w' ⟨rfl, ⟨nd, rfl⟩⟩; refine ⟨_, rfl, ?_⟩))
        go_ret
        exact ⟨Ye2, be HB.out⟩
      ·rw [if_neg a8] at H
       exact absurd H (by simp)
     ·rw [if_neg c10] at H
      exact absurd H (by simp)
    ·rw [if_neg c9] at H
     have ag : decide (a3 < (a2.length : Int)) = false := decide_eq_false c9; clear c9; obtain rfl := Option.some.inj H
     go_wp2
     go_ret
     exact ⟨Ye2, be HB.out⟩

end Go.Proofs.YtgnmledjkamojaaDoor.P


namespace Go.Proofs.YtgnmledjkamojaaDoor.P
open Go.RowKit Go.Proofs.YtgnmledjkamojaaDoorW.PrintWords Go.Proofs.YtgnmledjkamojaaDoorW.PrintLast Go.Proofs.YtgnmledjkamojaaDoorW.PrintMore
attribute [local go_sem] max2_int min2_int max_two min_two max_three min_three max_four min_four
set_option linter.unusedVariables false
set_option linter.unusedSimpArgs false

/-! ### impl_ValidPath: function 89 -/
def impl_ValidPath.f (k : Nat) (a0 : ByteArray) : Option (Bool) := (impl_parts.f k a0 false).bind fun a1 => (some a1)
theorem impl_ValidPath.mono : ∀ a0 k, LeO (impl_ValidPath.f k a0) (impl_ValidPath.f (k + 1) a0) := by
 intro a0 k
 unfold impl_ValidPath.f
 repeat' first
   | (with_reducible exact impl_parts.mono _ _ _)
   | (with_reducible exact LeO.refl _)
   | (with_reducible exact LeO.none _)
   | (with_reducible refine LeO.ite ?_ ?_)
   | (with_reducible refine LeO.bind ?_ (fun _ => ?_))
   | exact impl_parts.mono _ _ _
   | exact LeO.none _
   | refine LeO.ite ?_ ?_
   | refine LeO.bind ?_ (fun _ => ?_)
set_option maxHeartbeats 8000000 in
set_option maxRecDepth 100000 in
theorem impl_ValidPath.calls (k : Nat) (a0 : ByteArray) (r : Bool) (w : World) (hg : GOK w) (h : impl_ValidPath.f k a0 = some r) :
  Calls Tryd.prog 89 #[.string a0] w fun e w' => e = .returned (.bool r) ∧ Below w.heap.size w w' := by
 have HG := Aside0.mk hg; clear hg; have HB := Aside0.mk (Below.refl w.heap.size w); have H : ((impl_parts.f k a0 false).bind fun a1 => (some a1)) = some r := h; clear h; replace H := Option.bind_eq_some_iff.mp H; obtain ⟨a1, A20, H⟩ := H; replace H : (some a1) = some r := H; have A2 := Aside0.mk A20; clear A20; obtain rfl := Option.some.inj H
 go_enter Tryd.func89, Tryd.ntmps89
 go_wp2_with (first | ((with_reducible refine gc 148 rfl ?_); refine gl (some 4) _ (#[.string a0, .bool false]) Tryd.func148 ?_; (with_reducible refine (impl_parts.calls k a0 false a1 _ ?sideG A2.out).mono ?_); (case sideG => exact gk HG.out HB.out); rintro e w3 ⟨rfl, hb⟩; refine ⟨_, rfl, ?_⟩; refine Ya1 (below_step (be HB.out) hb) ?_; clear HB; intro HB; (try clear hb); (try clear hb2); (try clear hk); (try clear hi)))
 go_ret
 exact ⟨Ye2, be HB.out⟩

end Go.Proofs.YtgnmledjkamojaaDoor.P


namespace Go.Proofs.YtgnmledjkamojaaDoor.P
open Go.RowKit Go.Proofs.YtgnmledjkamojaaDoorW.PrintWords Go.Proofs.YtgnmledjkamojaaDoorW.PrintLast Go.Proofs.YtgnmledjkamojaaDoorW.PrintMore
attribute [local go_sem] max2_int min2_int max_two min_two max_three min_three max_four min_four
set_option linter.unusedVariables false
set_option linter.unusedSimpArgs false

/-! ### impl_goodEntry: function 82 -/
def impl_goodEntry.f (k : Nat) (a0_0 : ByteArray) (a0_1 : ByteArray) (a0_2 : Bool) : Option (Bool) := (impl_ValidPath.f k a0_0).bind fun a4 => (if a4 = true then (some (decide ((a0_1.size : Int) ≤ 1500))) else (some false))
theorem impl_goodEntry.mono : ∀ a0 a1 a2 k, LeO (impl_goodEntry.f k a0 a1 a2) (impl_goodEntry.f (k + 1) a0 a1 a2) := by
 intro a0 a1 a2 k
 unfold impl_goodEntry.f
 repeat' first
   | (with_reducible exact impl_ValidPath.mono _ _)
   | (with_reducible exact LeO.refl _)
   | (with_reducible exact LeO.none _)
   | (with_reducible refine LeO.ite ?_ ?_)
   | (with_reducible refine LeO.bind ?_ (fun _ => ?_))
   | exact impl_ValidPath.mono _ _
   | exact LeO.none _
   | refine LeO.ite ?_ ?_
   | refine LeO.bind ?_ (fun _ => ?_)
set_option maxHeartbeats 8000000 in
set_option maxRecDepth 100000 in
theorem impl_goodEntry.calls (k : Nat) (a0_0 : ByteArray) (a0_1 : ByteArray) (a0_2 : Bool) (r : Bool) (w : World) (hg : GOK w) (h : impl_goodEntry.f k a0_0 a0_1 a0_2 = some r) :
  Calls Tryd.prog 82 #[.agg #[.string a0_0, .string a0_1, .bool a0_2]] w fun e w' => e = .returned (.bool r) ∧ Below w.heap.size w w' := by
 have HG := Aside0.mk hg; clear hg; have hu37 := Tryd.underlying37; have HB := Aside0.mk (Below.refl w.heap.size w); have H : ((impl_ValidPath.f k a0_0).bind fun a4 => (if a4 = true then (some (decide ((a0_1.size : Int) ≤ 1500))) else (some false))) = some r := h; clear h; replace H := Option.bind_eq_some_iff.mp H; obtain ⟨a4, A20, H⟩ := H; replace H : (if a4 = true then (some (decide ((a0_1.size : Int) ≤ 1500))) else (some false)) = some r := H; have A2 := Aside0.mk A20; clear A20
 by_cases c3 : a4 = true
 ·subst c3
  have H1 : (some (decide ((a0_1.size : Int) ≤ 1500))) = some r := by rw [if_pos rfl] at H; exact H
  clear H; have H := H1; clear H1; obtain rfl := Option.some.inj H
  go_enter Tryd.func82, Tryd.ntmps82
  go_wp2_with (first | ((with_reducible refine gd 1 rfl ?_); (try (refine gate_guard (by rfl) ?_; dsimp only)); refine bx 1 37 (#[.string a0_0, .string a0_1, .bool a0_2]) ?_; intro a5 hg w4 hbox hb; refine Ya4 (below_step (be HB.out) hb) (hbox) (bs hg (be HB.out)) (bs hg (be HB.out)) ?_; clear HB; intro HB a3 a6 a7; clear hb hbox hg; have ⟨a8, a9, aa, ab, ac, ad⟩ := Yc3 a3.out) | ((with_reducible refine gc 89 rfl ?_); refine gl (some 5) _ (#[.string a0_0]) Tryd.func89 ?_; (with_reducible refine (impl_ValidPath.calls k a0_0 true _ ?sideG A2.out).mono ?_); (case sideG => exact gf HG.out HB.out); rintro e w6 ⟨rfl, hb⟩; refine ⟨_, rfl, ?_⟩; refine Ya2 (bb a3 hb) (below_step (bf HB.out) hb) ?_; clear a3 HB; intro a3 HB; (try clear hb); (try clear hb2); (try clear hk); (try clear hi); have ⟨ae, af, ag, ah, ai, aj⟩ := Yc3 a3.out))
  go_ret
  exact ⟨Ye2, (bf HB.out)⟩
 ·replace c3 := Bool.eq_false_iff.mpr c3; subst c3
  have H1 : (some false) = some r := by rw [if_neg (show ¬ (false = true) by decide)] at H; exact H
  clear H; have H := H1; clear H1; obtain rfl := Option.some.inj H
  go_enter Tryd.func82, Tryd.ntmps82
  go_wp2_with (first | ((with_reducible refine gd 1 rfl ?_); (try (refine gate_guard (by rfl) ?_; dsimp only)); refine bx 1 37 (#[.string a0_0, .string a0_1, .bool a0_2]) ?_; intro a5 hg w8 hbox hb; refine Ya4 (below_step (be HB.out) hb) (hbox) (bs hg (be HB.out)) (bs hg (be HB.out)) ?_; clear HB; intro HB a3 a6 a7; clear hb hbox hg; have ⟨ak, al, am, an, ao, ap⟩ := Yc3 a3.out) | ((with_reducible refine gc 89 rfl ?_); refine gl (some 5) _ (#[.string a0_0]) Tryd.func89 ?_; (with_reducible refine (impl_ValidPath.calls k a0_0 false _ ?sideG A2.out).mono ?_); (case sideG => exact gf HG.out HB.out); rintro e w10 ⟨rfl, hb⟩; refine ⟨_, rfl, ?_⟩; refine Ya2 (bb a3 hb) (below_step (bf HB.out) hb) ?_; clear a3 HB; intro a3 HB; (try clear hb); (try clear hb2); (try clear hk); (try clear hi)))
  go_ret
  exact ⟨Ye2, (bf HB.out)⟩

end Go.Proofs.YtgnmledjkamojaaDoor.P


namespace Go.Proofs.YtgnmledjkamojaaDoor.P
open Go.RowKit Go.Proofs.YtgnmledjkamojaaDoorW.PrintWords Go.Proofs.YtgnmledjkamojaaDoorW.PrintLast Go.Proofs.YtgnmledjkamojaaDoorW.PrintMore
attribute [local go_sem] max2_int min2_int max_two min_two max_three min_three max_four min_four
set_option linter.unusedVariables false
set_option linter.unusedSimpArgs false

/-! ### stringslite_HasPrefix: function 171 -/
def stringslite_HasPrefix.f (a0 : ByteArray) (a1 : ByteArray) : Option (Bool) := if (a0.size : Int) ≥ (a1.size : Int) then (if 0 ≤ (a1.size : Int) then (if (a1.size : Int) ≤ (a0.size : Int) then (some ((a0.extract 0 ((a1.size : Int) : Int).toNat).toList == a1.toList)) else (none)) else (none)) else (some false)
set_option maxHeartbeats 8000000 in
set_option maxRecDepth 100000 in
theorem stringslite_HasPrefix.calls (a0 : ByteArray) (a1 : ByteArray) (r : Bool) (w : World) (h : stringslite_HasPrefix.f a0 a1 = some r) :
  Calls Tryd.prog 171 #[.string a0, .string a1] w fun e w' => e = .returned (.bool r) ∧ Drawn0 w w' := by
 have H : (if (a0.size : Int) ≥ (a1.size : Int) then (if 0 ≤ (a1.size : Int) then (if (a1.size : Int) ≤ (a0.size : Int) then (some ((a0.extract 0 ((a1.size : Int) : Int).toNat).toList == a1.toList)) else (none)) else (none)) else (some false)) = some r := h; clear h
 by_cases c3 : (a0.size : Int) ≥ (a1.size : Int)
 ·rw [if_pos c3] at H
  have a2 : decide ((a1.size : Int) ≤ (a0.size : Int)) = true := decide_eq_true c3; have a3 : decide (a1.size ≤ a0.size) = true := decide_eq_true (Int.ofNat_le.mp c3); clear c3
  by_cases c4 : 0 ≤ (a1.size : Int)
  ·rw [if_pos c4] at H
   have c4b0 := eq_true c4; have c4b1 : decide (0 ≤ (a1.size : Int)) = true := decide_eq_true c4; clear c4
   by_cases c5 : (a1.size : Int) ≤ (a0.size : Int)
   ·rw [if_pos c5] at H
    have c5b0 := eq_true c5; have c5b1 : decide ((a1.size : Int) ≤ (a0.size : Int)) = true := decide_eq_true c5; clear c5; obtain rfl := Option.some.inj H
    go_enter Tryd.func171, Tryd.ntmps171
    go_wp2
    go_ret
    exact ⟨Ye1, dz⟩
   ·rw [if_neg c5] at H
    exact absurd H (by simp)
  ·rw [if_neg c4] at H
   exact absurd H (by simp)
 ·rw [if_neg c3] at H
  have a2 : decide ((a1.size : Int) ≤ (a0.size : Int)) = false := decide_eq_false c3; have a3 : decide (a1.size ≤ a0.size) = false := decide_eq_false (fun h => c3 (Int.ofNat_le.mpr h)); clear c3; obtain rfl := Option.some.inj H
  go_enter Tryd.func171, Tryd.ntmps171
  go_wp2
  go_ret
  exact ⟨Ye1, dz⟩

end Go.Proofs.YtgnmledjkamojaaDoor.P


namespace Go.Proofs.YtgnmledjkamojaaDoor.P
open Go.RowKit Go.Proofs.YtgnmledjkamojaaDoorW.PrintWords Go.Proofs.YtgnmledjkamojaaDoorW.PrintLast Go.Proofs.YtgnmledjkamojaaDoorW.PrintMore
attribute [local go_sem] max2_int min2_int max_two min_two max_three min_three max_four min_four
set_option linter.unusedVariables false
set_option linter.unusedSimpArgs false

/-! ### strings_HasPrefix: function 141 -/
def strings_HasPrefix.f (a0 : ByteArray) (a1 : ByteArray) : Option (Bool) := (stringslite_HasPrefix.f a0 a1).bind fun a2 => (some a2)
set_option maxHeartbeats 8000000 in
set_option maxRecDepth 100000 in
theorem strings_HasPrefix.calls (a0 : ByteArray) (a1 : ByteArray) (r : Bool) (w : World) (h : strings_HasPrefix.f a0 a1 = some r) :
  Calls Tryd.prog 141 #[.string a0, .string a1] w fun e w' => e = .returned (.bool r) ∧ Drawn0 w w' := by
 have H : ((stringslite_HasPrefix.f a0 a1).bind fun a2 => (some a2)) = some r := h; clear h; replace H := Option.bind_eq_some_iff.mp H; obtain ⟨a2, A30, H⟩ := H; replace H : (some a2) = some r := H; have A3 := Aside0.mk A30; clear A30; obtain rfl := Option.some.inj H
 go_enter Tryd.func141, Tryd.ntmps141
 go_wp2_with (first | ((with_reducible refine gc 171 rfl ?_); refine gl (some 7) _ (#[.string a0, .string a1]) Tryd.func171 ?_; (with_reducible refine (stringslite_HasPrefix.calls a0 a1 a2 _ A3.out).mono ?_); rintro e w' ⟨rfl, ⟨nd, rfl⟩⟩; refine ⟨_, rfl, ?_⟩))
 go_ret
 exact ⟨Ye1, dz⟩

end Go.Proofs.YtgnmledjkamojaaDoor.P


namespace Go.Proofs.YtgnmledjkamojaaDoor.P
open Go.RowKit Go.Proofs.YtgnmledjkamojaaDoorW.PrintWords Go.Proofs.YtgnmledjkamojaaDoorW.PrintLast Go.Proofs.YtgnmledjkamojaaDoorW.PrintMore
attribute [local go_sem] max2_int min2_int max_two min_two max_three min_three max_four min_four
set_option linter.unusedVariables false
set_option linter.unusedSimpArgs false

/-! ### impl_over: function 70 -/
def impl_over.f (a0 : ByteArray) (a1 : ByteArray) : Option (Bool) := if a0.size + 1 ≤ 9223372036854775807 then ((strings_HasPrefix.f a1 (a0 ++ (⟨#[47]⟩ : ByteArray))).bind fun a2 => (some a2)) else (none)
set_option maxHeartbeats 8000000 in
set_option maxRecDepth 100000 in
theorem impl_over.calls (a0 : ByteArray) (a1 : ByteArray) (r : Bool) (w : World) (h : impl_over.f a0 a1 = some r) :
  Calls Tryd.prog 70 #[.string a0, .string a1] w fun e w' => e = .returned (.bool r) ∧ Drawn0 w w' := by
 have H : (if a0.size + 1 ≤ 9223372036854775807 then ((strings_HasPrefix.f a1 (a0 ++ (⟨#[47]⟩ : ByteArray))).bind fun a2 => (some a2)) else (none)) = some r := h; clear h
 by_cases c3 : a0.size + 1 ≤ 9223372036854775807
 ·rw [if_pos c3] at H
  have c3b0 := eq_true c3; have c3b1 : decide (a0.size + 1 ≤ 9223372036854775807) = true := decide_eq_true c3
  try have c3b2 : (9223372036854775807 < a0.size + 1) = False := eq_false (Nat.not_lt.2 c3)
  replace H := Option.bind_eq_some_iff.mp H; obtain ⟨a2, A40, H⟩ := H; replace H : (some a2) = some r := H; have A4 := Aside0.mk A40; clear A40; obtain rfl := Option.some.inj H
  go_enter Tryd.func70, Tryd.ntmps70
  go_wp2_with (first | ((with_reducible refine gc 141 rfl ?_); refine gl (some 8) _ (#[.string a1, .string (a0 ++ (⟨#[47]⟩ : ByteArray))]) Tryd.func141 ?_; (with_reducible refine (strings_HasPrefix.calls a1 (a0 ++ (⟨#[47]⟩ : ByteArray)) a2 _ A4.out).mono ?_); rintro e w' ⟨rfl, ⟨nd, rfl⟩⟩; refine ⟨_, rfl, ?_⟩))
  go_ret
  exact ⟨Ye1, dz⟩
 ·rw [if_neg c3] at H
  exact absurd H (by simp)


end Go.Proofs.YtgnmledjkamojaaDoor.P


namespace Go.Proofs.YtgnmledjkamojaaDoor.P
open Go.RowKit Go.Proofs.YtgnmledjkamojaaDoorW.PrintWords Go.Proofs.YtgnmledjkamojaaDoorW.PrintLast Go.Proofs.YtgnmledjkamojaaDoorW.PrintMore
attribute [local go_sem] max2_int min2_int max_two min_two max_three min_three max_four min_four
set_option linter.unusedVariables false
set_option linter.unusedSimpArgs false

/-! ### impl_ValidTree: function 25 -/
mutual
def impl_ValidTree.l0 : Nat → List (S37) → Int → Int → List (S37) → Option (Bool)
 | 0, _, _, _, _ => none
 | k + 1, x11, x12, x13, aa => if x13 < x12 then (if 0 ≤ x13 then (if x13 < (x11.length : Int) then ((impl_goodEntry.f k ((rd_T37 x11 x13).f0) ((rd_T37 x11 x13).f1) ((rd_T37 x11 x13).f2)).bind fun aD => (if aD = true then (if x13 > 0 then (if 0 ≤ (wrap64 (x13 - 1)) then (if (wrap64 (x13 - 1)) < (aa.length : Int) then (impl_ValidTree.j1 k x13 x11 x12 x13 (!(Op.bytesLess (((rd_T37 aa (wrap64 (x13 - 1))).f0).toList) (((rd_T37 x11 x13).f0).toList))) aa ((rd_T37 x11 x13).f0) ((rd_T37 x11 x13).f1) ((rd_T37 x11 x13).f2)) else (none)) else (none)) else (impl_ValidTree.j1 k x13 x11 x12 x13 false aa ((rd_T37 x11 x13).f0) ((rd_T37 x11 x13).f1) ((rd_T37 x11 x13).f2))) else (impl_ValidTree.j1 k x13 x11 x12 x13 true aa ((rd_T37 x11 x13).f0) ((rd_T37 x11 x13).f1) ((rd_T37 x11 x13).f2)))) else (none)) else (none)) else (some true)
def impl_ValidTree.j1 : Nat → Int → List (S37) → Int → Int → Bool → List (S37) → ByteArray → ByteArray → Bool → Option (Bool)
 | 0, _, _, _, _, _, _, _, _, _ => none
 | k + 1, x3, x11, x12, x13, x36, aa, aE, aN, aO => if x36 = true then (some false) else (impl_ValidTree.l1 k x3 0 x11 x12 x13 aa aE aN aO)
def impl_ValidTree.l1 : Nat → Int → Int → List (S37) → Int → Int → List (S37) → ByteArray → ByteArray → Bool → Option (Bool)
 | 0, _, _, _, _, _, _, _, _, _ => none
 | k + 1, x3, x5, x11, x12, x13, aa, aE, aN, aO => if x5 < x3 then (if 0 ≤ x5 then (if x5 < (aa.length : Int) then ((impl_over.f ((rd_T37 aa x5).f0) aE).bind fun aF => (if aF = true then (some false) else (impl_ValidTree.l1 k x3 (wrap64 (x5 + 1)) x11 x12 x13 aa aE aN aO))) else (none)) else (none)) else (impl_ValidTree.l0 k x11 x12 (wrap64 (x13 + 1)) aa)
end
def impl_ValidTree.f (k : Nat) (a1 : List (S37)) : Option (Bool) := if (a1.length : Int) > 100 then (some false) else (impl_ValidTree.l0 k a1 (a1.length : Int) 0 a1)
theorem impl_ValidTree.mono_l : ∀ k, (∀ y0 y1 y2 y3, LeO (impl_ValidTree.l0 k y0 y1 y2 y3) (impl_ValidTree.l0 (k + 1) y0 y1 y2 y3)) ∧ (∀ y0 y1 y2 y3 y4 y5 y6 y7 y8, LeO (impl_ValidTree.j1 k y0 y1 y2 y3 y4 y5 y6 y7 y8) (impl_ValidTree.j1 (k + 1) y0 y1 y2 y3 y4 y5 y6 y7 y8)) ∧ (∀ y0 y1 y2 y3 y4 y5 y6 y7 y8, LeO (impl_ValidTree.l1 k y0 y1 y2 y3 y4 y5 y6 y7 y8) (impl_ValidTree.l1 (k + 1) y0 y1 y2 y3 y4 y5 y6 y7 y8))
 | 0 => ⟨fun _ _ _ _ r h => by simp [impl_ValidTree.l0] at h, fun _ _ _ _ _ _ _ _ _ r h => by simp [impl_ValidTree.j1] at h, fun _ _ _ _ _ _ _ _ _ r h => by simp [impl_ValidTree.l1] at h⟩
 | k + 1 => by
  obtain ⟨ih0, ih1, ih2⟩ := impl_ValidTree.mono_l k; refine ⟨?_, ?_, ?_⟩
  ·intro y0 y1 y2 y3
   unfold impl_ValidTree.l0
   repeat' first
   | (with_reducible exact ih0 _ _ _ _)
   | (with_reducible exact ih1 _ _ _ _ _ _ _ _ _)
   | (with_reducible exact ih2 _ _ _ _ _ _ _ _ _)
   | (with_reducible exact impl_goodEntry.mono _ _ _ _)
   | (with_reducible exact LeO.refl _)
   | (with_reducible exact LeO.none _)
   | (with_reducible refine LeO.ite ?_ ?_)
   | (with_reducible refine LeO.bind ?_ (fun _ => ?_))
   | exact ih0 _ _ _ _
   | exact ih1 _ _ _ _ _ _ _ _ _
   | exact ih2 _ _ _ _ _ _ _ _ _
   | exact impl_goodEntry.mono _ _ _ _
   | exact LeO.none _
   | refine LeO.ite ?_ ?_
   | refine LeO.bind ?_ (fun _ => ?_)
  ·intro y0 y1 y2 y3 y4 y5 y6 y7 y8
   unfold impl_ValidTree.j1
   repeat' first
   | (with_reducible exact ih0 _ _ _ _)
   | (with_reducible exact ih1 _ _ _ _ _ _ _ _ _)
   | (with_reducible exact ih2 _ _ _ _ _ _ _ _ _)
   | (with_reducible exact impl_goodEntry.mono _ _ _ _)
   | (with_reducible exact LeO.refl _)
   | (with_reducible exact LeO.none _)
   | (with_reducible refine LeO.ite ?_ ?_)
   | (with_reducible refine LeO.bind ?_ (fun _ => ?_))
   | exact ih0 _ _ _ _
   | exact ih1 _ _ _ _ _ _ _ _ _
   | exact ih2 _ _ _ _ _ _ _ _ _
   | exact impl_goodEntry.mono _ _ _ _
   | exact LeO.none _
   | refine LeO.ite ?_ ?_
   | refine LeO.bind ?_ (fun _ => ?_)
  ·intro y0 y1 y2 y3 y4 y5 y6 y7 y8
   unfold impl_ValidTree.l1
   repeat' first
   | (with_reducible exact ih0 _ _ _ _)
   | (with_reducible exact ih1 _ _ _ _ _ _ _ _ _)
   | (with_reducible exact ih2 _ _ _ _ _ _ _ _ _)
   | (with_reducible exact impl_goodEntry.mono _ _ _ _)
   | (with_reducible exact LeO.refl _)
   | (with_reducible exact LeO.none _)
   | (with_reducible refine LeO.ite ?_ ?_)
   | (with_reducible refine LeO.bind ?_ (fun _ => ?_))
   | exact ih0 _ _ _ _
   | exact ih1 _ _ _ _ _ _ _ _ _
   | exact ih2 _ _ _ _ _ _ _ _ _
   | exact impl_goodEntry.mono _ _ _ _
   | exact LeO.none _
   | refine LeO.ite ?_ ?_
   | refine LeO.bind ?_ (fun _ => ?_)
theorem impl_ValidTree.mono : ∀ a0 k, LeO (impl_ValidTree.f k a0) (impl_ValidTree.f (k + 1) a0) := by
 intro a0 k; obtain ⟨ih0, ih1, ih2⟩ := impl_ValidTree.mono_l k
 unfold impl_ValidTree.f
 repeat' first
   | (with_reducible exact ih0 _ _ _ _)
   | (with_reducible exact ih1 _ _ _ _ _ _ _ _ _)
   | (with_reducible exact ih2 _ _ _ _ _ _ _ _ _)
   | (with_reducible exact impl_goodEntry.mono _ _ _ _)
   | (with_reducible exact LeO.refl _)
   | (with_reducible exact LeO.none _)
   | (with_reducible refine LeO.ite ?_ ?_)
   | (with_reducible refine LeO.bind ?_ (fun _ => ?_))
   | exact ih0 _ _ _ _
   | exact ih1 _ _ _ _ _ _ _ _ _
   | exact ih2 _ _ _ _ _ _ _ _ _
   | exact impl_goodEntry.mono _ _ _ _
   | exact LeO.none _
   | refine LeO.ite ?_ ?_
   | refine LeO.bind ?_ (fun _ => ?_)
def impl_ValidTree.T6 : Bool × List (List Nat × List Nat) := (true, [([], []), ([0], [0]), ([1], [1]), ([2, 1], [2]), ([3], [3]), ([4, 3], [3, 4]), ([5, 3, 3], [3, 5]), ([6], [6]), ([7, 6], [6, 7]), ([6], [6]), ([9, 6], [6, 9]), ([8, 10, 6], [6, 8, 10]), ([11, 6], [6, 11]), ([12, 6], [6, 12]), ([6], [6]), ([14, 6], [6, 14]), ([13, 15, 6], [6, 13, 15]), ([6, 16, 3], [3, 6, 16]), ([3, 17], [3, 17])])
def impl_ValidTree.B6 : List Nat := [0, 1, 3, 7, 15, 31, 63, 127, 255, 127, 639, 2047, 4095, 8191, 127, 16511, 65535, 131071, 262143]
theorem impl_ValidTree.tab6 : rtab .any (opsOf Tryd.f25 6) = impl_ValidTree.T6 := by kernel_rfl
theorem impl_ValidTree.bits6 : waitsOk impl_ValidTree.T6.2 impl_ValidTree.B6 = true := by kernel_rfl
def impl_ValidTree.T11 : Bool × List (List Nat × List Nat) := (true, [([], []), ([0], [0]), ([], []), ([1, 2], [1, 2]), ([3], [3]), ([4], [4]), ([], []), ([6], [6]), ([5, 7], [5, 7])])
def impl_ValidTree.B11 : List Nat := [0, 1, 0, 7, 15, 31, 0, 64, 255]
theorem impl_ValidTree.tab11 : rtab .any (opsOf Tryd.f25 11) = impl_ValidTree.T11 := by kernel_rfl
theorem impl_ValidTree.bits11 : waitsOk impl_ValidTree.T11.2 impl_ValidTree.B11 = true := by kernel_rfl
set_option maxHeartbeats 8000000 in
set_option maxRecDepth 100000 in
theorem impl_ValidTree.calls (k : Nat) (ax : Option Addr) (a9 : Nat) (a1 : List (S37)) (r : Bool) (w : World) (hg : GOK w) (aY : Kd.C k37 w ax a1.length a1) (aZ : a1.length ≤ a9) (h : impl_ValidTree.f k a1 = some r) :
  Calls Tryd.prog 25 #[.agg #[.slice ax a1.length a9]] w fun e w' => e = .returned (.bool r) ∧ Below w.heap.size w w' := by
 have HG := Aside0.mk hg; clear hg; have hu28 := Tryd.underlying28; have hu37 := Tryd.underlying37; have aG := Aside0.mk aY; have HC0_0 := Aside0.mk aZ; clear aY aZ; have HB := Aside0.mk (Below.refl w.heap.size w); have H : (if (a1.length : Int) > 100 then (some false) else (impl_ValidTree.l0 k a1 (a1.length : Int) 0 a1)) = some r := h; clear h
 by_cases c2 : (a1.length : Int) > 100
 ·rw [if_pos c2] at H
  have b0 : decide (100 < (a1.length : Int)) = true := decide_eq_true c2; have b1 : decide (100 < a1.length) = true := decide_eq_true (by omega); clear c2; obtain rfl := Option.some.inj H
  go_enter Tryd.func25, Tryd.ntmps25
  go_wp2_with (first | ((with_reducible refine gd 1 rfl ?_); refine bx 1 28 (#[.slice ax a1.length a9]) ?_; intro af hg w3 hbox hb; refine Ya4 (below_step (be HB.out) hb) (hbox) (bs hg (be HB.out)) (bs hg (be HB.out)) ?_; clear HB; intro HB a4 bn bo; clear hb hbox hg; have ⟨aP, aQ⟩ := Yc1 a4.out))
  go_ret
  exact ⟨Ye2, (bf HB.out)⟩
 ·rw [if_neg c2] at H
  have b0 : decide (100 < (a1.length : Int)) = false := decide_eq_false c2; have b1 : decide (100 < a1.length) = false := decide_eq_false (by omega); clear c2; have H' := Aside0.mk H; clear H
  go_enter Tryd.func25, Tryd.ntmps25
  go_wp2_with (first | ((with_reducible refine gd 1 rfl ?_); refine bx 1 28 (#[.slice ax a1.length a9]) ?_; intro af hg w5 hbox hb; refine Ya4 (below_step (be HB.out) hb) (hbox) (bs hg (be HB.out)) (bs hg (be HB.out)) ?_; clear HB; intro HB a4 bn bo; clear hb hbox hg; have ⟨aR, aS⟩ := Yc1 a4.out))
  go_loopg [13] k (fun kq v13 w' => ∃ (a2 : Int), v13 = .int .i64 a2 ∧ Aside0 (impl_ValidTree.l0 kq a1 (a1.length : Int) a2 a1 = some r) ∧ Aside0 (kq ≤ k) ∧ Aside0 (w'.heap[af]? = some (.cells #[(.slice ax a1.length a9)] 28 (0, 0))) ∧ Aside0 (Below w.heap.size w w'))
  case atStart => exact ⟨(0), Ye1, H', ⟨Nat.le_refl _⟩, ⟨bk a4.out⟩, ⟨bf HB.out⟩⟩
  case round =>
   clear H'; (try clear c2); (try clear b0); (try clear b1); (try clear p2); (try clear aP); (try clear aR); (try clear aQ); (try clear aS); obtain ⟨a2, rfl, HA, HK1, a4, HB⟩ := hrel
   cases gk with
   | zero => exact absurd HA.out (by simp [impl_ValidTree.l0])
   | succ k1 =>
    have H := HA.out; clear HA; simp only [impl_ValidTree.l0] at H
    by_cases c7 : a2 < (a1.length : Int)
    ·rw [if_pos c7] at H
     have aT : decide (a2 < (a1.length : Int)) = true := decide_eq_true c7; clear c7
     by_cases c8 : 0 ≤ a2
     ·rw [if_pos c8] at H
      have b2 : decide (0 ≤ a2) = true := decide_eq_true c8; clear c8
      by_cases c9 : a2 < (a1.length : Int)
      ·rw [if_pos c9] at H
       have b3 : decide (a2 < (a1.length : Int)) = true := decide_eq_true c9; clear c9; have aU := Aside0.mk H; clear H; have ay : 0 ≤ (a2 : Int) := oda; have az : a2 < (a1.length : Int) := oda; obtain ⟨a7, bq, b4, b5, b6⟩ := at_T37 (Kd.C_below aG.out HB.out) a2 ay az
       cases bq
       replace ay := eq_true ay; replace az := eq_true az
       go_upto_region 6 with (first | ((with_reducible refine gd 4 rfl ?_); refine bx 4 37 (#[.string (⟨#[]⟩ : ByteArray), .string (⟨#[]⟩ : ByteArray), .bool false]) ?_; intro a5 hg ab hbox hb; refine Ya7 (bb a4 hb) (below_step (bf HB.out) hb) (hbox) (bs hg (bf HB.out)) (bs hg (bf HB.out)) (bl hg a4) (br hg a4) ?_; clear a4 HB; intro a4 HB a3 GW207 GE207 aH bu; clear hb hbox hg; have hnb12 := bu.out; have hnc12 := aH.out; have ⟨b7, b8, b9, ba, bd, bg⟩ := Yc3 a3.out))
       (try simp only [Act.put, List.setIfInBounds_toArray, List.set_cons_zero, List.set_cons_succ])
       go_cut [36] (fun v36 wc => ∃ (kq : Nat) (aI : Bool), v36 = .bool aI ∧ Aside0 (impl_ValidTree.j1 kq a2 a1 (a1.length : Int) a2 aI a1 ((rd_T37 a1 a2).f0) ((rd_T37 a1 a2).f1) ((rd_T37 a1 a2).f2) = some r) ∧ Aside0 (kq ≤ k1) ∧ Aside0 (wc.heap[af]? = some (.cells #[(.slice (some a7) a1.length a9)] 28 (0, 0))) ∧ Aside0 (wc.heap[a5]? = some (.cells #[.string ((rd_T37 a1 a2).f0), .string ((rd_T37 a1 a2).f1), .bool ((rd_T37 a1 a2).f2)] 37 (0, 0))) ∧ Aside0 (Below w.heap.size w wc))
       case first =>
        have H := aU.out; clear aU; replace H := Option.bind_eq_some_iff.mp H; obtain ⟨aD, bh, H⟩ := H; replace H : (if aD = true then (if a2 > 0 then (if 0 ≤ (wrap64 (a2 - 1)) then (if (wrap64 (a2 - 1)) < (a1.length : Int) then (impl_ValidTree.j1 k1 a2 a1 (a1.length : Int) a2 (!(Op.bytesLess (((rd_T37 a1 (wrap64 (a2 - 1))).f0).toList) (((rd_T37 a1 a2).f0).toList))) a1 ((rd_T37 a1 a2).f0) ((rd_T37 a1 a2).f1) ((rd_T37 a1 a2).f2)) else (none)) else (none)) else (impl_ValidTree.j1 k1 a2 a1 (a1.length : Int) a2 false a1 ((rd_T37 a1 a2).f0) ((rd_T37 a1 a2).f1) ((rd_T37 a1 a2).f2))) else (impl_ValidTree.j1 k1 a2 a1 (a1.length : Int) a2 true a1 ((rd_T37 a1 a2).f0) ((rd_T37 a1 a2).f1) ((rd_T37 a1 a2).f2))) = some r := H; have aJ := Aside0.mk bh; clear bh
        by_cases ao : aD = true
        ·subst ao
         have H1 : (if a2 > 0 then (if 0 ≤ (wrap64 (a2 - 1)) then (if (wrap64 (a2 - 1)) < (a1.length : Int) then (impl_ValidTree.j1 k1 a2 a1 (a1.length : Int) a2 (!(Op.bytesLess (((rd_T37 a1 (wrap64 (a2 - 1))).f0).toList) (((rd_T37 a1 a2).f0).toList))) a1 ((rd_T37 a1 a2).f0) ((rd_T37 a1 a2).f1) ((rd_T37 a1 a2).f2)) else (none)) else (none)) else (impl_ValidTree.j1 k1 a2 a1 (a1.length : Int) a2 false a1 ((rd_T37 a1 a2).f0) ((rd_T37 a1 a2).f1) ((rd_T37 a1 a2).f2))) = some r := by rw [if_pos rfl] at H; exact H
         clear H; have H := H1; clear H1
         by_cases aj : a2 > 0
         ·rw [if_pos aj] at H
          have ak : decide (0 < a2) = true := decide_eq_true aj; clear aj; (first | rw [ak] | (simp only [i64_w, i32_w]; rw [ak]) | skip)
          obtain ⟨a8, al⟩ : ∃ j_ : Int, (wrap64 (a2 - 1)) = j_ := ⟨_, rfl⟩
          replace H : (if 0 ≤ (a8) then (if (a8) < (a1.length : Int) then (impl_ValidTree.j1 k1 a2 a1 (a1.length : Int) a2 (!(Op.bytesLess (((rd_T37 a1 (a8)).f0).toList) (((rd_T37 a1 a2).f0).toList))) a1 ((rd_T37 a1 a2).f0) ((rd_T37 a1 a2).f1) ((rd_T37 a1 a2).f2)) else (none)) else (none)) = some r := by first | (rw [al] at H; exact H) | (simp only [al] at H ⊢; exact H)
          (try rw [al] at aJ); have hji17w : (IntKind.i64.wrap (a2 - 1)) = a8 := (i64_w _).trans al
          by_cases ap : 0 ≤ (a8)
          ·rw [if_pos ap] at H
           have bi : decide (0 ≤ (a8)) = true := decide_eq_true ap; clear ap
           by_cases aq : (a8) < (a1.length : Int)
           ·rw [if_pos aq] at H
            have bj : decide ((a8) < (a1.length : Int)) = true := decide_eq_true aq; clear aq; have H' := Aside0.mk H; clear H
            try go_wp2
            have ac : Aside0 ((((ab.setCell ⟨a5, 0, none⟩ (.string ((rd_T37 a1 a2).f0))).setCell ⟨a5, 1, none⟩ (.string ((rd_T37 a1 a2).f1))).setCell ⟨a5, 2, none⟩ (.bool ((rd_T37 a1 a2).f2))).heap[af]? = some (.cells #[.slice (some a7) a1.length a9] 28 (0, 0))) := ⟨bkf a4.out aH.out⟩
            have ad : Aside0 ((((ab.setCell ⟨a5, 0, none⟩ (.string ((rd_T37 a1 a2).f0))).setCell ⟨a5, 1, none⟩ (.string ((rd_T37 a1 a2).f1))).setCell ⟨a5, 2, none⟩ (.bool ((rd_T37 a1 a2).f2))).heap[a5]? = some (.cells #[.string ((rd_T37 a1 a2).f0), .string ((rd_T37 a1 a2).f1), .bool ((rd_T37 a1 a2).f2)] 37 (0, 0))) := ⟨bp a3.out⟩
            have ae : Aside0 (Below w.heap.size w (((ab.setCell ⟨a5, 0, none⟩ (.string ((rd_T37 a1 a2).f0))).setCell ⟨a5, 1, none⟩ (.string ((rd_T37 a1 a2).f1))).setCell ⟨a5, 2, none⟩ (.bool ((rd_T37 a1 a2).f2)))) := ⟨bf HB.out⟩
            (try clear a4); (try clear a3); (try clear HB); generalize (((ab.setCell ⟨a5, 0, none⟩ (.string ((rd_T37 a1 a2).f0))).setCell ⟨a5, 1, none⟩ (.string ((rd_T37 a1 a2).f1))).setCell ⟨a5, 2, none⟩ (.bool ((rd_T37 a1 a2).f2))) = w20 at ac ad ae ⊢; have a4 := ac; have a3 := ad; have HB := ae; clear ac ad ae; refine Ya3 (blk_drew a4.out) (blk_drew a3.out) (below_drew1 HB.out) ?_; clear a4 a3 HB; intro a4 a3 HB; have aA : 0 ≤ ((a8) : Int) := oda; have aB : (a8) < (a1.length : Int) := oda; obtain ⟨bv, bw, ar, au, av⟩ := at_T37 aG.out (a8) aA aB; have hw209_2 := av; have hw209_1 := au; have hw209_0 := ar
            obtain rfl : a7 = bv := (by injection bw)
            replace ar := pw_cell_below HB.out ar; replace au := pw_cell_below HB.out au; replace av := pw_cell_below HB.out av; replace aA := eq_true aA; replace aB := eq_true aB; refine start_ (n := 19) (S := fun w' => w'.cell? ⟨a5, 0, none⟩ = some (.string ((rd_T37 a1 a2).f0)) ∧ w'.cell? ⟨a5, 1, none⟩ = some (.string ((rd_T37 a1 a2).f1)) ∧ w'.cell? ⟨a5, 2, none⟩ = some (.bool ((rd_T37 a1 a2).f2)) ∧ w'.cell? ⟨af, 0, none⟩ = some (.slice (some a7) a1.length a9) ∧ w'.cell? (a7.add (((a8)).toNat * 3)) = some (.string ((rd_T37 a1 (a8)).f0)) ∧ w'.cell? ⟨(a7.add (((a8)).toNat * 3)).block, (a7.add (((a8)).toNat * 3)).off + 1, none⟩ = some (.string ((rd_T37 a1 (a8)).f1)) ∧ w'.cell? ⟨(a7.add (((a8)).toNat * 3)).block, (a7.add (((a8)).toNat * 3)).off + 2, none⟩ = some (.bool ((rd_T37 a1 (a8)).f2))) (ds := []) (fb 19 0) (by kernel_rfl) rfl rfl ⟨bc a3 0, bc a3 1, bc a3 2, bc a4 0, (pw_cell_below HB.out hw209_0), (pw_cell_below HB.out hw209_1), (pw_cell_below HB.out hw209_2)⟩ (fun hHeld => ?_); refine with_tabW impl_ValidTree.tab6 impl_ValidTree.bits6 (fun HT_ HW_ => ?_); generalize w20.drew = w21 at a4 a3 HB ar au av hHeld ⊢; refine tk 0 18 (fb 19 1) HT_ HW_ hHeld ?_; refine o1 1 (some 19) (fb 19 3) HT_ (fun K hK => ?_); refine gs _ (#[.agg #[.string ((rd_T37 a1 a2).f0), .string ((rd_T37 a1 a2).f1), .bool ((rd_T37 a1 a2).f2)]]) Tryd.func82 ?_; (with_reducible refine (impl_goodEntry.calls k1 ((rd_T37 a1 a2).f0) ((rd_T37 a1 a2).f1) ((rd_T37 a1 a2).f2) true _ ?sideG aJ.out).mono ?_; (case sideG => exact gf HG.out HB.out)); rintro e w22 ⟨rfl, hb⟩; refine ⟨_, rfl, ?_⟩; refine Ya3 (bb a4 hb) (bb a3 hb) (below_step (bf HB.out) hb) ?_; clear a4 a3 HB; intro a4 a3 HB; (try clear hb); (try clear hb2); (try clear hk); (try clear hi); refine hK.out _ _ ⟨bc a3 0, bc a3 1, bc a3 2, bc a4 0, (pw_cell_below HB.out hw209_0), (pw_cell_below HB.out hw209_1), (pw_cell_below HB.out hw209_2)⟩ (fun hHeld => ?_); clear hK K; refine nm 19 ?_; refine pu 2 20 (fb 19 7) HT_ ?_; refine pu 3 21 (fb 19 15) HT_ ?_; refine pu 4 22 (fb 19 31) HT_ ?_; refine pu 5 23 (fb 19 63) HT_ ?_; refine pu 6 24 (fb 19 127) HT_ ?_; refine pu 7 25 (fb 19 255) HT_ ?_; refine pu 9 27 (fb 19 767) HT_ ?_; refine pu 10 28 (fb 19 1791) HT_ ?_; refine pu 14 32 (fb 19 18175) HT_ ?_; refine tk 8 26 (fb 19 18431) HT_ HW_ hHeld ?_; refine pu 11 29 (fb 19 20479) HT_ ?_; refine pu 12 30 (fb 19 24575) HT_ ?_; refine tk 13 31 (fb 19 32767) HT_ HW_ hHeld ?_; refine tk 15 33 (fb 19 65535) HT_ HW_ hHeld ?_; refine pu 16 34 (fb 19 131071) HT_ ?_; refine pu 17 35 (fb 19 262143) HT_ ?_; refine pu 18 36 (fb 19 524287) HT_ ?_; refine done_ (done_of HT_.out (by kernel_rfl)) ?_
            try go_wp2
            go_meet
            case rel => exact ⟨_, (!(Op.bytesLess (((rd_T37 a1 (a8)).f0).toList) (((rd_T37 a1 a2).f0).toList))), (by first | rfl | (simp; done) | (simp only [← al] <;> (first | rfl | simp)) | (simp [*]; done)), (by first | exact H' | (subst al; exact H') | (simp only [← al] at H' ⊢; exact H')), ⟨by have := HK1.out; first | omega | exact Nat.le_refl _⟩, ⟨bk a4.out⟩, ⟨bk a3.out⟩, ⟨bf HB.out⟩⟩
           ·rw [if_neg aq] at H
            exact absurd H (by simp)
          ·rw [if_neg ap] at H
           exact absurd H (by simp)
         ·rw [if_neg aj] at H
          have ak : decide (0 < a2) = false := decide_eq_false aj; clear aj; (first | rw [ak] | (simp only [i64_w, i32_w]; rw [ak]) | skip); have H' := Aside0.mk H; clear H
          try go_wp2
          have ac : Aside0 ((((ab.setCell ⟨a5, 0, none⟩ (.string ((rd_T37 a1 a2).f0))).setCell ⟨a5, 1, none⟩ (.string ((rd_T37 a1 a2).f1))).setCell ⟨a5, 2, none⟩ (.bool ((rd_T37 a1 a2).f2))).heap[af]? = some (.cells #[.slice (some a7) a1.length a9] 28 (0, 0))) := ⟨bkf a4.out aH.out⟩
          have ad : Aside0 ((((ab.setCell ⟨a5, 0, none⟩ (.string ((rd_T37 a1 a2).f0))).setCell ⟨a5, 1, none⟩ (.string ((rd_T37 a1 a2).f1))).setCell ⟨a5, 2, none⟩ (.bool ((rd_T37 a1 a2).f2))).heap[a5]? = some (.cells #[.string ((rd_T37 a1 a2).f0), .string ((rd_T37 a1 a2).f1), .bool ((rd_T37 a1 a2).f2)] 37 (0, 0))) := ⟨bp a3.out⟩
          have ae : Aside0 (Below w.heap.size w (((ab.setCell ⟨a5, 0, none⟩ (.string ((rd_T37 a1 a2).f0))).setCell ⟨a5, 1, none⟩ (.string ((rd_T37 a1 a2).f1))).setCell ⟨a5, 2, none⟩ (.bool ((rd_T37 a1 a2).f2)))) := ⟨bf HB.out⟩
          (try clear a4); (try clear a3); (try clear HB); generalize (((ab.setCell ⟨a5, 0, none⟩ (.string ((rd_T37 a1 a2).f0))).setCell ⟨a5, 1, none⟩ (.string ((rd_T37 a1 a2).f1))).setCell ⟨a5, 2, none⟩ (.bool ((rd_T37 a1 a2).f2))) = w23 at ac ad ae ⊢; have a4 := ac; have a3 := ad; have HB := ae; clear ac ad ae; refine Ya3 (blk_drew a4.out) (blk_drew a3.out) (below_drew1 HB.out) ?_; clear a4 a3 HB; intro a4 a3 HB; refine start_ (n := 19) (S := fun w' => w'.cell? ⟨a5, 0, none⟩ = some (.string ((rd_T37 a1 a2).f0)) ∧ w'.cell? ⟨a5, 1, none⟩ = some (.string ((rd_T37 a1 a2).f1)) ∧ w'.cell? ⟨a5, 2, none⟩ = some (.bool ((rd_T37 a1 a2).f2))) (ds := []) (fb 19 0) (by kernel_rfl) rfl rfl ⟨bc a3 0, bc a3 1, bc a3 2⟩ (fun hHeld => ?_); refine with_tabW impl_ValidTree.tab6 impl_ValidTree.bits6 (fun HT_ HW_ => ?_); generalize w23.drew = w24 at a4 a3 HB hHeld ⊢; refine tk 0 18 (fb 19 1) HT_ HW_ hHeld ?_; refine o1 1 (some 19) (fb 19 3) HT_ (fun K hK => ?_); refine gs _ (#[.agg #[.string ((rd_T37 a1 a2).f0), .string ((rd_T37 a1 a2).f1), .bool ((rd_T37 a1 a2).f2)]]) Tryd.func82 ?_; (with_reducible refine (impl_goodEntry.calls k1 ((rd_T37 a1 a2).f0) ((rd_T37 a1 a2).f1) ((rd_T37 a1 a2).f2) true _ ?sideG aJ.out).mono ?_; (case sideG => exact gf HG.out HB.out)); rintro e w25 ⟨rfl, hb⟩; refine ⟨_, rfl, ?_⟩; refine Ya3 (bb a4 hb) (bb a3 hb) (below_step (bf HB.out) hb) ?_; clear a4 a3 HB; intro a4 a3 HB; (try clear hb); (try clear hb2); (try clear hk); (try clear hi); refine hK.out _ _ ⟨bc a3 0, bc a3 1, bc a3 2⟩ (fun hHeld => ?_); clear hK K; refine nm 19 ?_; refine pu 2 20 (fb 19 7) HT_ ?_; refine pu 3 21 (fb 19 15) HT_ ?_; refine pu 4 22 (fb 19 31) HT_ ?_; refine pu 5 23 (fb 19 63) HT_ ?_; refine pu 6 24 (fb 19 127) HT_ ?_; refine pn 7 25 (fb 19 255) HT_ ?_; refine pn 8 26 (fb 19 511) HT_ ?_; refine pn 9 27 (fb 19 1023) HT_ ?_; refine pn 10 28 (fb 19 2047) HT_ ?_; refine pn 11 29 (fb 19 4095) HT_ ?_; refine pn 12 30 (fb 19 8191) HT_ ?_; refine pn 13 31 (fb 19 16383) HT_ ?_; refine pn 14 32 (fb 19 32767) HT_ ?_; refine pn 15 33 (fb 19 65535) HT_ ?_; refine pn 16 34 (fb 19 131071) HT_ ?_; refine pu 17 35 (fb 19 262143) HT_ ?_; refine pu 18 36 (fb 19 524287) HT_ ?_; refine done_ (done_of HT_.out (by kernel_rfl)) ?_
          try go_wp2
          go_meet
          case rel => exact ⟨_, (false), Ye1, H', ⟨by have := HK1.out; first | omega | exact Nat.le_refl _⟩, ⟨bk a4.out⟩, ⟨bk a3.out⟩, ⟨bf HB.out⟩⟩
        ·replace ao := Bool.eq_false_iff.mpr ao; subst ao
         have H1 : (impl_ValidTree.j1 k1 a2 a1 (a1.length : Int) a2 true a1 ((rd_T37 a1 a2).f0) ((rd_T37 a1 a2).f1) ((rd_T37 a1 a2).f2)) = some r := by rw [if_neg (show ¬ (false = true) by decide)] at H; exact H
         clear H; have H := H1; clear H1; have H' := Aside0.mk H; clear H
         try go_wp2
         have ac : Aside0 ((((ab.setCell ⟨a5, 0, none⟩ (.string ((rd_T37 a1 a2).f0))).setCell ⟨a5, 1, none⟩ (.string ((rd_T37 a1 a2).f1))).setCell ⟨a5, 2, none⟩ (.bool ((rd_T37 a1 a2).f2))).heap[af]? = some (.cells #[.slice (some a7) a1.length a9] 28 (0, 0))) := ⟨bkf a4.out aH.out⟩
         have ad : Aside0 ((((ab.setCell ⟨a5, 0, none⟩ (.string ((rd_T37 a1 a2).f0))).setCell ⟨a5, 1, none⟩ (.string ((rd_T37 a1 a2).f1))).setCell ⟨a5, 2, none⟩ (.bool ((rd_T37 a1 a2).f2))).heap[a5]? = some (.cells #[.string ((rd_T37 a1 a2).f0), .string ((rd_T37 a1 a2).f1), .bool ((rd_T37 a1 a2).f2)] 37 (0, 0))) := ⟨bp a3.out⟩
         have ae : Aside0 (Below w.heap.size w (((ab.setCell ⟨a5, 0, none⟩ (.string ((rd_T37 a1 a2).f0))).setCell ⟨a5, 1, none⟩ (.string ((rd_T37 a1 a2).f1))).setCell ⟨a5, 2, none⟩ (.bool ((rd_T37 a1 a2).f2)))) := ⟨bf HB.out⟩
         (try clear a4); (try clear a3); (try clear HB); generalize (((ab.setCell ⟨a5, 0, none⟩ (.string ((rd_T37 a1 a2).f0))).setCell ⟨a5, 1, none⟩ (.string ((rd_T37 a1 a2).f1))).setCell ⟨a5, 2, none⟩ (.bool ((rd_T37 a1 a2).f2))) = w26 at ac ad ae ⊢; have a4 := ac; have a3 := ad; have HB := ae; clear ac ad ae; refine Ya3 (blk_drew a4.out) (blk_drew a3.out) (below_drew1 HB.out) ?_; clear a4 a3 HB; intro a4 a3 HB; refine start_ (n := 19) (S := fun w' => w'.cell? ⟨a5, 0, none⟩ = some (.string ((rd_T37 a1 a2).f0)) ∧ w'.cell? ⟨a5, 1, none⟩ = some (.string ((rd_T37 a1 a2).f1)) ∧ w'.cell? ⟨a5, 2, none⟩ = some (.bool ((rd_T37 a1 a2).f2))) (ds := []) (fb 19 0) (by kernel_rfl) rfl rfl ⟨bc a3 0, bc a3 1, bc a3 2⟩ (fun hHeld => ?_); refine with_tabW impl_ValidTree.tab6 impl_ValidTree.bits6 (fun HT_ HW_ => ?_); generalize w26.drew = w27 at a4 a3 HB hHeld ⊢; refine tk 0 18 (fb 19 1) HT_ HW_ hHeld ?_; refine o1 1 (some 19) (fb 19 3) HT_ (fun K hK => ?_); refine gs _ (#[.agg #[.string ((rd_T37 a1 a2).f0), .string ((rd_T37 a1 a2).f1), .bool ((rd_T37 a1 a2).f2)]]) Tryd.func82 ?_; (with_reducible refine (impl_goodEntry.calls k1 ((rd_T37 a1 a2).f0) ((rd_T37 a1 a2).f1) ((rd_T37 a1 a2).f2) false _ ?sideG aJ.out).mono ?_; (case sideG => exact gf HG.out HB.out)); rintro e w28 ⟨rfl, hb⟩; refine ⟨_, rfl, ?_⟩; refine Ya3 (bb a4 hb) (bb a3 hb) (below_step (bf HB.out) hb) ?_; clear a4 a3 HB; intro a4 a3 HB; (try clear hb); (try clear hb2); (try clear hk); (try clear hi); refine hK.out _ _ ⟨bc a3 0, bc a3 1, bc a3 2⟩ (fun hHeld => ?_); clear hK K; refine nm 19 ?_; refine pu 2 20 (fb 19 7) HT_ ?_; refine pu 3 21 (fb 19 15) HT_ ?_; refine pn 4 22 (fb 19 31) HT_ ?_; refine pn 5 23 (fb 19 63) HT_ ?_; refine pn 6 24 (fb 19 127) HT_ ?_; refine pn 7 25 (fb 19 255) HT_ ?_; refine pn 8 26 (fb 19 511) HT_ ?_; refine pn 9 27 (fb 19 1023) HT_ ?_; refine pn 10 28 (fb 19 2047) HT_ ?_; refine pn 11 29 (fb 19 4095) HT_ ?_; refine pn 12 30 (fb 19 8191) HT_ ?_; refine pn 13 31 (fb 19 16383) HT_ ?_; refine pn 14 32 (fb 19 32767) HT_ ?_; refine pn 15 33 (fb 19 65535) HT_ ?_; refine pn 16 34 (fb 19 131071) HT_ ?_; refine pn 17 35 (fb 19 262143) HT_ ?_; refine pu 18 36 (fb 19 524287) HT_ ?_; refine done_ (done_of HT_.out (by kernel_rfl)) ?_
         try go_wp2
         go_meet
         case rel => exact ⟨_, (true), Ye1, H', ⟨by have := HK1.out; first | omega | exact Nat.le_refl _⟩, ⟨bk a4.out⟩, ⟨bk a3.out⟩, ⟨bf HB.out⟩⟩
       case rest =>
        clear aU; (try clear c1); (try clear p2); (try clear q2); (try clear hx2); (try clear p6); (try clear c7); (try clear aT); (try clear c8); (try clear b2); (try clear c9); (try clear b3); (try clear c12); (try clear ao); (try clear aj); (try clear ak); (try clear ap); (try clear bi); (try clear aq); (try clear bj); (try clear p20); (try clear q20); (try clear hx20); (try clear b7); (try clear b8); (try clear b9); (try clear aP); (try clear aR); (try clear ba); (try clear bd); (try clear bg); (try clear aQ); (try clear aS); (try clear b4); (try clear b5); (try clear b6); (try clear ar); (try clear au); (try clear av); (try clear ay); (try clear aA); (try clear az); (try clear aB); obtain ⟨kq, aI, rfl, HA, HJ9, a4, a3, HB⟩ := hcut
        cases kq with
        | zero => exact absurd HA.out (by simp [impl_ValidTree.j1])
        | succ aV =>
         have H := HA.out; clear HA; simp only [impl_ValidTree.j1] at H
         by_cases aC : aI = true
         ·subst aC
          have H1 : (some false) = some r := by rw [if_pos rfl] at H; exact H
          clear H; have H := H1; clear H1; obtain rfl := Option.some.inj H
          go_wp2
          go_ret
          exact ⟨Ye2, (bf HB.out)⟩
         ·replace aC := Bool.eq_false_iff.mpr aC; subst aC
          have H1 : (impl_ValidTree.l1 aV a2 0 a1 (a1.length : Int) a2 a1 ((rd_T37 a1 a2).f0) ((rd_T37 a1 a2).f1) ((rd_T37 a1 a2).f2)) = some r := by rw [if_neg (show ¬ (false = true) by decide)] at H; exact H
          clear H; have H := H1; clear H1; have H' := Aside0.mk H; clear H
          go_wp2
          go_loopg [5] aV (fun kq v5 w' => ∃ (a6 : Int), v5 = .int .i64 a6 ∧ Aside0 (impl_ValidTree.l1 kq a2 a6 a1 (a1.length : Int) a2 a1 ((rd_T37 a1 a2).f0) ((rd_T37 a1 a2).f1) ((rd_T37 a1 a2).f2) = some r) ∧ Aside0 (kq ≤ aV) ∧ Aside0 (w'.heap[af]? = some (.cells #[(.slice (some a7) a1.length a9)] 28 (0, 0))) ∧ Aside0 (w'.heap[a5]? = some (.cells #[.string ((rd_T37 a1 a2).f0), .string ((rd_T37 a1 a2).f1), .bool ((rd_T37 a1 a2).f2)] 37 (0, 0))) ∧ Aside0 (Below w.heap.size w w'))
          case atStart => exact ⟨(0), Ye1, H', ⟨Nat.le_refl _⟩, ⟨bk a4.out⟩, ⟨bk a3.out⟩, ⟨bf HB.out⟩⟩
          case round =>
           clear H'; (try clear c1); (try clear c2); (try clear p2); (try clear q2); (try clear hx2); (try clear p6); (try clear c7); (try clear aT); (try clear c8); (try clear b2); (try clear c9); (try clear b3); (try clear c12); (try clear ao); (try clear aj); (try clear ak); (try clear ap); (try clear bi); (try clear aq); (try clear bj); (try clear p20); (try clear q20); (try clear hx20); (try clear aC); (try clear b7); (try clear b8); (try clear b9); (try clear aP); (try clear aR); (try clear ba); (try clear bd); (try clear bg); (try clear aQ); (try clear aS); (try clear b4); (try clear b5); (try clear b6); (try clear ar); (try clear au); (try clear av); (try clear p2); (try clear p20); (try clear ay); (try clear aA); (try clear p6); (try clear q2); (try clear q20); (try clear az); (try clear aB); obtain ⟨a6, rfl, HA, HK3, a4, a3, HB⟩ := hrel
           cases gk with
           | zero => exact absurd HA.out (by simp [impl_ValidTree.l1])
           | succ k3 =>
            have H := HA.out; clear HA; simp only [impl_ValidTree.l1] at H
            by_cases aw : a6 < a2
            ·rw [if_pos aw] at H
             have bz : decide (a6 < a2) = true := decide_eq_true aw; clear aw
             by_cases aK : 0 ≤ a6
             ·rw [if_pos aK] at H
              have c31b0 : decide (0 ≤ a6) = true := decide_eq_true aK; clear aK
              by_cases aL : a6 < (a1.length : Int)
              ·rw [if_pos aL] at H
               have c32b0 : decide (a6 < (a1.length : Int)) = true := decide_eq_true aL; clear aL; replace H := Option.bind_eq_some_iff.mp H; obtain ⟨aF, bm, H⟩ := H; replace H : (if aF = true then (some false) else (impl_ValidTree.l1 k3 a2 (wrap64 (a6 + 1)) a1 (a1.length : Int) a2 a1 ((rd_T37 a1 a2).f0) ((rd_T37 a1 a2).f1) ((rd_T37 a1 a2).f2))) = some r := H; have A33 := Aside0.mk bm; clear bm
               by_cases aM : aF = true
               ·subst aM
                have H1 : (some false) = some r := by rw [if_pos rfl] at H; exact H
                clear H; have H := H1; clear H1; obtain rfl := Option.some.inj H
                try go_wp2
                refine Ya3 (blk_drew a4.out) (blk_drew a3.out) (below_drew1 HB.out) ?_; clear a4 a3 HB; intro a4 a3 HB; have am : 0 ≤ (a6 : Int) := oda; have an : a6 < (a1.length : Int) := oda; obtain ⟨aW, aX, ag, ah, ai⟩ := at_T37 aG.out a6 am an; have hw210_2 := ai; have hw210_1 := ah; have hw210_0 := ag
                obtain rfl : a7 = aW := (by injection aX)
                replace ag := pw_cell_below HB.out ag; replace ah := pw_cell_below HB.out ah; replace ai := pw_cell_below HB.out ai; replace am := eq_true am; replace an := eq_true an; refine start_ (n := 9) (S := fun w' => w'.cell? ⟨af, 0, none⟩ = some (.slice (some a7) a1.length a9) ∧ w'.cell? ⟨a5, 0, none⟩ = some (.string ((rd_T37 a1 a2).f0)) ∧ w'.cell? ⟨a5, 1, none⟩ = some (.string ((rd_T37 a1 a2).f1)) ∧ w'.cell? ⟨a5, 2, none⟩ = some (.bool ((rd_T37 a1 a2).f2)) ∧ w'.cell? (a7.add ((a6).toNat * 3)) = some (.string ((rd_T37 a1 a6).f0)) ∧ w'.cell? ⟨(a7.add ((a6).toNat * 3)).block, (a7.add ((a6).toNat * 3)).off + 1, none⟩ = some (.string ((rd_T37 a1 a6).f1)) ∧ w'.cell? ⟨(a7.add ((a6).toNat * 3)).block, (a7.add ((a6).toNat * 3)).off + 2, none⟩ = some (.bool ((rd_T37 a1 a6).f2))) (ds := []) (fb 9 0) (by kernel_rfl) rfl rfl ⟨bc a4 0, bc a3 0, bc a3 1, bc a3 2, (pw_cell_below HB.out hw210_0), (pw_cell_below HB.out hw210_1), (pw_cell_below HB.out hw210_2)⟩ (fun hHeld => ?_); refine with_tabW impl_ValidTree.tab11 impl_ValidTree.bits11 (fun HT_ HW_ => ?_); generalize wr.drew = w35 at a4 a3 HB ag ah ai hHeld ⊢; refine pu 0 42 (fb 9 1) HT_ ?_; refine pu 2 44 (fb 9 5) HT_ ?_; refine pu 6 48 (fb 9 69) HT_ ?_; refine tk 1 43 (fb 9 71) HT_ HW_ hHeld ?_; refine pu 3 45 (fb 9 79) HT_ ?_; refine pu 4 46 (fb 9 95) HT_ ?_; refine tk 5 47 (fb 9 127) HT_ HW_ hHeld ?_; refine tk 7 49 (fb 9 255) HT_ HW_ hHeld ?_; refine o1 8 (some 50) (fb 9 511) HT_ (fun K hK => ?_); refine gs _ (#[.string ((rd_T37 a1 a6).f0), .string ((rd_T37 a1 a2).f0)]) Tryd.func70 ?_; (with_reducible refine (impl_over.calls ((rd_T37 a1 a6).f0) ((rd_T37 a1 a2).f0) true _ A33.out).mono ?_); rintro e w' ⟨rfl, ⟨nd, rfl⟩⟩; refine ⟨_, rfl, ?_⟩; refine hK.out _ _ ⟨bc a4 0, bc a3 0, bc a3 1, bc a3 2, (pw_cell_below HB.out hw210_0), (pw_cell_below HB.out hw210_1), (pw_cell_below HB.out hw210_2)⟩ (fun hHeld => ?_); clear hK K; refine nm 50 ?_; refine done_ (done_of HT_.out (by kernel_rfl)) ?_
                try go_wp2
                go_ret
                exact ⟨Ye2, (bf HB.out)⟩
               ·replace aM := Bool.eq_false_iff.mpr aM; subst aM
                have H1 : (impl_ValidTree.l1 k3 a2 (wrap64 (a6 + 1)) a1 (a1.length : Int) a2 a1 ((rd_T37 a1 a2).f0) ((rd_T37 a1 a2).f1) ((rd_T37 a1 a2).f2)) = some r := by rw [if_neg (show ¬ (false = true) by decide)] at H; exact H
                clear H; have H := H1; clear H1; have H' := Aside0.mk H; clear H
                try go_wp2
                refine Ya3 (blk_drew a4.out) (blk_drew a3.out) (below_drew1 HB.out) ?_; clear a4 a3 HB; intro a4 a3 HB; have am : 0 ≤ (a6 : Int) := oda; have an : a6 < (a1.length : Int) := oda; obtain ⟨aW, aX, ag, ah, ai⟩ := at_T37 aG.out a6 am an; have hw210_2 := ai; have hw210_1 := ah; have hw210_0 := ag
                obtain rfl : a7 = aW := (by injection aX)
                replace ag := pw_cell_below HB.out ag; replace ah := pw_cell_below HB.out ah; replace ai := pw_cell_below HB.out ai; replace am := eq_true am; replace an := eq_true an; refine start_ (n := 9) (S := fun w' => w'.cell? ⟨af, 0, none⟩ = some (.slice (some a7) a1.length a9) ∧ w'.cell? ⟨a5, 0, none⟩ = some (.string ((rd_T37 a1 a2).f0)) ∧ w'.cell? ⟨a5, 1, none⟩ = some (.string ((rd_T37 a1 a2).f1)) ∧ w'.cell? ⟨a5, 2, none⟩ = some (.bool ((rd_T37 a1 a2).f2)) ∧ w'.cell? (a7.add ((a6).toNat * 3)) = some (.string ((rd_T37 a1 a6).f0)) ∧ w'.cell? ⟨(a7.add ((a6).toNat * 3)).block, (a7.add ((a6).toNat * 3)).off + 1, none⟩ = some (.string ((rd_T37 a1 a6).f1)) ∧ w'.cell? ⟨(a7.add ((a6).toNat * 3)).block, (a7.add ((a6).toNat * 3)).off + 2, none⟩ = some (.bool ((rd_T37 a1 a6).f2))) (ds := []) (fb 9 0) (by kernel_rfl) rfl rfl ⟨bc a4 0, bc a3 0, bc a3 1, bc a3 2, (pw_cell_below HB.out hw210_0), (pw_cell_below HB.out hw210_1), (pw_cell_below HB.out hw210_2)⟩ (fun hHeld => ?_); refine with_tabW impl_ValidTree.tab11 impl_ValidTree.bits11 (fun HT_ HW_ => ?_); generalize wr.drew = w36 at a4 a3 HB ag ah ai hHeld ⊢; refine pu 0 42 (fb 9 1) HT_ ?_; refine pu 2 44 (fb 9 5) HT_ ?_; refine pu 6 48 (fb 9 69) HT_ ?_; refine tk 1 43 (fb 9 71) HT_ HW_ hHeld ?_; refine pu 3 45 (fb 9 79) HT_ ?_; refine pu 4 46 (fb 9 95) HT_ ?_; refine tk 5 47 (fb 9 127) HT_ HW_ hHeld ?_; refine tk 7 49 (fb 9 255) HT_ HW_ hHeld ?_; refine o1 8 (some 50) (fb 9 511) HT_ (fun K hK => ?_); refine gs _ (#[.string ((rd_T37 a1 a6).f0), .string ((rd_T37 a1 a2).f0)]) Tryd.func70 ?_; (with_reducible refine (impl_over.calls ((rd_T37 a1 a6).f0) ((rd_T37 a1 a2).f0) false _ A33.out).mono ?_); rintro e w' ⟨rfl, ⟨nd, rfl⟩⟩; refine ⟨_, rfl, ?_⟩; refine hK.out _ _ ⟨bc a4 0, bc a3 0, bc a3 1, bc a3 2, (pw_cell_below HB.out hw210_0), (pw_cell_below HB.out hw210_1), (pw_cell_below HB.out hw210_2)⟩ (fun hHeld => ?_); clear hK K; refine nm 50 ?_; refine done_ (done_of HT_.out (by kernel_rfl)) ?_
                try go_wp2
                go_roundg k3
                case measure => have := HK1.out; have := HJ9.out; have := HK3.out; omega
                case rel => exact ⟨(wrap64 (a6 + 1)), Ye1, H', ⟨by have := HK1.out; have := HJ9.out; have := HK3.out; omega⟩, ⟨bk a4.out⟩, ⟨bk a3.out⟩, ⟨bf HB.out⟩⟩
              ·rw [if_neg aL] at H
               exact absurd H (by simp)
             ·rw [if_neg aK] at H
              exact absurd H (by simp)
            ·rw [if_neg aw] at H
             have bz : decide (a6 < a2) = false := decide_eq_false aw; clear aw; have H' := Aside0.mk H; clear H
             go_wp2
             go_roundg k3
             case measure => have := HK1.out; have := HJ9.out; have := HK3.out; omega
             case rel => exact ⟨(wrap64 (a2 + 1)), Ye1, H', ⟨by have := HK1.out; have := HJ9.out; have := HK3.out; omega⟩, ⟨bk a4.out⟩, ⟨bf HB.out⟩⟩
      ·rw [if_neg c9] at H
       exact absurd H (by simp)
     ·rw [if_neg c8] at H
      exact absurd H (by simp)
    ·rw [if_neg c7] at H
     have aT : decide (a2 < (a1.length : Int)) = false := decide_eq_false c7; clear c7; obtain rfl := Option.some.inj H
     go_wp2
     go_ret
     exact ⟨Ye2, (bf HB.out)⟩

end Go.Proofs.YtgnmledjkamojaaDoor.P


namespace Go.Proofs.YtgnmledjkamojaaDoor.P
open Go.RowKit Go.Proofs.YtgnmledjkamojaaDoorW.PrintWords Go.Proofs.YtgnmledjkamojaaDoorW.PrintLast Go.Proofs.YtgnmledjkamojaaDoorW.PrintMore
attribute [local go_sem] max2_int min2_int max_two min_two max_three min_three max_four min_four
set_option linter.unusedVariables false
set_option linter.unusedSimpArgs false

/-! ### laws_markText: function 144 -/
def laws_markText.l0 : Nat → Int → ByteArray → Option (ByteArray)
 | 0, _, _ => none
 | k + 1, x0, x3 => if x0 > 0 then ((some (([(wrap64 (48 + (Int.tmod x0 10))) % 256] : List Int) : List Int)).bind fun a3 => (if (strOfNums a3).size + x3.size ≤ 9223372036854775807 then (laws_markText.l0 k (wrap64 (Int.tdiv x0 10)) ((strOfNums a3) ++ x3)) else (none))) else (if 1 + x3.size ≤ 9223372036854775807 then (some ((⟨#[109]⟩ : ByteArray) ++ x3)) else (none))
def laws_markText.f (k : Nat) (a0 : Int) : Option (ByteArray) := if a0 ≤ 0 then (some (⟨#[109, 48]⟩ : ByteArray)) else (laws_markText.l0 k a0 (⟨#[]⟩ : ByteArray))
theorem laws_markText.mono_l : ∀ k, (∀ y0 y1, LeO (laws_markText.l0 k y0 y1) (laws_markText.l0 (k + 1) y0 y1))
 | 0 => fun _ _ r h => by simp [laws_markText.l0] at h
 | k + 1 => by
  have ih0 := laws_markText.mono_l k
  ·intro y0 y1
   unfold laws_markText.l0
   repeat' first
   | (with_reducible exact ih0 _ _)
   | (with_reducible exact LeO.refl _)
   | (with_reducible exact LeO.none _)
   | (with_reducible refine LeO.ite ?_ ?_)
   | (with_reducible refine LeO.bind ?_ (fun _ => ?_))
   | exact ih0 _ _
   | exact LeO.none _
   | refine LeO.ite ?_ ?_
   | refine LeO.bind ?_ (fun _ => ?_)
theorem laws_markText.mono : ∀ a0 k, LeO (laws_markText.f k a0) (laws_markText.f (k + 1) a0) := by
 intro a0 k; have ih0 := laws_markText.mono_l k
 unfold laws_markText.f
 repeat' first
   | (with_reducible exact ih0 _ _)
   | (with_reducible exact LeO.refl _)
   | (with_reducible exact LeO.none _)
   | (with_reducible refine LeO.ite ?_ ?_)
   | (with_reducible refine LeO.bind ?_ (fun _ => ?_))
   | exact ih0 _ _
   | exact LeO.none _
   | refine LeO.ite ?_ ?_
   | refine LeO.bind ?_ (fun _ => ?_)
set_option maxHeartbeats 8000000 in
set_option maxRecDepth 100000 in
theorem laws_markText.calls (k : Nat) (a0 : Int) (r : ByteArray) (w : World) (h : laws_markText.f k a0 = some r) :
  Calls Tryd.prog 144 #[.int .i64 a0] w fun e w' => e = .returned (.string r) ∧ Below w.heap.size w w' := by
 have HB := Aside0.mk (Below.refl w.heap.size w); have H : (if a0 ≤ 0 then (some (⟨#[109, 48]⟩ : ByteArray)) else (laws_markText.l0 k a0 (⟨#[]⟩ : ByteArray))) = some r := h; clear h
 by_cases c2 : a0 ≤ 0
 ·rw [if_pos c2] at H
  have a5 : decide (a0 ≤ 0) = true := decide_eq_true c2; clear c2; obtain rfl := Option.some.inj H
  go_enter Tryd.func144, Tryd.ntmps144
  go_wp2
  go_ret
  exact ⟨Ye2, be HB.out⟩
 ·rw [if_neg c2] at H
  have a5 : decide (a0 ≤ 0) = false := decide_eq_false c2; clear c2; have H' := Aside0.mk H; clear H
  go_enter Tryd.func144, Tryd.ntmps144
  go_wp2
  go_loopg [0, 3] k (fun kq v0 v3 w' => ∃ (a1 : Int) (a2 : ByteArray), v0 = .int .i64 a1 ∧ v3 = .string a2 ∧ Aside0 (laws_markText.l0 kq a1 a2 = some r) ∧ Aside0 (kq ≤ k) ∧ Aside0 (Below w.heap.size w w'))
  case atStart => exact ⟨(a0), ((⟨#[]⟩ : ByteArray)), Ye1, Ye1, H', ⟨Nat.le_refl _⟩, ⟨be HB.out⟩⟩
  case round =>
   clear H'; (try clear c1); (try clear c2); (try clear a5); (try clear p2); obtain ⟨a1, a2, rfl, rfl, HA, HK1, HB⟩ := hrel
   cases gk with
   | zero => exact absurd HA.out (by simp [laws_markText.l0])
   | succ k1 =>
    have H := HA.out; clear HA; simp only [laws_markText.l0] at H
    by_cases c3 : a1 > 0
    ·rw [if_pos c3] at H
     have a7 : decide (0 < a1) = true := decide_eq_true c3; clear c3
     obtain ⟨a3, a4⟩ : ∃ y_ : List Int, y_ = (([(wrap64 (48 + (Int.tmod a1 10))) % 256] : List Int)) := ⟨_, rfl⟩
     replace H : (if (strOfNums a3).size + a2.size ≤ 9223372036854775807 then (laws_markText.l0 k1 (wrap64 (Int.tdiv a1 10)) ((strOfNums a3) ++ a2)) else (none)) = some r := by first | (rw [a4]; with_reducible exact H) | (have H2_ := (Option.bind_some _ _).symm.trans H; rw [a4]; with_reducible exact H2_) | (have H2_ := (Option.bind_some _ _).symm.trans H; with_reducible exact H2_) | with_reducible exact H | (rw [a4]; exact H) | exact H
     have a6 := Aside0.mk a4; clear a4
     by_cases c4 : (strOfNums a3).size + a2.size ≤ 9223372036854775807
     ·rw [if_pos c4] at H
      have c4b0 := eq_true c4; have c4b1 : decide ((strOfNums a3).size + a2.size ≤ 9223372036854775807) = true := decide_eq_true c4
      try have c4b2 : (9223372036854775807 < (strOfNums a3).size + a2.size) = False := eq_false (Nat.not_lt.2 c4)
      have H' := Aside0.mk H; clear H
      go_wp2_with (first | ((with_reducible refine gd 12 rfl ?_); refine Kd.R_lit (Kd.int .u8) _ 5 ?hg (N := 12) ?hd (xs := ([(wrap64 (48 + (Int.tmod a1 10))) % 256] : List Int)) (inner := [.int .u8 ((wrap64 (48 + (Int.tmod a1 10))) % 256)]) (ok := fun _ => True) (okp := fun _ => True) ?hr ?hp (fun _ hk => hk) trivial (Below.refl _ _) (Nat.le_refl _) (by simp) ?_; (case hd => rfl); (case hg => rfl); (case hr => first | (go_simp; done) | (go_simp; rfl)); (case hp => exact (Reps.one (show Kd.M (Kd.int .u8) _ _ _ ((wrap64 (48 + (Int.tmod a1 10))) % 256) [.int .u8 ((wrap64 (48 + (Int.tmod a1 10))) % 256)] from rfl) (Reps.none _ _))); intro v240 w5 ho6 hb hg_ hnew_; clear hg_ hnew_; (first | rw [← a6.out] at ho6 | (simp only [Int.reduceToNat] at ho6; rw [← a6.out] at ho6)); refine Ya2 (Kd.R_lower ho6 (below_size (be HB.out))) (below_step (be HB.out) hb) ?_; clear HB; intro a8 HB; clear hb ho6; have hcv7 := own_string (P := Tryd.prog) Tryd.underlying35 Tryd.underlying5 Tryd.underlying9 (Kd.own_of_R a8.out)))
      go_roundg k1
      case measure => have := HK1.out; omega
      case rel => exact ⟨(wrap64 (Int.tdiv a1 10)), ((strOfNums a3) ++ a2), Ye1, Ye1, H', ⟨by have := HK1.out; omega⟩, ⟨be HB.out⟩⟩
     ·rw [if_neg c4] at H
      exact absurd H (by simp)
    ·rw [if_neg c3] at H
     have a7 : decide (0 < a1) = false := decide_eq_false c3; clear c3
     by_cases c8 : 1 + a2.size ≤ 9223372036854775807
     ·rw [if_pos c8] at H
      have c8b0 := eq_true c8; have c8b1 : decide (1 + a2.size ≤ 9223372036854775807) = true := decide_eq_true c8
      try have c8b2 : (9223372036854775807 < 1 + a2.size) = False := eq_false (Nat.not_lt.2 c8)
      obtain rfl := Option.some.inj H
      go_wp2
      go_ret
      exact ⟨Ye2, be HB.out⟩
     ·rw [if_neg c8] at H
      exact absurd H (by simp)

end Go.Proofs.YtgnmledjkamojaaDoor.P


namespace Go.Proofs.YtgnmledjkamojaaDoor.P
open Go.RowKit Go.Proofs.YtgnmledjkamojaaDoorW.PrintWords Go.Proofs.YtgnmledjkamojaaDoorW.PrintLast Go.Proofs.YtgnmledjkamojaaDoorW.PrintMore
attribute [local go_sem] max2_int min2_int max_two min_two max_three min_three max_four min_four
set_option linter.unusedVariables false
set_option linter.unusedSimpArgs false

/-! ### laws_heldChangeS: function 102 -/
def laws_heldChangeS.l0 : Nat → List (S125) → Int → Int → Option (Int)
 | 0, _, _, _ => none
 | k + 1, x0, x1, x5 => if x5 < (x0.length : Int) then (if 0 ≤ x5 then ((laws_markText.f k x1).bind fun aB => (if ((rd_T125 x0 x5).f0).toList = aB.toList then (if (((rd_T125 x0 x5).f1.f0) != ((Int.tmod (wrap64 (x1 + 1)) 3) == 0)) = true then (some (-1)) else ((laws_markText.f k (wrap64 ((wrap64 (x1 + 1)) + 1))).bind fun aC => (if ((rd_T125 x0 x5).f1.f1).toList = aC.toList then (if (((rd_T125 x0 x5).f1.f2) != ((Int.tmod (wrap64 ((wrap64 ((wrap64 (x1 + 1)) + 1)) + 1)) 3) == 0)) = true then (some (-1)) else (if (((rd_T125 x0 x5).f2.f0) != ((Int.tmod (wrap64 ((wrap64 ((wrap64 ((wrap64 (x1 + 1)) + 1)) + 1)) + 1)) 3) == 0)) = true then (some (-1)) else ((laws_markText.f k (wrap64 ((wrap64 ((wrap64 ((wrap64 ((wrap64 (x1 + 1)) + 1)) + 1)) + 1)) + 1))).bind fun aD => (if ((rd_T125 x0 x5).f2.f1).toList = aD.toList then (if (((rd_T125 x0 x5).f2.f2) != ((Int.tmod (wrap64 ((wrap64 ((wrap64 ((wrap64 ((wrap64 ((wrap64 (x1 + 1)) + 1)) + 1)) + 1)) + 1)) + 1)) 3) == 0)) = true then (some (-1)) else (laws_heldChangeS.l0 k x0 (wrap64 ((wrap64 ((wrap64 ((wrap64 ((wrap64 ((wrap64 ((wrap64 (x1 + 1)) + 1)) + 1)) + 1)) + 1)) + 1)) + 1)) (wrap64 (x5 + 1)))) else (some (-1)))))) else (some (-1))))) else (some (-1)))) else (none)) else (some x1)
def laws_heldChangeS.f (k : Nat) (l0 : List (S125)) (a1 : Int) : Option (Int) := laws_heldChangeS.l0 k l0 a1 0
theorem laws_heldChangeS.mono_l : ∀ k, (∀ y0 y1 y2, LeO (laws_heldChangeS.l0 k y0 y1 y2) (laws_heldChangeS.l0 (k + 1) y0 y1 y2))
 | 0 => fun _ _ _ r h => by simp [laws_heldChangeS.l0] at h
 | k + 1 => by
  have ih0 := laws_heldChangeS.mono_l k
  ·intro y0 y1 y2
   unfold laws_heldChangeS.l0
   repeat' first
   | (with_reducible exact ih0 _ _ _)
   | (with_reducible exact laws_markText.mono _ _)
   | (with_reducible exact LeO.refl _)
   | (with_reducible exact LeO.none _)
   | (with_reducible refine LeO.ite ?_ ?_)
   | (with_reducible refine LeO.bind ?_ (fun _ => ?_))
   | exact ih0 _ _ _
   | exact laws_markText.mono _ _
   | exact LeO.none _
   | refine LeO.ite ?_ ?_
   | refine LeO.bind ?_ (fun _ => ?_)
theorem laws_heldChangeS.mono : ∀ a0 a1 k, LeO (laws_heldChangeS.f k a0 a1) (laws_heldChangeS.f (k + 1) a0 a1) := by
 intro a0 a1 k; have ih0 := laws_heldChangeS.mono_l k
 unfold laws_heldChangeS.f
 repeat' first
   | (with_reducible exact ih0 _ _ _)
   | (with_reducible exact laws_markText.mono _ _)
   | (with_reducible exact LeO.refl _)
   | (with_reducible exact LeO.none _)
   | (with_reducible refine LeO.ite ?_ ?_)
   | (with_reducible refine LeO.bind ?_ (fun _ => ?_))
   | exact ih0 _ _ _
   | exact laws_markText.mono _ _
   | exact LeO.none _
   | refine LeO.ite ?_ ?_
   | refine LeO.bind ?_ (fun _ => ?_)
def laws_heldChangeS.T4 : Bool × List (List Nat × List Nat) := (true, [([], []), ([], []), ([0, 1], [0, 1]), ([2], [2]), ([3], [3]), ([], []), ([5], [5]), ([4, 6], [4, 6])])
def laws_heldChangeS.B4 : List Nat := [0, 0, 3, 7, 15, 0, 32, 127]
theorem laws_heldChangeS.tab4 : rtab .any (opsOf Tryd.f102 4) = laws_heldChangeS.T4 := by kernel_rfl
theorem laws_heldChangeS.bits4 : waitsOk laws_heldChangeS.T4.2 laws_heldChangeS.B4 = true := by kernel_rfl
def laws_heldChangeS.T10 : Bool × List (List Nat × List Nat) := (true, [([], []), ([], []), ([0, 1], [0, 1]), ([2], [2]), ([3], [3]), ([4], [4]), ([], []), ([6], [6]), ([5, 7], [5, 7])])
def laws_heldChangeS.B10 : List Nat := [0, 0, 3, 7, 15, 31, 0, 64, 255]
theorem laws_heldChangeS.tab10 : rtab .any (opsOf Tryd.f102 10) = laws_heldChangeS.T10 := by kernel_rfl
theorem laws_heldChangeS.bits10 : waitsOk laws_heldChangeS.T10.2 laws_heldChangeS.B10 = true := by kernel_rfl
def laws_heldChangeS.T19 : Bool × List (List Nat × List Nat) := (true, [([], []), ([], []), ([0, 1], [0, 1]), ([2], [2]), ([3], [3]), ([4], [4]), ([], []), ([6], [6]), ([5, 7], [5, 7])])
def laws_heldChangeS.B19 : List Nat := [0, 0, 3, 7, 15, 31, 0, 64, 255]
theorem laws_heldChangeS.tab19 : rtab .any (opsOf Tryd.f102 19) = laws_heldChangeS.T19 := by kernel_rfl
theorem laws_heldChangeS.bits19 : waitsOk laws_heldChangeS.T19.2 laws_heldChangeS.B19 = true := by kernel_rfl
set_option maxHeartbeats 8000000 in
set_option maxRecDepth 100000 in
theorem laws_heldChangeS.calls (k : Nat) (A0 : Option Addr) (c0 : Nat) (l0 : List (S125)) (a1 : Int) (r : Int) (w : World) (hr0 : Kd.C k125 w A0 l0.length l0) (hc0 : l0.length ≤ c0) (h : laws_heldChangeS.f k l0 a1 = some r) :
  Calls Tryd.prog 102 #[.slice A0 l0.length c0, .int .i64 a1] w fun e w' => e = .returned (.int .i64 r) ∧ Below w.heap.size w w' := by
 have ac := Aside0.mk hr0; have HC0 := Aside0.mk hc0; clear hr0 hc0; have HB := Aside0.mk (Below.refl w.heap.size w); have H : (laws_heldChangeS.l0 k l0 a1 0) = some r := h; clear h; have H' := Aside0.mk H; clear H
 go_enter Tryd.func102, Tryd.ntmps102
 go_wp2
 go_loopg [1, 5] k (fun kq v1 v5 w' => ∃ (a4 : Int) (a2 : Int), v1 = .int .i64 a4 ∧ v5 = .int .i64 a2 ∧ Aside0 (laws_heldChangeS.l0 kq l0 a4 a2 = some r) ∧ Aside0 (kq ≤ k) ∧ Aside0 (Below w.heap.size w w'))
 case atStart => exact ⟨(a1), (0), Ye1, Ye1, H', ⟨Nat.le_refl _⟩, ⟨be HB.out⟩⟩
 case round =>
  clear H'; (try clear c1); (try clear p2); obtain ⟨a4, a2, rfl, rfl, HA, HK1, HB⟩ := hrel
  cases gk with
  | zero => exact absurd HA.out (by simp [laws_heldChangeS.l0])
  | succ k1 =>
   have H := HA.out; clear HA; simp only [laws_heldChangeS.l0] at H
   by_cases c3 : a2 < (l0.length : Int)
   ·rw [if_pos c3] at H
    have bK : decide (a2 < (l0.length : Int)) = true := decide_eq_true c3; clear c3
    by_cases c4 : 0 ≤ a2
    ·rw [if_pos c4] at H
     have c4b0 : decide (0 ≤ a2) = true := decide_eq_true c4; clear c4; replace H := Option.bind_eq_some_iff.mp H; obtain ⟨aB, A50, H⟩ := H; replace H : (if ((rd_T125 l0 a2).f0).toList = aB.toList then (if (((rd_T125 l0 a2).f1.f0) != ((Int.tmod (wrap64 (a4 + 1)) 3) == 0)) = true then (some (-1)) else ((laws_markText.f k1 (wrap64 ((wrap64 (a4 + 1)) + 1))).bind fun aC => (if ((rd_T125 l0 a2).f1.f1).toList = aC.toList then (if (((rd_T125 l0 a2).f1.f2) != ((Int.tmod (wrap64 ((wrap64 ((wrap64 (a4 + 1)) + 1)) + 1)) 3) == 0)) = true then (some (-1)) else (if (((rd_T125 l0 a2).f2.f0) != ((Int.tmod (wrap64 ((wrap64 ((wrap64 ((wrap64 (a4 + 1)) + 1)) + 1)) + 1)) 3) == 0)) = true then (some (-1)) else ((laws_markText.f k1 (wrap64 ((wrap64 ((wrap64 ((wrap64 ((wrap64 (a4 + 1)) + 1)) + 1)) + 1)) + 1))).bind fun aD => (if ((rd_T125 l0 a2).f2.f1).toList = aD.toList then (if (((rd_T125 l0 a2).f2.f2) != ((Int.tmod (wrap64 ((wrap64 ((wrap64 ((wrap64 ((wrap64 ((wrap64 (a4 + 1)) + 1)) + 1)) + 1)) + 1)) + 1)) 3) == 0)) = true then (some (-1)) else (laws_heldChangeS.l0 k1 l0 (wrap64 ((wrap64 ((wrap64 ((wrap64 ((wrap64 ((wrap64 ((wrap64 (a4 + 1)) + 1)) + 1)) + 1)) + 1)) + 1)) + 1)) (wrap64 (a2 + 1)))) else (some (-1)))))) else (some (-1))))) else (some (-1))) = some r := H; have A5 := Aside0.mk A50; clear A50
     by_cases c6 : ((rd_T125 l0 a2).f0).toList = aB.toList
     ·rw [if_pos c6] at H
      have bL : (((rd_T125 l0 a2).f0).toList == aB.toList) = true := beq_iff_eq.mpr c6; have bM : (((rd_T125 l0 a2).f0).toList != aB.toList) = false := bne_eq_false_iff_eq.mpr c6; clear c6
      by_cases c7 : (((rd_T125 l0 a2).f1.f0) != ((Int.tmod (wrap64 (a4 + 1)) 3) == 0)) = true
      ·rw [if_pos c7] at H
       have bN : (((rd_T125 l0 a2).f1.f0) != ((Int.tmod (wrap64 (a4 + 1)) 3) == 0)) = true := c7; (try (have bO : decide (((rd_T125 l0 a2).f1.f0) = ((Int.tmod (wrap64 (a4 + 1)) 3) == 0)) = false := by simpa using c7)); (try (have bP : (((rd_T125 l0 a2).f1.f0) == ((Int.tmod (wrap64 (a4 + 1)) 3) == 0)) = false := by simpa using c7)); (try (have c7b3 : ¬ (((rd_T125 l0 a2).f1.f0) = ((Int.tmod (wrap64 (a4 + 1)) 3) == 0)) := by simpa using c7)); clear c7; obtain rfl := Option.some.inj H
       try go_wp2
       refine Ya1 (below_drew1 HB.out) ?_; clear HB; intro HB; have ad : 0 ≤ (a2 : Int) := oda; have ae : a2 < (l0.length : Int) := oda; obtain ⟨a3, aE, a5, a6, a7, a8, a9, aa, ab⟩ := at_T125 ac.out a2 ad ae; have hw973_6 := ab; have hw973_5 := aa; have hw973_4 := a9; have hw973_3 := a8; have hw973_2 := a7; have hw973_1 := a6; have hw973_0 := a5
       cases aE
       replace a5 := pw_cell_below HB.out a5; replace a6 := pw_cell_below HB.out a6; replace a7 := pw_cell_below HB.out a7; replace a8 := pw_cell_below HB.out a8; replace a9 := pw_cell_below HB.out a9; replace aa := pw_cell_below HB.out aa; replace ab := pw_cell_below HB.out ab; replace ad := eq_true ad; replace ae := eq_true ae; refine start_ (n := 8) (S := fun w' => w'.cell? (a3.add ((a2).toNat * 7)) = some (.string ((rd_T125 l0 a2).f0)) ∧ w'.cell? ⟨(a3.add ((a2).toNat * 7)).block, (a3.add ((a2).toNat * 7)).off + 1, none⟩ = some (.bool ((rd_T125 l0 a2).f1.f0)) ∧ w'.cell? ⟨(a3.add ((a2).toNat * 7)).block, (a3.add ((a2).toNat * 7)).off + 2, none⟩ = some (.string ((rd_T125 l0 a2).f1.f1)) ∧ w'.cell? ⟨(a3.add ((a2).toNat * 7)).block, (a3.add ((a2).toNat * 7)).off + 3, none⟩ = some (.bool ((rd_T125 l0 a2).f1.f2)) ∧ w'.cell? ⟨(a3.add ((a2).toNat * 7)).block, (a3.add ((a2).toNat * 7)).off + 4, none⟩ = some (.bool ((rd_T125 l0 a2).f2.f0)) ∧ w'.cell? ⟨(a3.add ((a2).toNat * 7)).block, (a3.add ((a2).toNat * 7)).off + 5, none⟩ = some (.string ((rd_T125 l0 a2).f2.f1)) ∧ w'.cell? ⟨(a3.add ((a2).toNat * 7)).block, (a3.add ((a2).toNat * 7)).off + 6, none⟩ = some (.bool ((rd_T125 l0 a2).f2.f2))) (ds := []) (fb 8 0) (by kernel_rfl) rfl rfl ⟨(pw_cell_below HB.out hw973_0), (pw_cell_below HB.out hw973_1), (pw_cell_below HB.out hw973_2), (pw_cell_below HB.out hw973_3), (pw_cell_below HB.out hw973_4), (pw_cell_below HB.out hw973_5), (pw_cell_below HB.out hw973_6)⟩ (fun hHeld => ?_); refine with_tabW laws_heldChangeS.tab4 laws_heldChangeS.bits4 (fun HT_ HW_ => ?_); generalize wr.drew = w8 at HB a5 a6 a7 a8 a9 aa ab hHeld ⊢; refine pu 0 12 (fb 8 1) HT_ ?_; refine pu 1 13 (fb 8 3) HT_ ?_; refine pu 2 14 (fb 8 7) HT_ ?_; refine pu 3 15 (fb 8 15) HT_ ?_; refine pu 5 17 (fb 8 47) HT_ ?_; refine tk 4 16 (fb 8 63) HT_ HW_ hHeld ?_; refine o1 6 (some 18) (fb 8 127) HT_ (fun K hK => ?_); refine gs _ (#[.int .i64 a4]) Tryd.func144 ?_; (with_reducible refine (laws_markText.calls k1 a4 aB _ A5.out).mono ?_); rintro e w9 ⟨rfl, hb⟩; refine ⟨_, rfl, ?_⟩; refine Ya1 (below_step (be HB.out) hb) ?_; clear HB; intro HB; (try clear hb); (try clear hb2); (try clear hk); (try clear hi); refine hK.out _ _ ⟨(pw_cell_below HB.out hw973_0), (pw_cell_below HB.out hw973_1), (pw_cell_below HB.out hw973_2), (pw_cell_below HB.out hw973_3), (pw_cell_below HB.out hw973_4), (pw_cell_below HB.out hw973_5), (pw_cell_below HB.out hw973_6)⟩ (fun hHeld => ?_); clear hK K; refine nm 18 ?_; refine pu 7 19 (fb 8 255) HT_ ?_; refine done_ (done_of HT_.out (by kernel_rfl)) ?_; have am : 0 ≤ (a2 : Int) := oda; have an : a2 < (l0.length : Int) := oda; obtain ⟨aV, aW, aq, ar, au, av, aw, ax, ay⟩ := at_T125 ac.out a2 am an
       obtain rfl : a3 = aV := (by injection aW)
       replace aq := pw_cell_below HB.out aq; replace ar := pw_cell_below HB.out ar; replace au := pw_cell_below HB.out au; replace av := pw_cell_below HB.out av; replace aw := pw_cell_below HB.out aw; replace ax := pw_cell_below HB.out ax; replace ay := pw_cell_below HB.out ay; replace am := eq_true am; replace an := eq_true an
       try go_wp2
       go_ret
       exact ⟨Ye2, be HB.out⟩
      ·rw [if_neg c7] at H
       have bN : (((rd_T125 l0 a2).f1.f0) != ((Int.tmod (wrap64 (a4 + 1)) 3) == 0)) = false := by simpa using c7
       (try (have bO : decide (((rd_T125 l0 a2).f1.f0) = ((Int.tmod (wrap64 (a4 + 1)) 3) == 0)) = true := by simpa using c7)); (try (have bP : (((rd_T125 l0 a2).f1.f0) == ((Int.tmod (wrap64 (a4 + 1)) 3) == 0)) = true := by simpa using c7)); clear c7; replace H := Option.bind_eq_some_iff.mp H; obtain ⟨aC, bI, H⟩ := H; replace H : (if ((rd_T125 l0 a2).f1.f1).toList = aC.toList then (if (((rd_T125 l0 a2).f1.f2) != ((Int.tmod (wrap64 ((wrap64 ((wrap64 (a4 + 1)) + 1)) + 1)) 3) == 0)) = true then (some (-1)) else (if (((rd_T125 l0 a2).f2.f0) != ((Int.tmod (wrap64 ((wrap64 ((wrap64 ((wrap64 (a4 + 1)) + 1)) + 1)) + 1)) 3) == 0)) = true then (some (-1)) else ((laws_markText.f k1 (wrap64 ((wrap64 ((wrap64 ((wrap64 ((wrap64 (a4 + 1)) + 1)) + 1)) + 1)) + 1))).bind fun aD => (if ((rd_T125 l0 a2).f2.f1).toList = aD.toList then (if (((rd_T125 l0 a2).f2.f2) != ((Int.tmod (wrap64 ((wrap64 ((wrap64 ((wrap64 ((wrap64 ((wrap64 (a4 + 1)) + 1)) + 1)) + 1)) + 1)) + 1)) 3) == 0)) = true then (some (-1)) else (laws_heldChangeS.l0 k1 l0 (wrap64 ((wrap64 ((wrap64 ((wrap64 ((wrap64 ((wrap64 ((wrap64 (a4 + 1)) + 1)) + 1)) + 1)) + 1)) + 1)) + 1)) (wrap64 (a2 + 1)))) else (some (-1)))))) else (some (-1))) = some r := H; have bq := Aside0.mk bI; clear bI
       by_cases bh : ((rd_T125 l0 a2).f1.f1).toList = aC.toList
       ·rw [if_pos bh] at H
        have bQ : (((rd_T125 l0 a2).f1.f1).toList == aC.toList) = true := beq_iff_eq.mpr bh; have bR : (((rd_T125 l0 a2).f1.f1).toList != aC.toList) = false := bne_eq_false_iff_eq.mpr bh; clear bh
        by_cases aX : (((rd_T125 l0 a2).f1.f2) != ((Int.tmod (wrap64 ((wrap64 ((wrap64 (a4 + 1)) + 1)) + 1)) 3) == 0)) = true
        ·rw [if_pos aX] at H
         have bS : (((rd_T125 l0 a2).f1.f2) != ((Int.tmod (wrap64 ((wrap64 ((wrap64 (a4 + 1)) + 1)) + 1)) 3) == 0)) = true := aX; (try (have bT : decide (((rd_T125 l0 a2).f1.f2) = ((Int.tmod (wrap64 ((wrap64 ((wrap64 (a4 + 1)) + 1)) + 1)) 3) == 0)) = false := by simpa using aX)); (try (have bU : (((rd_T125 l0 a2).f1.f2) == ((Int.tmod (wrap64 ((wrap64 ((wrap64 (a4 + 1)) + 1)) + 1)) 3) == 0)) = false := by simpa using aX)); (try (have c12b3 : ¬ (((rd_T125 l0 a2).f1.f2) = ((Int.tmod (wrap64 ((wrap64 ((wrap64 (a4 + 1)) + 1)) + 1)) 3) == 0)) := by simpa using aX)); clear aX; obtain rfl := Option.some.inj H
         try go_wp2
         refine Ya1 (below_drew1 HB.out) ?_; clear HB; intro HB; have ad : 0 ≤ (a2 : Int) := oda; have ae : a2 < (l0.length : Int) := oda; obtain ⟨a3, aE, a5, a6, a7, a8, a9, aa, ab⟩ := at_T125 ac.out a2 ad ae; have hw973_6 := ab; have hw973_5 := aa; have hw973_4 := a9; have hw973_3 := a8; have hw973_2 := a7; have hw973_1 := a6; have hw973_0 := a5
         cases aE
         replace a5 := pw_cell_below HB.out a5; replace a6 := pw_cell_below HB.out a6; replace a7 := pw_cell_below HB.out a7; replace a8 := pw_cell_below HB.out a8; replace a9 := pw_cell_below HB.out a9; replace aa := pw_cell_below HB.out aa; replace ab := pw_cell_below HB.out ab; replace ad := eq_true ad; replace ae := eq_true ae; refine start_ (n := 8) (S := fun w' => w'.cell? (a3.add ((a2).toNat * 7)) = some (.string ((rd_T125 l0 a2).f0)) ∧ w'.cell? ⟨(a3.add ((a2).toNat * 7)).block, (a3.add ((a2).toNat * 7)).off + 1, none⟩ = some (.bool ((rd_T125 l0 a2).f1.f0)) ∧ w'.cell? ⟨(a3.add ((a2).toNat * 7)).block, (a3.add ((a2).toNat * 7)).off + 2, none⟩ = some (.string ((rd_T125 l0 a2).f1.f1)) ∧ w'.cell? ⟨(a3.add ((a2).toNat * 7)).block, (a3.add ((a2).toNat * 7)).off + 3, none⟩ = some (.bool ((rd_T125 l0 a2).f1.f2)) ∧ w'.cell? ⟨(a3.add ((a2).toNat * 7)).block, (a3.add ((a2).toNat * 7)).off + 4, none⟩ = some (.bool ((rd_T125 l0 a2).f2.f0)) ∧ w'.cell? ⟨(a3.add ((a2).toNat * 7)).block, (a3.add ((a2).toNat * 7)).off + 5, none⟩ = some (.string ((rd_T125 l0 a2).f2.f1)) ∧ w'.cell? ⟨(a3.add ((a2).toNat * 7)).block, (a3.add ((a2).toNat * 7)).off + 6, none⟩ = some (.bool ((rd_T125 l0 a2).f2.f2))) (ds := []) (fb 8 0) (by kernel_rfl) rfl rfl ⟨(pw_cell_below HB.out hw973_0), (pw_cell_below HB.out hw973_1), (pw_cell_below HB.out hw973_2), (pw_cell_below HB.out hw973_3), (pw_cell_below HB.out hw973_4), (pw_cell_below HB.out hw973_5), (pw_cell_below HB.out hw973_6)⟩ (fun hHeld => ?_); refine with_tabW laws_heldChangeS.tab4 laws_heldChangeS.bits4 (fun HT_ HW_ => ?_); generalize wr.drew = w13 at HB a5 a6 a7 a8 a9 aa ab hHeld ⊢; refine pu 0 12 (fb 8 1) HT_ ?_; refine pu 1 13 (fb 8 3) HT_ ?_; refine pu 2 14 (fb 8 7) HT_ ?_; refine pu 3 15 (fb 8 15) HT_ ?_; refine pu 5 17 (fb 8 47) HT_ ?_; refine tk 4 16 (fb 8 63) HT_ HW_ hHeld ?_; refine o1 6 (some 18) (fb 8 127) HT_ (fun K hK => ?_); refine gs _ (#[.int .i64 a4]) Tryd.func144 ?_; (with_reducible refine (laws_markText.calls k1 a4 aB _ A5.out).mono ?_); rintro e w14 ⟨rfl, hb⟩; refine ⟨_, rfl, ?_⟩; refine Ya1 (below_step (be HB.out) hb) ?_; clear HB; intro HB; (try clear hb); (try clear hb2); (try clear hk); (try clear hi); refine hK.out _ _ ⟨(pw_cell_below HB.out hw973_0), (pw_cell_below HB.out hw973_1), (pw_cell_below HB.out hw973_2), (pw_cell_below HB.out hw973_3), (pw_cell_below HB.out hw973_4), (pw_cell_below HB.out hw973_5), (pw_cell_below HB.out hw973_6)⟩ (fun hHeld => ?_); clear hK K; refine nm 18 ?_; refine pu 7 19 (fb 8 255) HT_ ?_; refine done_ (done_of HT_.out (by kernel_rfl)) ?_; have am : 0 ≤ (a2 : Int) := oda; have an : a2 < (l0.length : Int) := oda; obtain ⟨aV, aW, aq, ar, au, av, aw, ax, ay⟩ := at_T125 ac.out a2 am an
         obtain rfl : a3 = aV := (by injection aW)
         replace aq := pw_cell_below HB.out aq; replace ar := pw_cell_below HB.out ar; replace au := pw_cell_below HB.out au; replace av := pw_cell_below HB.out av; replace aw := pw_cell_below HB.out aw; replace ax := pw_cell_below HB.out ax; replace ay := pw_cell_below HB.out ay; replace am := eq_true am; replace an := eq_true an
         try go_wp2
         refine Ya1 (below_drew1 HB.out) ?_; clear HB; intro HB; have ao : 0 ≤ (a2 : Int) := oda; have ap : a2 < (l0.length : Int) := oda; obtain ⟨aY, aZ, af, ag, ah, ai, aj, ak, al⟩ := at_T125 ac.out a2 ao ap; have hw976_6 := al; have hw976_5 := ak; have hw976_4 := aj; have hw976_3 := ai; have hw976_2 := ah; have hw976_1 := ag; have hw976_0 := af
         obtain rfl : a3 = aY := (by injection aZ)
         replace af := pw_cell_below HB.out af; replace ag := pw_cell_below HB.out ag; replace ah := pw_cell_below HB.out ah; replace ai := pw_cell_below HB.out ai; replace aj := pw_cell_below HB.out aj; replace ak := pw_cell_below HB.out ak; replace al := pw_cell_below HB.out al; replace ao := eq_true ao; replace ap := eq_true ap; refine start_ (n := 9) (S := fun w' => w'.cell? (a3.add ((a2).toNat * 7)) = some (.string ((rd_T125 l0 a2).f0)) ∧ w'.cell? ⟨(a3.add ((a2).toNat * 7)).block, (a3.add ((a2).toNat * 7)).off + 1, none⟩ = some (.bool ((rd_T125 l0 a2).f1.f0)) ∧ w'.cell? ⟨(a3.add ((a2).toNat * 7)).block, (a3.add ((a2).toNat * 7)).off + 2, none⟩ = some (.string ((rd_T125 l0 a2).f1.f1)) ∧ w'.cell? ⟨(a3.add ((a2).toNat * 7)).block, (a3.add ((a2).toNat * 7)).off + 3, none⟩ = some (.bool ((rd_T125 l0 a2).f1.f2)) ∧ w'.cell? ⟨(a3.add ((a2).toNat * 7)).block, (a3.add ((a2).toNat * 7)).off + 4, none⟩ = some (.bool ((rd_T125 l0 a2).f2.f0)) ∧ w'.cell? ⟨(a3.add ((a2).toNat * 7)).block, (a3.add ((a2).toNat * 7)).off + 5, none⟩ = some (.string ((rd_T125 l0 a2).f2.f1)) ∧ w'.cell? ⟨(a3.add ((a2).toNat * 7)).block, (a3.add ((a2).toNat * 7)).off + 6, none⟩ = some (.bool ((rd_T125 l0 a2).f2.f2))) (ds := []) (fb 9 0) (by kernel_rfl) rfl rfl ⟨(pw_cell_below HB.out hw976_0), (pw_cell_below HB.out hw976_1), (pw_cell_below HB.out hw976_2), (pw_cell_below HB.out hw976_3), (pw_cell_below HB.out hw976_4), (pw_cell_below HB.out hw976_5), (pw_cell_below HB.out hw976_6)⟩ (fun hHeld => ?_); refine with_tabW laws_heldChangeS.tab10 laws_heldChangeS.bits10 (fun HT_ HW_ => ?_); generalize w14.drew = w15 at HB af ag ah ai aj ak al hHeld ⊢; refine pu 0 34 (fb 9 1) HT_ ?_; refine pu 1 35 (fb 9 3) HT_ ?_; refine pu 2 36 (fb 9 7) HT_ ?_; refine pu 3 37 (fb 9 15) HT_ ?_; refine pu 4 38 (fb 9 31) HT_ ?_; refine pu 6 40 (fb 9 95) HT_ ?_; refine tk 5 39 (fb 9 127) HT_ HW_ hHeld ?_; refine o1 7 (some 41) (fb 9 255) HT_ (fun K hK => ?_); refine gs _ (#[.int .i64 (wrap64 ((wrap64 (a4 + 1)) + 1))]) Tryd.func144 ?_; (with_reducible refine (laws_markText.calls k1 (wrap64 ((wrap64 (a4 + 1)) + 1)) aC _ bq.out).mono ?_); rintro e w16 ⟨rfl, hb⟩; refine ⟨_, rfl, ?_⟩; refine Ya1 (below_step (be HB.out) hb) ?_; clear HB; intro HB; (try clear hb); (try clear hb2); (try clear hk); (try clear hi); refine hK.out _ _ ⟨(pw_cell_below HB.out hw976_0), (pw_cell_below HB.out hw976_1), (pw_cell_below HB.out hw976_2), (pw_cell_below HB.out hw976_3), (pw_cell_below HB.out hw976_4), (pw_cell_below HB.out hw976_5), (pw_cell_below HB.out hw976_6)⟩ (fun hHeld => ?_); clear hK K; refine nm 41 ?_; refine pu 8 42 (fb 9 511) HT_ ?_; refine done_ (done_of HT_.out (by kernel_rfl)) ?_; have az : 0 ≤ (a2 : Int) := oda; have aA : a2 < (l0.length : Int) := oda; obtain ⟨bd, bg, aH, aI, aJ, aK, aL, aM, aN⟩ := at_T125 ac.out a2 az aA
         obtain rfl : a3 = bd := (by injection bg)
         replace aH := pw_cell_below HB.out aH; replace aI := pw_cell_below HB.out aI; replace aJ := pw_cell_below HB.out aJ; replace aK := pw_cell_below HB.out aK; replace aL := pw_cell_below HB.out aL; replace aM := pw_cell_below HB.out aM; replace aN := pw_cell_below HB.out aN; replace az := eq_true az; replace aA := eq_true aA
         try go_wp2
         go_ret
         exact ⟨Ye2, be HB.out⟩
        ·rw [if_neg aX] at H
         have bS : (((rd_T125 l0 a2).f1.f2) != ((Int.tmod (wrap64 ((wrap64 ((wrap64 (a4 + 1)) + 1)) + 1)) 3) == 0)) = false := by simpa using aX
         (try (have bT : decide (((rd_T125 l0 a2).f1.f2) = ((Int.tmod (wrap64 ((wrap64 ((wrap64 (a4 + 1)) + 1)) + 1)) 3) == 0)) = true := by simpa using aX)); (try (have bU : (((rd_T125 l0 a2).f1.f2) == ((Int.tmod (wrap64 ((wrap64 ((wrap64 (a4 + 1)) + 1)) + 1)) 3) == 0)) = true := by simpa using aX)); clear aX
         by_cases b0 : (((rd_T125 l0 a2).f2.f0) != ((Int.tmod (wrap64 ((wrap64 ((wrap64 ((wrap64 (a4 + 1)) + 1)) + 1)) + 1)) 3) == 0)) = true
         ·rw [if_pos b0] at H
          have bV : (((rd_T125 l0 a2).f2.f0) != ((Int.tmod (wrap64 ((wrap64 ((wrap64 ((wrap64 (a4 + 1)) + 1)) + 1)) + 1)) 3) == 0)) = true := b0; (try (have bW : decide (((rd_T125 l0 a2).f2.f0) = ((Int.tmod (wrap64 ((wrap64 ((wrap64 ((wrap64 (a4 + 1)) + 1)) + 1)) + 1)) 3) == 0)) = false := by simpa using b0)); (try (have bX : (((rd_T125 l0 a2).f2.f0) == ((Int.tmod (wrap64 ((wrap64 ((wrap64 ((wrap64 (a4 + 1)) + 1)) + 1)) + 1)) 3) == 0)) = false := by simpa using b0)); (try (have c17b3 : ¬ (((rd_T125 l0 a2).f2.f0) = ((Int.tmod (wrap64 ((wrap64 ((wrap64 ((wrap64 (a4 + 1)) + 1)) + 1)) + 1)) 3) == 0)) := by simpa using b0)); clear b0; obtain rfl := Option.some.inj H
          try go_wp2
          refine Ya1 (below_drew1 HB.out) ?_; clear HB; intro HB; have ad : 0 ≤ (a2 : Int) := oda; have ae : a2 < (l0.length : Int) := oda; obtain ⟨a3, aE, a5, a6, a7, a8, a9, aa, ab⟩ := at_T125 ac.out a2 ad ae; have hw973_6 := ab; have hw973_5 := aa; have hw973_4 := a9; have hw973_3 := a8; have hw973_2 := a7; have hw973_1 := a6; have hw973_0 := a5
          cases aE
          replace a5 := pw_cell_below HB.out a5; replace a6 := pw_cell_below HB.out a6; replace a7 := pw_cell_below HB.out a7; replace a8 := pw_cell_below HB.out a8; replace a9 := pw_cell_below HB.out a9; replace aa := pw_cell_below HB.out aa; replace ab := pw_cell_below HB.out ab; replace ad := eq_true ad; replace ae := eq_true ae; refine start_ (n := 8) (S := fun w' => w'.cell? (a3.add ((a2).toNat * 7)) = some (.string ((rd_T125 l0 a2).f0)) ∧ w'.cell? ⟨(a3.add ((a2).toNat * 7)).block, (a3.add ((a2).toNat * 7)).off + 1, none⟩ = some (.bool ((rd_T125 l0 a2).f1.f0)) ∧ w'.cell? ⟨(a3.add ((a2).toNat * 7)).block, (a3.add ((a2).toNat * 7)).off + 2, none⟩ = some (.string ((rd_T125 l0 a2).f1.f1)) ∧ w'.cell? ⟨(a3.add ((a2).toNat * 7)).block, (a3.add ((a2).toNat * 7)).off + 3, none⟩ = some (.bool ((rd_T125 l0 a2).f1.f2)) ∧ w'.cell? ⟨(a3.add ((a2).toNat * 7)).block, (a3.add ((a2).toNat * 7)).off + 4, none⟩ = some (.bool ((rd_T125 l0 a2).f2.f0)) ∧ w'.cell? ⟨(a3.add ((a2).toNat * 7)).block, (a3.add ((a2).toNat * 7)).off + 5, none⟩ = some (.string ((rd_T125 l0 a2).f2.f1)) ∧ w'.cell? ⟨(a3.add ((a2).toNat * 7)).block, (a3.add ((a2).toNat * 7)).off + 6, none⟩ = some (.bool ((rd_T125 l0 a2).f2.f2))) (ds := []) (fb 8 0) (by kernel_rfl) rfl rfl ⟨(pw_cell_below HB.out hw973_0), (pw_cell_below HB.out hw973_1), (pw_cell_below HB.out hw973_2), (pw_cell_below HB.out hw973_3), (pw_cell_below HB.out hw973_4), (pw_cell_below HB.out hw973_5), (pw_cell_below HB.out hw973_6)⟩ (fun hHeld => ?_); refine with_tabW laws_heldChangeS.tab4 laws_heldChangeS.bits4 (fun HT_ HW_ => ?_); generalize wr.drew = w18 at HB a5 a6 a7 a8 a9 aa ab hHeld ⊢; refine pu 0 12 (fb 8 1) HT_ ?_; refine pu 1 13 (fb 8 3) HT_ ?_; refine pu 2 14 (fb 8 7) HT_ ?_; refine pu 3 15 (fb 8 15) HT_ ?_; refine pu 5 17 (fb 8 47) HT_ ?_; refine tk 4 16 (fb 8 63) HT_ HW_ hHeld ?_; refine o1 6 (some 18) (fb 8 127) HT_ (fun K hK => ?_); refine gs _ (#[.int .i64 a4]) Tryd.func144 ?_; (with_reducible refine (laws_markText.calls k1 a4 aB _ A5.out).mono ?_); rintro e w19 ⟨rfl, hb⟩; refine ⟨_, rfl, ?_⟩; refine Ya1 (below_step (be HB.out) hb) ?_; clear HB; intro HB; (try clear hb); (try clear hb2); (try clear hk); (try clear hi); refine hK.out _ _ ⟨(pw_cell_below HB.out hw973_0), (pw_cell_below HB.out hw973_1), (pw_cell_below HB.out hw973_2), (pw_cell_below HB.out hw973_3), (pw_cell_below HB.out hw973_4), (pw_cell_below HB.out hw973_5), (pw_cell_below HB.out hw973_6)⟩ (fun hHeld => ?_); clear hK K; refine nm 18 ?_; refine pu 7 19 (fb 8 255) HT_ ?_; refine done_ (done_of HT_.out (by kernel_rfl)) ?_; have am : 0 ≤ (a2 : Int) := oda; have an : a2 < (l0.length : Int) := oda; obtain ⟨aV, aW, aq, ar, au, av, aw, ax, ay⟩ := at_T125 ac.out a2 am an
          obtain rfl : a3 = aV := (by injection aW)
          replace aq := pw_cell_below HB.out aq; replace ar := pw_cell_below HB.out ar; replace au := pw_cell_below HB.out au; replace av := pw_cell_below HB.out av; replace aw := pw_cell_below HB.out aw; replace ax := pw_cell_below HB.out ax; replace ay := pw_cell_below HB.out ay; replace am := eq_true am; replace an := eq_true an
          try go_wp2
          refine Ya1 (below_drew1 HB.out) ?_; clear HB; intro HB; have ao : 0 ≤ (a2 : Int) := oda; have ap : a2 < (l0.length : Int) := oda; obtain ⟨aY, aZ, af, ag, ah, ai, aj, ak, al⟩ := at_T125 ac.out a2 ao ap; have hw976_6 := al; have hw976_5 := ak; have hw976_4 := aj; have hw976_3 := ai; have hw976_2 := ah; have hw976_1 := ag; have hw976_0 := af
          obtain rfl : a3 = aY := (by injection aZ)
          replace af := pw_cell_below HB.out af; replace ag := pw_cell_below HB.out ag; replace ah := pw_cell_below HB.out ah; replace ai := pw_cell_below HB.out ai; replace aj := pw_cell_below HB.out aj; replace ak := pw_cell_below HB.out ak; replace al := pw_cell_below HB.out al; replace ao := eq_true ao; replace ap := eq_true ap; refine start_ (n := 9) (S := fun w' => w'.cell? (a3.add ((a2).toNat * 7)) = some (.string ((rd_T125 l0 a2).f0)) ∧ w'.cell? ⟨(a3.add ((a2).toNat * 7)).block, (a3.add ((a2).toNat * 7)).off + 1, none⟩ = some (.bool ((rd_T125 l0 a2).f1.f0)) ∧ w'.cell? ⟨(a3.add ((a2).toNat * 7)).block, (a3.add ((a2).toNat * 7)).off + 2, none⟩ = some (.string ((rd_T125 l0 a2).f1.f1)) ∧ w'.cell? ⟨(a3.add ((a2).toNat * 7)).block, (a3.add ((a2).toNat * 7)).off + 3, none⟩ = some (.bool ((rd_T125 l0 a2).f1.f2)) ∧ w'.cell? ⟨(a3.add ((a2).toNat * 7)).block, (a3.add ((a2).toNat * 7)).off + 4, none⟩ = some (.bool ((rd_T125 l0 a2).f2.f0)) ∧ w'.cell? ⟨(a3.add ((a2).toNat * 7)).block, (a3.add ((a2).toNat * 7)).off + 5, none⟩ = some (.string ((rd_T125 l0 a2).f2.f1)) ∧ w'.cell? ⟨(a3.add ((a2).toNat * 7)).block, (a3.add ((a2).toNat * 7)).off + 6, none⟩ = some (.bool ((rd_T125 l0 a2).f2.f2))) (ds := []) (fb 9 0) (by kernel_rfl) rfl rfl ⟨(pw_cell_below HB.out hw976_0), (pw_cell_below HB.out hw976_1), (pw_cell_below HB.out hw976_2), (pw_cell_below HB.out hw976_3), (pw_cell_below HB.out hw976_4), (pw_cell_below HB.out hw976_5), (pw_cell_below HB.out hw976_6)⟩ (fun hHeld => ?_); refine with_tabW laws_heldChangeS.tab10 laws_heldChangeS.bits10 (fun HT_ HW_ => ?_); generalize w19.drew = w20 at HB af ag ah ai aj ak al hHeld ⊢; refine pu 0 34 (fb 9 1) HT_ ?_; refine pu 1 35 (fb 9 3) HT_ ?_; refine pu 2 36 (fb 9 7) HT_ ?_; refine pu 3 37 (fb 9 15) HT_ ?_; refine pu 4 38 (fb 9 31) HT_ ?_; refine pu 6 40 (fb 9 95) HT_ ?_; refine tk 5 39 (fb 9 127) HT_ HW_ hHeld ?_; refine o1 7 (some 41) (fb 9 255) HT_ (fun K hK => ?_); refine gs _ (#[.int .i64 (wrap64 ((wrap64 (a4 + 1)) + 1))]) Tryd.func144 ?_; (with_reducible refine (laws_markText.calls k1 (wrap64 ((wrap64 (a4 + 1)) + 1)) aC _ bq.out).mono ?_); rintro e w21 ⟨rfl, hb⟩; refine ⟨_, rfl, ?_⟩; refine Ya1 (below_step (be HB.out) hb) ?_; clear HB; intro HB; (try clear hb); (try clear hb2); (try clear hk); (try clear hi); refine hK.out _ _ ⟨(pw_cell_below HB.out hw976_0), (pw_cell_below HB.out hw976_1), (pw_cell_below HB.out hw976_2), (pw_cell_below HB.out hw976_3), (pw_cell_below HB.out hw976_4), (pw_cell_below HB.out hw976_5), (pw_cell_below HB.out hw976_6)⟩ (fun hHeld => ?_); clear hK K; refine nm 41 ?_; refine pu 8 42 (fb 9 511) HT_ ?_; refine done_ (done_of HT_.out (by kernel_rfl)) ?_; have az : 0 ≤ (a2 : Int) := oda; have aA : a2 < (l0.length : Int) := oda; obtain ⟨bd, bg, aH, aI, aJ, aK, aL, aM, aN⟩ := at_T125 ac.out a2 az aA
          obtain rfl : a3 = bd := (by injection bg)
          replace aH := pw_cell_below HB.out aH; replace aI := pw_cell_below HB.out aI; replace aJ := pw_cell_below HB.out aJ; replace aK := pw_cell_below HB.out aK; replace aL := pw_cell_below HB.out aL; replace aM := pw_cell_below HB.out aM; replace aN := pw_cell_below HB.out aN; replace az := eq_true az; replace aA := eq_true aA; have aF : 0 ≤ (a2 : Int) := oda; have aG : a2 < (l0.length : Int) := oda; obtain ⟨bi, bj, b1, b2, b3, b4, b5, b6, b7⟩ := at_T125 ac.out a2 aF aG
          obtain rfl : a3 = bi := (by injection bj)
          replace b1 := pw_cell_below HB.out b1; replace b2 := pw_cell_below HB.out b2; replace b3 := pw_cell_below HB.out b3; replace b4 := pw_cell_below HB.out b4; replace b5 := pw_cell_below HB.out b5; replace b6 := pw_cell_below HB.out b6; replace b7 := pw_cell_below HB.out b7; replace aF := eq_true aF; replace aG := eq_true aG
          try go_wp2
          go_ret
          exact ⟨Ye2, be HB.out⟩
         ·rw [if_neg b0] at H
          have bV : (((rd_T125 l0 a2).f2.f0) != ((Int.tmod (wrap64 ((wrap64 ((wrap64 ((wrap64 (a4 + 1)) + 1)) + 1)) + 1)) 3) == 0)) = false := by simpa using b0
          (try (have bW : decide (((rd_T125 l0 a2).f2.f0) = ((Int.tmod (wrap64 ((wrap64 ((wrap64 ((wrap64 (a4 + 1)) + 1)) + 1)) + 1)) 3) == 0)) = true := by simpa using b0)); (try (have bX : (((rd_T125 l0 a2).f2.f0) == ((Int.tmod (wrap64 ((wrap64 ((wrap64 ((wrap64 (a4 + 1)) + 1)) + 1)) + 1)) 3) == 0)) = true := by simpa using b0)); clear b0; replace H := Option.bind_eq_some_iff.mp H; obtain ⟨aD, bJ, H⟩ := H; replace H : (if ((rd_T125 l0 a2).f2.f1).toList = aD.toList then (if (((rd_T125 l0 a2).f2.f2) != ((Int.tmod (wrap64 ((wrap64 ((wrap64 ((wrap64 ((wrap64 ((wrap64 (a4 + 1)) + 1)) + 1)) + 1)) + 1)) + 1)) 3) == 0)) = true then (some (-1)) else (laws_heldChangeS.l0 k1 l0 (wrap64 ((wrap64 ((wrap64 ((wrap64 ((wrap64 ((wrap64 ((wrap64 (a4 + 1)) + 1)) + 1)) + 1)) + 1)) + 1)) + 1)) (wrap64 (a2 + 1)))) else (some (-1))) = some r := H; have bF := Aside0.mk bJ; clear bJ
          by_cases bm : ((rd_T125 l0 a2).f2.f1).toList = aD.toList
          ·rw [if_pos bm] at H
           have bY : (((rd_T125 l0 a2).f2.f1).toList == aD.toList) = true := beq_iff_eq.mpr bm; have bZ : (((rd_T125 l0 a2).f2.f1).toList != aD.toList) = false := bne_eq_false_iff_eq.mpr bm; clear bm
           by_cases b8 : (((rd_T125 l0 a2).f2.f2) != ((Int.tmod (wrap64 ((wrap64 ((wrap64 ((wrap64 ((wrap64 ((wrap64 (a4 + 1)) + 1)) + 1)) + 1)) + 1)) + 1)) 3) == 0)) = true
           ·rw [if_pos b8] at H
            have ca : (((rd_T125 l0 a2).f2.f2) != ((Int.tmod (wrap64 ((wrap64 ((wrap64 ((wrap64 ((wrap64 ((wrap64 (a4 + 1)) + 1)) + 1)) + 1)) + 1)) + 1)) 3) == 0)) = true := b8; (try (have cc : decide (((rd_T125 l0 a2).f2.f2) = ((Int.tmod (wrap64 ((wrap64 ((wrap64 ((wrap64 ((wrap64 ((wrap64 (a4 + 1)) + 1)) + 1)) + 1)) + 1)) + 1)) 3) == 0)) = false := by simpa using b8)); (try (have cd : (((rd_T125 l0 a2).f2.f2) == ((Int.tmod (wrap64 ((wrap64 ((wrap64 ((wrap64 ((wrap64 ((wrap64 (a4 + 1)) + 1)) + 1)) + 1)) + 1)) + 1)) 3) == 0)) = false := by simpa using b8)); (try (have c24b3 : ¬ (((rd_T125 l0 a2).f2.f2) = ((Int.tmod (wrap64 ((wrap64 ((wrap64 ((wrap64 ((wrap64 ((wrap64 (a4 + 1)) + 1)) + 1)) + 1)) + 1)) + 1)) 3) == 0)) := by simpa using b8)); clear b8; obtain rfl := Option.some.inj H
            try go_wp2
            refine Ya1 (below_drew1 HB.out) ?_; clear HB; intro HB; have ad : 0 ≤ (a2 : Int) := oda; have ae : a2 < (l0.length : Int) := oda; obtain ⟨a3, aE, a5, a6, a7, a8, a9, aa, ab⟩ := at_T125 ac.out a2 ad ae; have hw973_6 := ab; have hw973_5 := aa; have hw973_4 := a9; have hw973_3 := a8; have hw973_2 := a7; have hw973_1 := a6; have hw973_0 := a5
            cases aE
            replace a5 := pw_cell_below HB.out a5; replace a6 := pw_cell_below HB.out a6; replace a7 := pw_cell_below HB.out a7; replace a8 := pw_cell_below HB.out a8; replace a9 := pw_cell_below HB.out a9; replace aa := pw_cell_below HB.out aa; replace ab := pw_cell_below HB.out ab; replace ad := eq_true ad; replace ae := eq_true ae; refine start_ (n := 8) (S := fun w' => w'.cell? (a3.add ((a2).toNat * 7)) = some (.string ((rd_T125 l0 a2).f0)) ∧ w'.cell? ⟨(a3.add ((a2).toNat * 7)).block, (a3.add ((a2).toNat * 7)).off + 1, none⟩ = some (.bool ((rd_T125 l0 a2).f1.f0)) ∧ w'.cell? ⟨(a3.add ((a2).toNat * 7)).block, (a3.add ((a2).toNat * 7)).off + 2, none⟩ = some (.string ((rd_T125 l0 a2).f1.f1)) ∧ w'.cell? ⟨(a3.add ((a2).toNat * 7)).block, (a3.add ((a2).toNat * 7)).off + 3, none⟩ = some (.bool ((rd_T125 l0 a2).f1.f2)) ∧ w'.cell? ⟨(a3.add ((a2).toNat * 7)).block, (a3.add ((a2).toNat * 7)).off + 4, none⟩ = some (.bool ((rd_T125 l0 a2).f2.f0)) ∧ w'.cell? ⟨(a3.add ((a2).toNat * 7)).block, (a3.add ((a2).toNat * 7)).off + 5, none⟩ = some (.string ((rd_T125 l0 a2).f2.f1)) ∧ w'.cell? ⟨(a3.add ((a2).toNat * 7)).block, (a3.add ((a2).toNat * 7)).off + 6, none⟩ = some (.bool ((rd_T125 l0 a2).f2.f2))) (ds := []) (fb 8 0) (by kernel_rfl) rfl rfl ⟨(pw_cell_below HB.out hw973_0), (pw_cell_below HB.out hw973_1), (pw_cell_below HB.out hw973_2), (pw_cell_below HB.out hw973_3), (pw_cell_below HB.out hw973_4), (pw_cell_below HB.out hw973_5), (pw_cell_below HB.out hw973_6)⟩ (fun hHeld => ?_); refine with_tabW laws_heldChangeS.tab4 laws_heldChangeS.bits4 (fun HT_ HW_ => ?_); generalize wr.drew = w25 at HB a5 a6 a7 a8 a9 aa ab hHeld ⊢; refine pu 0 12 (fb 8 1) HT_ ?_; refine pu 1 13 (fb 8 3) HT_ ?_; refine pu 2 14 (fb 8 7) HT_ ?_; refine pu 3 15 (fb 8 15) HT_ ?_; refine pu 5 17 (fb 8 47) HT_ ?_; refine tk 4 16 (fb 8 63) HT_ HW_ hHeld ?_; refine o1 6 (some 18) (fb 8 127) HT_ (fun K hK => ?_); refine gs _ (#[.int .i64 a4]) Tryd.func144 ?_; (with_reducible refine (laws_markText.calls k1 a4 aB _ A5.out).mono ?_); rintro e w26 ⟨rfl, hb⟩; refine ⟨_, rfl, ?_⟩; refine Ya1 (below_step (be HB.out) hb) ?_; clear HB; intro HB; (try clear hb); (try clear hb2); (try clear hk); (try clear hi); refine hK.out _ _ ⟨(pw_cell_below HB.out hw973_0), (pw_cell_below HB.out hw973_1), (pw_cell_below HB.out hw973_2), (pw_cell_below HB.out hw973_3), (pw_cell_below HB.out hw973_4), (pw_cell_below HB.out hw973_5), (pw_cell_below HB.out hw973_6)⟩ (fun hHeld => ?_); clear hK K; refine nm 18 ?_; refine pu 7 19 (fb 8 255) HT_ ?_; refine done_ (done_of HT_.out (by kernel_rfl)) ?_; have am : 0 ≤ (a2 : Int) := oda; have an : a2 < (l0.length : Int) := oda; obtain ⟨aV, aW, aq, ar, au, av, aw, ax, ay⟩ := at_T125 ac.out a2 am an
            obtain rfl : a3 = aV := (by injection aW)
            replace aq := pw_cell_below HB.out aq; replace ar := pw_cell_below HB.out ar; replace au := pw_cell_below HB.out au; replace av := pw_cell_below HB.out av; replace aw := pw_cell_below HB.out aw; replace ax := pw_cell_below HB.out ax; replace ay := pw_cell_below HB.out ay; replace am := eq_true am; replace an := eq_true an
            try go_wp2
            refine Ya1 (below_drew1 HB.out) ?_; clear HB; intro HB; have ao : 0 ≤ (a2 : Int) := oda; have ap : a2 < (l0.length : Int) := oda; obtain ⟨aY, aZ, af, ag, ah, ai, aj, ak, al⟩ := at_T125 ac.out a2 ao ap; have hw976_6 := al; have hw976_5 := ak; have hw976_4 := aj; have hw976_3 := ai; have hw976_2 := ah; have hw976_1 := ag; have hw976_0 := af
            obtain rfl : a3 = aY := (by injection aZ)
            replace af := pw_cell_below HB.out af; replace ag := pw_cell_below HB.out ag; replace ah := pw_cell_below HB.out ah; replace ai := pw_cell_below HB.out ai; replace aj := pw_cell_below HB.out aj; replace ak := pw_cell_below HB.out ak; replace al := pw_cell_below HB.out al; replace ao := eq_true ao; replace ap := eq_true ap; refine start_ (n := 9) (S := fun w' => w'.cell? (a3.add ((a2).toNat * 7)) = some (.string ((rd_T125 l0 a2).f0)) ∧ w'.cell? ⟨(a3.add ((a2).toNat * 7)).block, (a3.add ((a2).toNat * 7)).off + 1, none⟩ = some (.bool ((rd_T125 l0 a2).f1.f0)) ∧ w'.cell? ⟨(a3.add ((a2).toNat * 7)).block, (a3.add ((a2).toNat * 7)).off + 2, none⟩ = some (.string ((rd_T125 l0 a2).f1.f1)) ∧ w'.cell? ⟨(a3.add ((a2).toNat * 7)).block, (a3.add ((a2).toNat * 7)).off + 3, none⟩ = some (.bool ((rd_T125 l0 a2).f1.f2)) ∧ w'.cell? ⟨(a3.add ((a2).toNat * 7)).block, (a3.add ((a2).toNat * 7)).off + 4, none⟩ = some (.bool ((rd_T125 l0 a2).f2.f0)) ∧ w'.cell? ⟨(a3.add ((a2).toNat * 7)).block, (a3.add ((a2).toNat * 7)).off + 5, none⟩ = some (.string ((rd_T125 l0 a2).f2.f1)) ∧ w'.cell? ⟨(a3.add ((a2).toNat * 7)).block, (a3.add ((a2).toNat * 7)).off + 6, none⟩ = some (.bool ((rd_T125 l0 a2).f2.f2))) (ds := []) (fb 9 0) (by kernel_rfl) rfl rfl ⟨(pw_cell_below HB.out hw976_0), (pw_cell_below HB.out hw976_1), (pw_cell_below HB.out hw976_2), (pw_cell_below HB.out hw976_3), (pw_cell_below HB.out hw976_4), (pw_cell_below HB.out hw976_5), (pw_cell_below HB.out hw976_6)⟩ (fun hHeld => ?_); refine with_tabW laws_heldChangeS.tab10 laws_heldChangeS.bits10 (fun HT_ HW_ => ?_); generalize w26.drew = w27 at HB af ag ah ai aj ak al hHeld ⊢; refine pu 0 34 (fb 9 1) HT_ ?_; refine pu 1 35 (fb 9 3) HT_ ?_; refine pu 2 36 (fb 9 7) HT_ ?_; refine pu 3 37 (fb 9 15) HT_ ?_; refine pu 4 38 (fb 9 31) HT_ ?_; refine pu 6 40 (fb 9 95) HT_ ?_; refine tk 5 39 (fb 9 127) HT_ HW_ hHeld ?_; refine o1 7 (some 41) (fb 9 255) HT_ (fun K hK => ?_); refine gs _ (#[.int .i64 (wrap64 ((wrap64 (a4 + 1)) + 1))]) Tryd.func144 ?_; (with_reducible refine (laws_markText.calls k1 (wrap64 ((wrap64 (a4 + 1)) + 1)) aC _ bq.out).mono ?_); rintro e w28 ⟨rfl, hb⟩; refine ⟨_, rfl, ?_⟩; refine Ya1 (below_step (be HB.out) hb) ?_; clear HB; intro HB; (try clear hb); (try clear hb2); (try clear hk); (try clear hi); refine hK.out _ _ ⟨(pw_cell_below HB.out hw976_0), (pw_cell_below HB.out hw976_1), (pw_cell_below HB.out hw976_2), (pw_cell_below HB.out hw976_3), (pw_cell_below HB.out hw976_4), (pw_cell_below HB.out hw976_5), (pw_cell_below HB.out hw976_6)⟩ (fun hHeld => ?_); clear hK K; refine nm 41 ?_; refine pu 8 42 (fb 9 511) HT_ ?_; refine done_ (done_of HT_.out (by kernel_rfl)) ?_; have az : 0 ≤ (a2 : Int) := oda; have aA : a2 < (l0.length : Int) := oda; obtain ⟨bd, bg, aH, aI, aJ, aK, aL, aM, aN⟩ := at_T125 ac.out a2 az aA
            obtain rfl : a3 = bd := (by injection bg)
            replace aH := pw_cell_below HB.out aH; replace aI := pw_cell_below HB.out aI; replace aJ := pw_cell_below HB.out aJ; replace aK := pw_cell_below HB.out aK; replace aL := pw_cell_below HB.out aL; replace aM := pw_cell_below HB.out aM; replace aN := pw_cell_below HB.out aN; replace az := eq_true az; replace aA := eq_true aA; have aF : 0 ≤ (a2 : Int) := oda; have aG : a2 < (l0.length : Int) := oda; obtain ⟨bi, bj, b1, b2, b3, b4, b5, b6, b7⟩ := at_T125 ac.out a2 aF aG
            obtain rfl : a3 = bi := (by injection bj)
            replace b1 := pw_cell_below HB.out b1; replace b2 := pw_cell_below HB.out b2; replace b3 := pw_cell_below HB.out b3; replace b4 := pw_cell_below HB.out b4; replace b5 := pw_cell_below HB.out b5; replace b6 := pw_cell_below HB.out b6; replace b7 := pw_cell_below HB.out b7; replace aF := eq_true aF; replace aG := eq_true aG
            try go_wp2
            refine Ya1 (below_drew1 HB.out) ?_; clear HB; intro HB; have b9 : 0 ≤ (a2 : Int) := oda; have ba : a2 < (l0.length : Int) := oda; obtain ⟨bu, bv, aO, aP, aQ, aR, aS, aT, aU⟩ := at_T125 ac.out a2 b9 ba; have hw980_6 := aU; have hw980_5 := aT; have hw980_4 := aS; have hw980_3 := aR; have hw980_2 := aQ; have hw980_1 := aP; have hw980_0 := aO
            obtain rfl : a3 = bu := (by injection bv)
            replace aO := pw_cell_below HB.out aO; replace aP := pw_cell_below HB.out aP; replace aQ := pw_cell_below HB.out aQ; replace aR := pw_cell_below HB.out aR; replace aS := pw_cell_below HB.out aS; replace aT := pw_cell_below HB.out aT; replace aU := pw_cell_below HB.out aU; replace b9 := eq_true b9; replace ba := eq_true ba; refine start_ (n := 9) (S := fun w' => w'.cell? (a3.add ((a2).toNat * 7)) = some (.string ((rd_T125 l0 a2).f0)) ∧ w'.cell? ⟨(a3.add ((a2).toNat * 7)).block, (a3.add ((a2).toNat * 7)).off + 1, none⟩ = some (.bool ((rd_T125 l0 a2).f1.f0)) ∧ w'.cell? ⟨(a3.add ((a2).toNat * 7)).block, (a3.add ((a2).toNat * 7)).off + 2, none⟩ = some (.string ((rd_T125 l0 a2).f1.f1)) ∧ w'.cell? ⟨(a3.add ((a2).toNat * 7)).block, (a3.add ((a2).toNat * 7)).off + 3, none⟩ = some (.bool ((rd_T125 l0 a2).f1.f2)) ∧ w'.cell? ⟨(a3.add ((a2).toNat * 7)).block, (a3.add ((a2).toNat * 7)).off + 4, none⟩ = some (.bool ((rd_T125 l0 a2).f2.f0)) ∧ w'.cell? ⟨(a3.add ((a2).toNat * 7)).block, (a3.add ((a2).toNat * 7)).off + 5, none⟩ = some (.string ((rd_T125 l0 a2).f2.f1)) ∧ w'.cell? ⟨(a3.add ((a2).toNat * 7)).block, (a3.add ((a2).toNat * 7)).off + 6, none⟩ = some (.bool ((rd_T125 l0 a2).f2.f2))) (ds := []) (fb 9 0) (by kernel_rfl) rfl rfl ⟨(pw_cell_below HB.out hw980_0), (pw_cell_below HB.out hw980_1), (pw_cell_below HB.out hw980_2), (pw_cell_below HB.out hw980_3), (pw_cell_below HB.out hw980_4), (pw_cell_below HB.out hw980_5), (pw_cell_below HB.out hw980_6)⟩ (fun hHeld => ?_); refine with_tabW laws_heldChangeS.tab19 laws_heldChangeS.bits19 (fun HT_ HW_ => ?_); generalize w28.drew = w29 at HB aO aP aQ aR aS aT aU hHeld ⊢; refine pu 0 69 (fb 9 1) HT_ ?_; refine pu 1 70 (fb 9 3) HT_ ?_; refine pu 2 71 (fb 9 7) HT_ ?_; refine pu 3 72 (fb 9 15) HT_ ?_; refine pu 4 73 (fb 9 31) HT_ ?_; refine pu 6 75 (fb 9 95) HT_ ?_; refine tk 5 74 (fb 9 127) HT_ HW_ hHeld ?_; refine o1 7 (some 76) (fb 9 255) HT_ (fun K hK => ?_); refine gs _ (#[.int .i64 (wrap64 ((wrap64 ((wrap64 ((wrap64 ((wrap64 (a4 + 1)) + 1)) + 1)) + 1)) + 1))]) Tryd.func144 ?_; (with_reducible refine (laws_markText.calls k1 (wrap64 ((wrap64 ((wrap64 ((wrap64 ((wrap64 (a4 + 1)) + 1)) + 1)) + 1)) + 1)) aD _ bF.out).mono ?_); rintro e w30 ⟨rfl, hb⟩; refine ⟨_, rfl, ?_⟩; refine Ya1 (below_step (be HB.out) hb) ?_; clear HB; intro HB; (try clear hb); (try clear hb2); (try clear hk); (try clear hi); refine hK.out _ _ ⟨(pw_cell_below HB.out hw980_0), (pw_cell_below HB.out hw980_1), (pw_cell_below HB.out hw980_2), (pw_cell_below HB.out hw980_3), (pw_cell_below HB.out hw980_4), (pw_cell_below HB.out hw980_5), (pw_cell_below HB.out hw980_6)⟩ (fun hHeld => ?_); clear hK K; refine nm 76 ?_; refine pu 8 77 (fb 9 511) HT_ ?_; refine done_ (done_of HT_.out (by kernel_rfl)) ?_; have bn : 0 ≤ (a2 : Int) := oda; have bo : a2 < (l0.length : Int) := oda; obtain ⟨bG, bH, bw, bz, bA, bB, bC, bD, bE⟩ := at_T125 ac.out a2 bn bo
            obtain rfl : a3 = bG := (by injection bH)
            replace bw := pw_cell_below HB.out bw; replace bz := pw_cell_below HB.out bz; replace bA := pw_cell_below HB.out bA; replace bB := pw_cell_below HB.out bB; replace bC := pw_cell_below HB.out bC; replace bD := pw_cell_below HB.out bD; replace bE := pw_cell_below HB.out bE; replace bn := eq_true bn; replace bo := eq_true bo
            try go_wp2
            go_ret
            exact ⟨Ye2, be HB.out⟩
           ·rw [if_neg b8] at H
            have ca : (((rd_T125 l0 a2).f2.f2) != ((Int.tmod (wrap64 ((wrap64 ((wrap64 ((wrap64 ((wrap64 ((wrap64 (a4 + 1)) + 1)) + 1)) + 1)) + 1)) + 1)) 3) == 0)) = false := by simpa using b8
            (try (have cc : decide (((rd_T125 l0 a2).f2.f2) = ((Int.tmod (wrap64 ((wrap64 ((wrap64 ((wrap64 ((wrap64 ((wrap64 (a4 + 1)) + 1)) + 1)) + 1)) + 1)) + 1)) 3) == 0)) = true := by simpa using b8)); (try (have cd : (((rd_T125 l0 a2).f2.f2) == ((Int.tmod (wrap64 ((wrap64 ((wrap64 ((wrap64 ((wrap64 ((wrap64 (a4 + 1)) + 1)) + 1)) + 1)) + 1)) + 1)) 3) == 0)) = true := by simpa using b8)); clear b8; have H' := Aside0.mk H; clear H
            try go_wp2
            refine Ya1 (below_drew1 HB.out) ?_; clear HB; intro HB; have ad : 0 ≤ (a2 : Int) := oda; have ae : a2 < (l0.length : Int) := oda; obtain ⟨a3, aE, a5, a6, a7, a8, a9, aa, ab⟩ := at_T125 ac.out a2 ad ae; have hw973_6 := ab; have hw973_5 := aa; have hw973_4 := a9; have hw973_3 := a8; have hw973_2 := a7; have hw973_1 := a6; have hw973_0 := a5
            cases aE
            replace a5 := pw_cell_below HB.out a5; replace a6 := pw_cell_below HB.out a6; replace a7 := pw_cell_below HB.out a7; replace a8 := pw_cell_below HB.out a8; replace a9 := pw_cell_below HB.out a9; replace aa := pw_cell_below HB.out aa; replace ab := pw_cell_below HB.out ab; replace ad := eq_true ad; replace ae := eq_true ae; refine start_ (n := 8) (S := fun w' => w'.cell? (a3.add ((a2).toNat * 7)) = some (.string ((rd_T125 l0 a2).f0)) ∧ w'.cell? ⟨(a3.add ((a2).toNat * 7)).block, (a3.add ((a2).toNat * 7)).off + 1, none⟩ = some (.bool ((rd_T125 l0 a2).f1.f0)) ∧ w'.cell? ⟨(a3.add ((a2).toNat * 7)).block, (a3.add ((a2).toNat * 7)).off + 2, none⟩ = some (.string ((rd_T125 l0 a2).f1.f1)) ∧ w'.cell? ⟨(a3.add ((a2).toNat * 7)).block, (a3.add ((a2).toNat * 7)).off + 3, none⟩ = some (.bool ((rd_T125 l0 a2).f1.f2)) ∧ w'.cell? ⟨(a3.add ((a2).toNat * 7)).block, (a3.add ((a2).toNat * 7)).off + 4, none⟩ = some (.bool ((rd_T125 l0 a2).f2.f0)) ∧ w'.cell? ⟨(a3.add ((a2).toNat * 7)).block, (a3.add ((a2).toNat * 7)).off + 5, none⟩ = some (.string ((rd_T125 l0 a2).f2.f1)) ∧ w'.cell? ⟨(a3.add ((a2).toNat * 7)).block, (a3.add ((a2).toNat * 7)).off + 6, none⟩ = some (.bool ((rd_T125 l0 a2).f2.f2))) (ds := []) (fb 8 0) (by kernel_rfl) rfl rfl ⟨(pw_cell_below HB.out hw973_0), (pw_cell_below HB.out hw973_1), (pw_cell_below HB.out hw973_2), (pw_cell_below HB.out hw973_3), (pw_cell_below HB.out hw973_4), (pw_cell_below HB.out hw973_5), (pw_cell_below HB.out hw973_6)⟩ (fun hHeld => ?_); refine with_tabW laws_heldChangeS.tab4 laws_heldChangeS.bits4 (fun HT_ HW_ => ?_); generalize wr.drew = w31 at HB a5 a6 a7 a8 a9 aa ab hHeld ⊢; refine pu 0 12 (fb 8 1) HT_ ?_; refine pu 1 13 (fb 8 3) HT_ ?_; refine pu 2 14 (fb 8 7) HT_ ?_; refine pu 3 15 (fb 8 15) HT_ ?_; refine pu 5 17 (fb 8 47) HT_ ?_; refine tk 4 16 (fb 8 63) HT_ HW_ hHeld ?_; refine o1 6 (some 18) (fb 8 127) HT_ (fun K hK => ?_); refine gs _ (#[.int .i64 a4]) Tryd.func144 ?_; (with_reducible refine (laws_markText.calls k1 a4 aB _ A5.out).mono ?_); rintro e w32 ⟨rfl, hb⟩; refine ⟨_, rfl, ?_⟩; refine Ya1 (below_step (be HB.out) hb) ?_; clear HB; intro HB; (try clear hb); (try clear hb2); (try clear hk); (try clear hi); refine hK.out _ _ ⟨(pw_cell_below HB.out hw973_0), (pw_cell_below HB.out hw973_1), (pw_cell_below HB.out hw973_2), (pw_cell_below HB.out hw973_3), (pw_cell_below HB.out hw973_4), (pw_cell_below HB.out hw973_5), (pw_cell_below HB.out hw973_6)⟩ (fun hHeld => ?_); clear hK K; refine nm 18 ?_; refine pu 7 19 (fb 8 255) HT_ ?_; refine done_ (done_of HT_.out (by kernel_rfl)) ?_; have am : 0 ≤ (a2 : Int) := oda; have an : a2 < (l0.length : Int) := oda; obtain ⟨aV, aW, aq, ar, au, av, aw, ax, ay⟩ := at_T125 ac.out a2 am an
            obtain rfl : a3 = aV := (by injection aW)
            replace aq := pw_cell_below HB.out aq; replace ar := pw_cell_below HB.out ar; replace au := pw_cell_below HB.out au; replace av := pw_cell_below HB.out av; replace aw := pw_cell_below HB.out aw; replace ax := pw_cell_below HB.out ax; replace ay := pw_cell_below HB.out ay; replace am := eq_true am; replace an := eq_true an
            try go_wp2
            refine Ya1 (below_drew1 HB.out) ?_; clear HB; intro HB; have ao : 0 ≤ (a2 : Int) := oda; have ap : a2 < (l0.length : Int) := oda; obtain ⟨aY, aZ, af, ag, ah, ai, aj, ak, al⟩ := at_T125 ac.out a2 ao ap; have hw976_6 := al; have hw976_5 := ak; have hw976_4 := aj; have hw976_3 := ai; have hw976_2 := ah; have hw976_1 := ag; have hw976_0 := af
            obtain rfl : a3 = aY := (by injection aZ)
            replace af := pw_cell_below HB.out af; replace ag := pw_cell_below HB.out ag; replace ah := pw_cell_below HB.out ah; replace ai := pw_cell_below HB.out ai; replace aj := pw_cell_below HB.out aj; replace ak := pw_cell_below HB.out ak; replace al := pw_cell_below HB.out al; replace ao := eq_true ao; replace ap := eq_true ap; refine start_ (n := 9) (S := fun w' => w'.cell? (a3.add ((a2).toNat * 7)) = some (.string ((rd_T125 l0 a2).f0)) ∧ w'.cell? ⟨(a3.add ((a2).toNat * 7)).block, (a3.add ((a2).toNat * 7)).off + 1, none⟩ = some (.bool ((rd_T125 l0 a2).f1.f0)) ∧ w'.cell? ⟨(a3.add ((a2).toNat * 7)).block, (a3.add ((a2).toNat * 7)).off + 2, none⟩ = some (.string ((rd_T125 l0 a2).f1.f1)) ∧ w'.cell? ⟨(a3.add ((a2).toNat * 7)).block, (a3.add ((a2).toNat * 7)).off + 3, none⟩ = some (.bool ((rd_T125 l0 a2).f1.f2)) ∧ w'.cell? ⟨(a3.add ((a2).toNat * 7)).block, (a3.add ((a2).toNat * 7)).off + 4, none⟩ = some (.bool ((rd_T125 l0 a2).f2.f0)) ∧ w'.cell? ⟨(a3.add ((a2).toNat * 7)).block, (a3.add ((a2).toNat * 7)).off + 5, none⟩ = some (.string ((rd_T125 l0 a2).f2.f1)) ∧ w'.cell? ⟨(a3.add ((a2).toNat * 7)).block, (a3.add ((a2).toNat * 7)).off + 6, none⟩ = some (.bool ((rd_T125 l0 a2).f2.f2))) (ds := []) (fb 9 0) (by kernel_rfl) rfl rfl ⟨(pw_cell_below HB.out hw976_0), (pw_cell_below HB.out hw976_1), (pw_cell_below HB.out hw976_2), (pw_cell_below HB.out hw976_3), (pw_cell_below HB.out hw976_4), (pw_cell_below HB.out hw976_5), (pw_cell_below HB.out hw976_6)⟩ (fun hHeld => ?_); refine with_tabW laws_heldChangeS.tab10 laws_heldChangeS.bits10 (fun HT_ HW_ => ?_); generalize w32.drew = w33 at HB af ag ah ai aj ak al hHeld ⊢; refine pu 0 34 (fb 9 1) HT_ ?_; refine pu 1 35 (fb 9 3) HT_ ?_; refine pu 2 36 (fb 9 7) HT_ ?_; refine pu 3 37 (fb 9 15) HT_ ?_; refine pu 4 38 (fb 9 31) HT_ ?_; refine pu 6 40 (fb 9 95) HT_ ?_; refine tk 5 39 (fb 9 127) HT_ HW_ hHeld ?_; refine o1 7 (some 41) (fb 9 255) HT_ (fun K hK => ?_); refine gs _ (#[.int .i64 (wrap64 ((wrap64 (a4 + 1)) + 1))]) Tryd.func144 ?_; (with_reducible refine (laws_markText.calls k1 (wrap64 ((wrap64 (a4 + 1)) + 1)) aC _ bq.out).mono ?_); rintro e w34 ⟨rfl, hb⟩; refine ⟨_, rfl, ?_⟩; refine Ya1 (below_step (be HB.out) hb) ?_; clear HB; intro HB; (try clear hb); (try clear hb2); (try clear hk); (try clear hi); refine hK.out _ _ ⟨(pw_cell_below HB.out hw976_0), (pw_cell_below HB.out hw976_1), (pw_cell_below HB.out hw976_2), (pw_cell_below HB.out hw976_3), (pw_cell_below HB.out hw976_4), (pw_cell_below HB.out hw976_5), (pw_cell_below HB.out hw976_6)⟩ (fun hHeld => ?_); clear hK K; refine nm 41 ?_; refine pu 8 42 (fb 9 511) HT_ ?_; refine done_ (done_of HT_.out (by kernel_rfl)) ?_; have az : 0 ≤ (a2 : Int) := oda; have aA : a2 < (l0.length : Int) := oda; obtain ⟨bd, bg, aH, aI, aJ, aK, aL, aM, aN⟩ := at_T125 ac.out a2 az aA
            obtain rfl : a3 = bd := (by injection bg)
            replace aH := pw_cell_below HB.out aH; replace aI := pw_cell_below HB.out aI; replace aJ := pw_cell_below HB.out aJ; replace aK := pw_cell_below HB.out aK; replace aL := pw_cell_below HB.out aL; replace aM := pw_cell_below HB.out aM; replace aN := pw_cell_below HB.out aN; replace az := eq_true az; replace aA := eq_true aA; have aF : 0 ≤ (a2 : Int) := oda; have aG : a2 < (l0.length : Int) := oda; obtain ⟨bi, bj, b1, b2, b3, b4, b5, b6, b7⟩ := at_T125 ac.out a2 aF aG
            obtain rfl : a3 = bi := (by injection bj)
            replace b1 := pw_cell_below HB.out b1; replace b2 := pw_cell_below HB.out b2; replace b3 := pw_cell_below HB.out b3; replace b4 := pw_cell_below HB.out b4; replace b5 := pw_cell_below HB.out b5; replace b6 := pw_cell_below HB.out b6; replace b7 := pw_cell_below HB.out b7; replace aF := eq_true aF; replace aG := eq_true aG
            try go_wp2
            refine Ya1 (below_drew1 HB.out) ?_; clear HB; intro HB; have b9 : 0 ≤ (a2 : Int) := oda; have ba : a2 < (l0.length : Int) := oda; obtain ⟨bu, bv, aO, aP, aQ, aR, aS, aT, aU⟩ := at_T125 ac.out a2 b9 ba; have hw980_6 := aU; have hw980_5 := aT; have hw980_4 := aS; have hw980_3 := aR; have hw980_2 := aQ; have hw980_1 := aP; have hw980_0 := aO
            obtain rfl : a3 = bu := (by injection bv)
            replace aO := pw_cell_below HB.out aO; replace aP := pw_cell_below HB.out aP; replace aQ := pw_cell_below HB.out aQ; replace aR := pw_cell_below HB.out aR; replace aS := pw_cell_below HB.out aS; replace aT := pw_cell_below HB.out aT; replace aU := pw_cell_below HB.out aU; replace b9 := eq_true b9; replace ba := eq_true ba; refine start_ (n := 9) (S := fun w' => w'.cell? (a3.add ((a2).toNat * 7)) = some (.string ((rd_T125 l0 a2).f0)) ∧ w'.cell? ⟨(a3.add ((a2).toNat * 7)).block, (a3.add ((a2).toNat * 7)).off + 1, none⟩ = some (.bool ((rd_T125 l0 a2).f1.f0)) ∧ w'.cell? ⟨(a3.add ((a2).toNat * 7)).block, (a3.add ((a2).toNat * 7)).off + 2, none⟩ = some (.string ((rd_T125 l0 a2).f1.f1)) ∧ w'.cell? ⟨(a3.add ((a2).toNat * 7)).block, (a3.add ((a2).toNat * 7)).off + 3, none⟩ = some (.bool ((rd_T125 l0 a2).f1.f2)) ∧ w'.cell? ⟨(a3.add ((a2).toNat * 7)).block, (a3.add ((a2).toNat * 7)).off + 4, none⟩ = some (.bool ((rd_T125 l0 a2).f2.f0)) ∧ w'.cell? ⟨(a3.add ((a2).toNat * 7)).block, (a3.add ((a2).toNat * 7)).off + 5, none⟩ = some (.string ((rd_T125 l0 a2).f2.f1)) ∧ w'.cell? ⟨(a3.add ((a2).toNat * 7)).block, (a3.add ((a2).toNat * 7)).off + 6, none⟩ = some (.bool ((rd_T125 l0 a2).f2.f2))) (ds := []) (fb 9 0) (by kernel_rfl) rfl rfl ⟨(pw_cell_below HB.out hw980_0), (pw_cell_below HB.out hw980_1), (pw_cell_below HB.out hw980_2), (pw_cell_below HB.out hw980_3), (pw_cell_below HB.out hw980_4), (pw_cell_below HB.out hw980_5), (pw_cell_below HB.out hw980_6)⟩ (fun hHeld => ?_); refine with_tabW laws_heldChangeS.tab19 laws_heldChangeS.bits19 (fun HT_ HW_ => ?_); generalize w34.drew = w35 at HB aO aP aQ aR aS aT aU hHeld ⊢; refine pu 0 69 (fb 9 1) HT_ ?_; refine pu 1 70 (fb 9 3) HT_ ?_; refine pu 2 71 (fb 9 7) HT_ ?_; refine pu 3 72 (fb 9 15) HT_ ?_; refine pu 4 73 (fb 9 31) HT_ ?_; refine pu 6 75 (fb 9 95) HT_ ?_; refine tk 5 74 (fb 9 127) HT_ HW_ hHeld ?_; refine o1 7 (some 76) (fb 9 255) HT_ (fun K hK => ?_); refine gs _ (#[.int .i64 (wrap64 ((wrap64 ((wrap64 ((wrap64 ((wrap64 (a4 + 1)) + 1)) + 1)) + 1)) + 1))]) Tryd.func144 ?_; (with_reducible refine (laws_markText.calls k1 (wrap64 ((wrap64 ((wrap64 ((wrap64 ((wrap64 (a4 + 1)) + 1)) + 1)) + 1)) + 1)) aD _ bF.out).mono ?_); rintro e w36 ⟨rfl, hb⟩; refine ⟨_, rfl, ?_⟩; refine Ya1 (below_step (be HB.out) hb) ?_; clear HB; intro HB; (try clear hb); (try clear hb2); (try clear hk); (try clear hi); refine hK.out _ _ ⟨(pw_cell_below HB.out hw980_0), (pw_cell_below HB.out hw980_1), (pw_cell_below HB.out hw980_2), (pw_cell_below HB.out hw980_3), (pw_cell_below HB.out hw980_4), (pw_cell_below HB.out hw980_5), (pw_cell_below HB.out hw980_6)⟩ (fun hHeld => ?_); clear hK K; refine nm 76 ?_; refine pu 8 77 (fb 9 511) HT_ ?_; refine done_ (done_of HT_.out (by kernel_rfl)) ?_; have bn : 0 ≤ (a2 : Int) := oda; have bo : a2 < (l0.length : Int) := oda; obtain ⟨bG, bH, bw, bz, bA, bB, bC, bD, bE⟩ := at_T125 ac.out a2 bn bo
            obtain rfl : a3 = bG := (by injection bH)
            replace bw := pw_cell_below HB.out bw; replace bz := pw_cell_below HB.out bz; replace bA := pw_cell_below HB.out bA; replace bB := pw_cell_below HB.out bB; replace bC := pw_cell_below HB.out bC; replace bD := pw_cell_below HB.out bD; replace bE := pw_cell_below HB.out bE; replace bn := eq_true bn; replace bo := eq_true bo
            try go_wp2
            go_roundg k1
            case measure => have := HK1.out; omega
            case rel => exact ⟨(wrap64 ((wrap64 ((wrap64 ((wrap64 ((wrap64 ((wrap64 ((wrap64 (a4 + 1)) + 1)) + 1)) + 1)) + 1)) + 1)) + 1)), (wrap64 (a2 + 1)), Ye1, Ye1, H', ⟨by have := HK1.out; omega⟩, ⟨be HB.out⟩⟩
          ·rw [if_neg bm] at H
           have bY : (((rd_T125 l0 a2).f2.f1).toList == aD.toList) = false := beq_eq_false_iff_ne.mpr bm; have bZ : (((rd_T125 l0 a2).f2.f1).toList != aD.toList) = true := bne_iff_ne.mpr bm; obtain rfl := Option.some.inj H
           try go_wp2
           refine Ya1 (below_drew1 HB.out) ?_; clear HB; intro HB; have ad : 0 ≤ (a2 : Int) := oda; have ae : a2 < (l0.length : Int) := oda; obtain ⟨a3, aE, a5, a6, a7, a8, a9, aa, ab⟩ := at_T125 ac.out a2 ad ae; have hw973_6 := ab; have hw973_5 := aa; have hw973_4 := a9; have hw973_3 := a8; have hw973_2 := a7; have hw973_1 := a6; have hw973_0 := a5
           cases aE
           replace a5 := pw_cell_below HB.out a5; replace a6 := pw_cell_below HB.out a6; replace a7 := pw_cell_below HB.out a7; replace a8 := pw_cell_below HB.out a8; replace a9 := pw_cell_below HB.out a9; replace aa := pw_cell_below HB.out aa; replace ab := pw_cell_below HB.out ab; replace ad := eq_true ad; replace ae := eq_true ae; refine start_ (n := 8) (S := fun w' => w'.cell? (a3.add ((a2).toNat * 7)) = some (.string ((rd_T125 l0 a2).f0)) ∧ w'.cell? ⟨(a3.add ((a2).toNat * 7)).block, (a3.add ((a2).toNat * 7)).off + 1, none⟩ = some (.bool ((rd_T125 l0 a2).f1.f0)) ∧ w'.cell? ⟨(a3.add ((a2).toNat * 7)).block, (a3.add ((a2).toNat * 7)).off + 2, none⟩ = some (.string ((rd_T125 l0 a2).f1.f1)) ∧ w'.cell? ⟨(a3.add ((a2).toNat * 7)).block, (a3.add ((a2).toNat * 7)).off + 3, none⟩ = some (.bool ((rd_T125 l0 a2).f1.f2)) ∧ w'.cell? ⟨(a3.add ((a2).toNat * 7)).block, (a3.add ((a2).toNat * 7)).off + 4, none⟩ = some (.bool ((rd_T125 l0 a2).f2.f0)) ∧ w'.cell? ⟨(a3.add ((a2).toNat * 7)).block, (a3.add ((a2).toNat * 7)).off + 5, none⟩ = some (.string ((rd_T125 l0 a2).f2.f1)) ∧ w'.cell? ⟨(a3.add ((a2).toNat * 7)).block, (a3.add ((a2).toNat * 7)).off + 6, none⟩ = some (.bool ((rd_T125 l0 a2).f2.f2))) (ds := []) (fb 8 0) (by kernel_rfl) rfl rfl ⟨(pw_cell_below HB.out hw973_0), (pw_cell_below HB.out hw973_1), (pw_cell_below HB.out hw973_2), (pw_cell_below HB.out hw973_3), (pw_cell_below HB.out hw973_4), (pw_cell_below HB.out hw973_5), (pw_cell_below HB.out hw973_6)⟩ (fun hHeld => ?_); refine with_tabW laws_heldChangeS.tab4 laws_heldChangeS.bits4 (fun HT_ HW_ => ?_); generalize wr.drew = w37 at HB a5 a6 a7 a8 a9 aa ab hHeld ⊢; refine pu 0 12 (fb 8 1) HT_ ?_; refine pu 1 13 (fb 8 3) HT_ ?_; refine pu 2 14 (fb 8 7) HT_ ?_; refine pu 3 15 (fb 8 15) HT_ ?_; refine pu 5 17 (fb 8 47) HT_ ?_; refine tk 4 16 (fb 8 63) HT_ HW_ hHeld ?_; refine o1 6 (some 18) (fb 8 127) HT_ (fun K hK => ?_); refine gs _ (#[.int .i64 a4]) Tryd.func144 ?_; (with_reducible refine (laws_markText.calls k1 a4 aB _ A5.out).mono ?_); rintro e w38 ⟨rfl, hb⟩; refine ⟨_, rfl, ?_⟩; refine Ya1 (below_step (be HB.out) hb) ?_; clear HB; intro HB; (try clear hb); (try clear hb2); (try clear hk); (try clear hi); refine hK.out _ _ ⟨(pw_cell_below HB.out hw973_0), (pw_cell_below HB.out hw973_1), (pw_cell_below HB.out hw973_2), (pw_cell_below HB.out hw973_3), (pw_cell_below HB.out hw973_4), (pw_cell_below HB.out hw973_5), (pw_cell_below HB.out hw973_6)⟩ (fun hHeld => ?_); clear hK K; refine nm 18 ?_; refine pu 7 19 (fb 8 255) HT_ ?_; refine done_ (done_of HT_.out (by kernel_rfl)) ?_; have am : 0 ≤ (a2 : Int) := oda; have an : a2 < (l0.length : Int) := oda; obtain ⟨aV, aW, aq, ar, au, av, aw, ax, ay⟩ := at_T125 ac.out a2 am an
           obtain rfl : a3 = aV := (by injection aW)
           replace aq := pw_cell_below HB.out aq; replace ar := pw_cell_below HB.out ar; replace au := pw_cell_below HB.out au; replace av := pw_cell_below HB.out av; replace aw := pw_cell_below HB.out aw; replace ax := pw_cell_below HB.out ax; replace ay := pw_cell_below HB.out ay; replace am := eq_true am; replace an := eq_true an
           try go_wp2
           refine Ya1 (below_drew1 HB.out) ?_; clear HB; intro HB; have ao : 0 ≤ (a2 : Int) := oda; have ap : a2 < (l0.length : Int) := oda; obtain ⟨aY, aZ, af, ag, ah, ai, aj, ak, al⟩ := at_T125 ac.out a2 ao ap; have hw976_6 := al; have hw976_5 := ak; have hw976_4 := aj; have hw976_3 := ai; have hw976_2 := ah; have hw976_1 := ag; have hw976_0 := af
           obtain rfl : a3 = aY := (by injection aZ)
           replace af := pw_cell_below HB.out af; replace ag := pw_cell_below HB.out ag; replace ah := pw_cell_below HB.out ah; replace ai := pw_cell_below HB.out ai; replace aj := pw_cell_below HB.out aj; replace ak := pw_cell_below HB.out ak; replace al := pw_cell_below HB.out al; replace ao := eq_true ao; replace ap := eq_true ap; refine start_ (n := 9) (S := fun w' => w'.cell? (a3.add ((a2).toNat * 7)) = some (.string ((rd_T125 l0 a2).f0)) ∧ w'.cell? ⟨(a3.add ((a2).toNat * 7)).block, (a3.add ((a2).toNat * 7)).off + 1, none⟩ = some (.bool ((rd_T125 l0 a2).f1.f0)) ∧ w'.cell? ⟨(a3.add ((a2).toNat * 7)).block, (a3.add ((a2).toNat * 7)).off + 2, none⟩ = some (.string ((rd_T125 l0 a2).f1.f1)) ∧ w'.cell? ⟨(a3.add ((a2).toNat * 7)).block, (a3.add ((a2).toNat * 7)).off + 3, none⟩ = some (.bool ((rd_T125 l0 a2).f1.f2)) ∧ w'.cell? ⟨(a3.add ((a2).toNat * 7)).block, (a3.add ((a2).toNat * 7)).off + 4, none⟩ = some (.bool ((rd_T125 l0 a2).f2.f0)) ∧ w'.cell? ⟨(a3.add ((a2).toNat * 7)).block, (a3.add ((a2).toNat * 7)).off + 5, none⟩ = some (.string ((rd_T125 l0 a2).f2.f1)) ∧ w'.cell? ⟨(a3.add ((a2).toNat * 7)).block, (a3.add ((a2).toNat * 7)).off + 6, none⟩ = some (.bool ((rd_T125 l0 a2).f2.f2))) (ds := []) (fb 9 0) (by kernel_rfl) rfl rfl ⟨(pw_cell_below HB.out hw976_0), (pw_cell_below HB.out hw976_1), (pw_cell_below HB.out hw976_2), (pw_cell_below HB.out hw976_3), (pw_cell_below HB.out hw976_4), (pw_cell_below HB.out hw976_5), (pw_cell_below HB.out hw976_6)⟩ (fun hHeld => ?_); refine with_tabW laws_heldChangeS.tab10 laws_heldChangeS.bits10 (fun HT_ HW_ => ?_); generalize w38.drew = w39 at HB af ag ah ai aj ak al hHeld ⊢; refine pu 0 34 (fb 9 1) HT_ ?_; refine pu 1 35 (fb 9 3) HT_ ?_; refine pu 2 36 (fb 9 7) HT_ ?_; refine pu 3 37 (fb 9 15) HT_ ?_; refine pu 4 38 (fb 9 31) HT_ ?_; refine pu 6 40 (fb 9 95) HT_ ?_; refine tk 5 39 (fb 9 127) HT_ HW_ hHeld ?_; refine o1 7 (some 41) (fb 9 255) HT_ (fun K hK => ?_); refine gs _ (#[.int .i64 (wrap64 ((wrap64 (a4 + 1)) + 1))]) Tryd.func144 ?_; (with_reducible refine (laws_markText.calls k1 (wrap64 ((wrap64 (a4 + 1)) + 1)) aC _ bq.out).mono ?_); rintro e w40 ⟨rfl, hb⟩; refine ⟨_, rfl, ?_⟩; refine Ya1 (below_step (be HB.out) hb) ?_; clear HB; intro HB; (try clear hb); (try clear hb2); (try clear hk); (try clear hi); refine hK.out _ _ ⟨(pw_cell_below HB.out hw976_0), (pw_cell_below HB.out hw976_1), (pw_cell_below HB.out hw976_2), (pw_cell_below HB.out hw976_3), (pw_cell_below HB.out hw976_4), (pw_cell_below HB.out hw976_5), (pw_cell_below HB.out hw976_6)⟩ (fun hHeld => ?_); clear hK K; refine nm 41 ?_; refine pu 8 42 (fb 9 511) HT_ ?_; refine done_ (done_of HT_.out (by kernel_rfl)) ?_; have az : 0 ≤ (a2 : Int) := oda; have aA : a2 < (l0.length : Int) := oda; obtain ⟨bd, bg, aH, aI, aJ, aK, aL, aM, aN⟩ := at_T125 ac.out a2 az aA
           obtain rfl : a3 = bd := (by injection bg)
           replace aH := pw_cell_below HB.out aH; replace aI := pw_cell_below HB.out aI; replace aJ := pw_cell_below HB.out aJ; replace aK := pw_cell_below HB.out aK; replace aL := pw_cell_below HB.out aL; replace aM := pw_cell_below HB.out aM; replace aN := pw_cell_below HB.out aN; replace az := eq_true az; replace aA := eq_true aA; have aF : 0 ≤ (a2 : Int) := oda; have aG : a2 < (l0.length : Int) := oda; obtain ⟨bi, bj, b1, b2, b3, b4, b5, b6, b7⟩ := at_T125 ac.out a2 aF aG
           obtain rfl : a3 = bi := (by injection bj)
           replace b1 := pw_cell_below HB.out b1; replace b2 := pw_cell_below HB.out b2; replace b3 := pw_cell_below HB.out b3; replace b4 := pw_cell_below HB.out b4; replace b5 := pw_cell_below HB.out b5; replace b6 := pw_cell_below HB.out b6; replace b7 := pw_cell_below HB.out b7; replace aF := eq_true aF; replace aG := eq_true aG
           try go_wp2
           refine Ya1 (below_drew1 HB.out) ?_; clear HB; intro HB; have b9 : 0 ≤ (a2 : Int) := oda; have ba : a2 < (l0.length : Int) := oda; obtain ⟨bu, bv, aO, aP, aQ, aR, aS, aT, aU⟩ := at_T125 ac.out a2 b9 ba; have hw980_6 := aU; have hw980_5 := aT; have hw980_4 := aS; have hw980_3 := aR; have hw980_2 := aQ; have hw980_1 := aP; have hw980_0 := aO
           obtain rfl : a3 = bu := (by injection bv)
           replace aO := pw_cell_below HB.out aO; replace aP := pw_cell_below HB.out aP; replace aQ := pw_cell_below HB.out aQ; replace aR := pw_cell_below HB.out aR; replace aS := pw_cell_below HB.out aS; replace aT := pw_cell_below HB.out aT; replace aU := pw_cell_below HB.out aU; replace b9 := eq_true b9; replace ba := eq_true ba; refine start_ (n := 9) (S := fun w' => w'.cell? (a3.add ((a2).toNat * 7)) = some (.string ((rd_T125 l0 a2).f0)) ∧ w'.cell? ⟨(a3.add ((a2).toNat * 7)).block, (a3.add ((a2).toNat * 7)).off + 1, none⟩ = some (.bool ((rd_T125 l0 a2).f1.f0)) ∧ w'.cell? ⟨(a3.add ((a2).toNat * 7)).block, (a3.add ((a2).toNat * 7)).off + 2, none⟩ = some (.string ((rd_T125 l0 a2).f1.f1)) ∧ w'.cell? ⟨(a3.add ((a2).toNat * 7)).block, (a3.add ((a2).toNat * 7)).off + 3, none⟩ = some (.bool ((rd_T125 l0 a2).f1.f2)) ∧ w'.cell? ⟨(a3.add ((a2).toNat * 7)).block, (a3.add ((a2).toNat * 7)).off + 4, none⟩ = some (.bool ((rd_T125 l0 a2).f2.f0)) ∧ w'.cell? ⟨(a3.add ((a2).toNat * 7)).block, (a3.add ((a2).toNat * 7)).off + 5, none⟩ = some (.string ((rd_T125 l0 a2).f2.f1)) ∧ w'.cell? ⟨(a3.add ((a2).toNat * 7)).block, (a3.add ((a2).toNat * 7)).off + 6, none⟩ = some (.bool ((rd_T125 l0 a2).f2.f2))) (ds := []) (fb 9 0) (by kernel_rfl) rfl rfl ⟨(pw_cell_below HB.out hw980_0), (pw_cell_below HB.out hw980_1), (pw_cell_below HB.out hw980_2), (pw_cell_below HB.out hw980_3), (pw_cell_below HB.out hw980_4), (pw_cell_below HB.out hw980_5), (pw_cell_below HB.out hw980_6)⟩ (fun hHeld => ?_); refine with_tabW laws_heldChangeS.tab19 laws_heldChangeS.bits19 (fun HT_ HW_ => ?_); generalize w40.drew = w41 at HB aO aP aQ aR aS aT aU hHeld ⊢; refine pu 0 69 (fb 9 1) HT_ ?_; refine pu 1 70 (fb 9 3) HT_ ?_; refine pu 2 71 (fb 9 7) HT_ ?_; refine pu 3 72 (fb 9 15) HT_ ?_; refine pu 4 73 (fb 9 31) HT_ ?_; refine pu 6 75 (fb 9 95) HT_ ?_; refine tk 5 74 (fb 9 127) HT_ HW_ hHeld ?_; refine o1 7 (some 76) (fb 9 255) HT_ (fun K hK => ?_); refine gs _ (#[.int .i64 (wrap64 ((wrap64 ((wrap64 ((wrap64 ((wrap64 (a4 + 1)) + 1)) + 1)) + 1)) + 1))]) Tryd.func144 ?_; (with_reducible refine (laws_markText.calls k1 (wrap64 ((wrap64 ((wrap64 ((wrap64 ((wrap64 (a4 + 1)) + 1)) + 1)) + 1)) + 1)) aD _ bF.out).mono ?_); rintro e w42 ⟨rfl, hb⟩; refine ⟨_, rfl, ?_⟩; refine Ya1 (below_step (be HB.out) hb) ?_; clear HB; intro HB; (try clear hb); (try clear hb2); (try clear hk); (try clear hi); refine hK.out _ _ ⟨(pw_cell_below HB.out hw980_0), (pw_cell_below HB.out hw980_1), (pw_cell_below HB.out hw980_2), (pw_cell_below HB.out hw980_3), (pw_cell_below HB.out hw980_4), (pw_cell_below HB.out hw980_5), (pw_cell_below HB.out hw980_6)⟩ (fun hHeld => ?_); clear hK K; refine nm 76 ?_; refine pu 8 77 (fb 9 511) HT_ ?_; refine done_ (done_of HT_.out (by kernel_rfl)) ?_
           try go_wp2
           go_ret
           exact ⟨Ye2, be HB.out⟩
       ·rw [if_neg bh] at H
        have bQ : (((rd_T125 l0 a2).f1.f1).toList == aC.toList) = false := beq_eq_false_iff_ne.mpr bh; have bR : (((rd_T125 l0 a2).f1.f1).toList != aC.toList) = true := bne_iff_ne.mpr bh; obtain rfl := Option.some.inj H
        try go_wp2
        refine Ya1 (below_drew1 HB.out) ?_; clear HB; intro HB; have ad : 0 ≤ (a2 : Int) := oda; have ae : a2 < (l0.length : Int) := oda; obtain ⟨a3, aE, a5, a6, a7, a8, a9, aa, ab⟩ := at_T125 ac.out a2 ad ae; have hw973_6 := ab; have hw973_5 := aa; have hw973_4 := a9; have hw973_3 := a8; have hw973_2 := a7; have hw973_1 := a6; have hw973_0 := a5
        cases aE
        replace a5 := pw_cell_below HB.out a5; replace a6 := pw_cell_below HB.out a6; replace a7 := pw_cell_below HB.out a7; replace a8 := pw_cell_below HB.out a8; replace a9 := pw_cell_below HB.out a9; replace aa := pw_cell_below HB.out aa; replace ab := pw_cell_below HB.out ab; replace ad := eq_true ad; replace ae := eq_true ae; refine start_ (n := 8) (S := fun w' => w'.cell? (a3.add ((a2).toNat * 7)) = some (.string ((rd_T125 l0 a2).f0)) ∧ w'.cell? ⟨(a3.add ((a2).toNat * 7)).block, (a3.add ((a2).toNat * 7)).off + 1, none⟩ = some (.bool ((rd_T125 l0 a2).f1.f0)) ∧ w'.cell? ⟨(a3.add ((a2).toNat * 7)).block, (a3.add ((a2).toNat * 7)).off + 2, none⟩ = some (.string ((rd_T125 l0 a2).f1.f1)) ∧ w'.cell? ⟨(a3.add ((a2).toNat * 7)).block, (a3.add ((a2).toNat * 7)).off + 3, none⟩ = some (.bool ((rd_T125 l0 a2).f1.f2)) ∧ w'.cell? ⟨(a3.add ((a2).toNat * 7)).block, (a3.add ((a2).toNat * 7)).off + 4, none⟩ = some (.bool ((rd_T125 l0 a2).f2.f0)) ∧ w'.cell? ⟨(a3.add ((a2).toNat * 7)).block, (a3.add ((a2).toNat * 7)).off + 5, none⟩ = some (.string ((rd_T125 l0 a2).f2.f1)) ∧ w'.cell? ⟨(a3.add ((a2).toNat * 7)).block, (a3.add ((a2).toNat * 7)).off + 6, none⟩ = some (.bool ((rd_T125 l0 a2).f2.f2))) (ds := []) (fb 8 0) (by kernel_rfl) rfl rfl ⟨(pw_cell_below HB.out hw973_0), (pw_cell_below HB.out hw973_1), (pw_cell_below HB.out hw973_2), (pw_cell_below HB.out hw973_3), (pw_cell_below HB.out hw973_4), (pw_cell_below HB.out hw973_5), (pw_cell_below HB.out hw973_6)⟩ (fun hHeld => ?_); refine with_tabW laws_heldChangeS.tab4 laws_heldChangeS.bits4 (fun HT_ HW_ => ?_); generalize wr.drew = w43 at HB a5 a6 a7 a8 a9 aa ab hHeld ⊢; refine pu 0 12 (fb 8 1) HT_ ?_; refine pu 1 13 (fb 8 3) HT_ ?_; refine pu 2 14 (fb 8 7) HT_ ?_; refine pu 3 15 (fb 8 15) HT_ ?_; refine pu 5 17 (fb 8 47) HT_ ?_; refine tk 4 16 (fb 8 63) HT_ HW_ hHeld ?_; refine o1 6 (some 18) (fb 8 127) HT_ (fun K hK => ?_); refine gs _ (#[.int .i64 a4]) Tryd.func144 ?_; (with_reducible refine (laws_markText.calls k1 a4 aB _ A5.out).mono ?_); rintro e w44 ⟨rfl, hb⟩; refine ⟨_, rfl, ?_⟩; refine Ya1 (below_step (be HB.out) hb) ?_; clear HB; intro HB; (try clear hb); (try clear hb2); (try clear hk); (try clear hi); refine hK.out _ _ ⟨(pw_cell_below HB.out hw973_0), (pw_cell_below HB.out hw973_1), (pw_cell_below HB.out hw973_2), (pw_cell_below HB.out hw973_3), (pw_cell_below HB.out hw973_4), (pw_cell_below HB.out hw973_5), (pw_cell_below HB.out hw973_6)⟩ (fun hHeld => ?_); clear hK K; refine nm 18 ?_; refine pu 7 19 (fb 8 255) HT_ ?_; refine done_ (done_of HT_.out (by kernel_rfl)) ?_; have am : 0 ≤ (a2 : Int) := oda; have an : a2 < (l0.length : Int) := oda; obtain ⟨aV, aW, aq, ar, au, av, aw, ax, ay⟩ := at_T125 ac.out a2 am an
        obtain rfl : a3 = aV := (by injection aW)
        replace aq := pw_cell_below HB.out aq; replace ar := pw_cell_below HB.out ar; replace au := pw_cell_below HB.out au; replace av := pw_cell_below HB.out av; replace aw := pw_cell_below HB.out aw; replace ax := pw_cell_below HB.out ax; replace ay := pw_cell_below HB.out ay; replace am := eq_true am; replace an := eq_true an
        try go_wp2
        refine Ya1 (below_drew1 HB.out) ?_; clear HB; intro HB; have ao : 0 ≤ (a2 : Int) := oda; have ap : a2 < (l0.length : Int) := oda; obtain ⟨aY, aZ, af, ag, ah, ai, aj, ak, al⟩ := at_T125 ac.out a2 ao ap; have hw976_6 := al; have hw976_5 := ak; have hw976_4 := aj; have hw976_3 := ai; have hw976_2 := ah; have hw976_1 := ag; have hw976_0 := af
        obtain rfl : a3 = aY := (by injection aZ)
        replace af := pw_cell_below HB.out af; replace ag := pw_cell_below HB.out ag; replace ah := pw_cell_below HB.out ah; replace ai := pw_cell_below HB.out ai; replace aj := pw_cell_below HB.out aj; replace ak := pw_cell_below HB.out ak; replace al := pw_cell_below HB.out al; replace ao := eq_true ao; replace ap := eq_true ap; refine start_ (n := 9) (S := fun w' => w'.cell? (a3.add ((a2).toNat * 7)) = some (.string ((rd_T125 l0 a2).f0)) ∧ w'.cell? ⟨(a3.add ((a2).toNat * 7)).block, (a3.add ((a2).toNat * 7)).off + 1, none⟩ = some (.bool ((rd_T125 l0 a2).f1.f0)) ∧ w'.cell? ⟨(a3.add ((a2).toNat * 7)).block, (a3.add ((a2).toNat * 7)).off + 2, none⟩ = some (.string ((rd_T125 l0 a2).f1.f1)) ∧ w'.cell? ⟨(a3.add ((a2).toNat * 7)).block, (a3.add ((a2).toNat * 7)).off + 3, none⟩ = some (.bool ((rd_T125 l0 a2).f1.f2)) ∧ w'.cell? ⟨(a3.add ((a2).toNat * 7)).block, (a3.add ((a2).toNat * 7)).off + 4, none⟩ = some (.bool ((rd_T125 l0 a2).f2.f0)) ∧ w'.cell? ⟨(a3.add ((a2).toNat * 7)).block, (a3.add ((a2).toNat * 7)).off + 5, none⟩ = some (.string ((rd_T125 l0 a2).f2.f1)) ∧ w'.cell? ⟨(a3.add ((a2).toNat * 7)).block, (a3.add ((a2).toNat * 7)).off + 6, none⟩ = some (.bool ((rd_T125 l0 a2).f2.f2))) (ds := []) (fb 9 0) (by kernel_rfl) rfl rfl ⟨(pw_cell_below HB.out hw976_0), (pw_cell_below HB.out hw976_1), (pw_cell_below HB.out hw976_2), (pw_cell_below HB.out hw976_3), (pw_cell_below HB.out hw976_4), (pw_cell_below HB.out hw976_5), (pw_cell_below HB.out hw976_6)⟩ (fun hHeld => ?_); refine with_tabW laws_heldChangeS.tab10 laws_heldChangeS.bits10 (fun HT_ HW_ => ?_); generalize w44.drew = w45 at HB af ag ah ai aj ak al hHeld ⊢; refine pu 0 34 (fb 9 1) HT_ ?_; refine pu 1 35 (fb 9 3) HT_ ?_; refine pu 2 36 (fb 9 7) HT_ ?_; refine pu 3 37 (fb 9 15) HT_ ?_; refine pu 4 38 (fb 9 31) HT_ ?_; refine pu 6 40 (fb 9 95) HT_ ?_; refine tk 5 39 (fb 9 127) HT_ HW_ hHeld ?_; refine o1 7 (some 41) (fb 9 255) HT_ (fun K hK => ?_); refine gs _ (#[.int .i64 (wrap64 ((wrap64 (a4 + 1)) + 1))]) Tryd.func144 ?_; (with_reducible refine (laws_markText.calls k1 (wrap64 ((wrap64 (a4 + 1)) + 1)) aC _ bq.out).mono ?_); rintro e w46 ⟨rfl, hb⟩; refine ⟨_, rfl, ?_⟩; refine Ya1 (below_step (be HB.out) hb) ?_; clear HB; intro HB; (try clear hb); (try clear hb2); (try clear hk); (try clear hi); refine hK.out _ _ ⟨(pw_cell_below HB.out hw976_0), (pw_cell_below HB.out hw976_1), (pw_cell_below HB.out hw976_2), (pw_cell_below HB.out hw976_3), (pw_cell_below HB.out hw976_4), (pw_cell_below HB.out hw976_5), (pw_cell_below HB.out hw976_6)⟩ (fun hHeld => ?_); clear hK K; refine nm 41 ?_; refine pu 8 42 (fb 9 511) HT_ ?_; refine done_ (done_of HT_.out (by kernel_rfl)) ?_
        try go_wp2
        go_ret
        exact ⟨Ye2, be HB.out⟩
     ·rw [if_neg c6] at H
      have bL : (((rd_T125 l0 a2).f0).toList == aB.toList) = false := beq_eq_false_iff_ne.mpr c6; have bM : (((rd_T125 l0 a2).f0).toList != aB.toList) = true := bne_iff_ne.mpr c6; obtain rfl := Option.some.inj H
      try go_wp2
      refine Ya1 (below_drew1 HB.out) ?_; clear HB; intro HB; have ad : 0 ≤ (a2 : Int) := oda; have ae : a2 < (l0.length : Int) := oda; obtain ⟨a3, aE, a5, a6, a7, a8, a9, aa, ab⟩ := at_T125 ac.out a2 ad ae; have hw973_6 := ab; have hw973_5 := aa; have hw973_4 := a9; have hw973_3 := a8; have hw973_2 := a7; have hw973_1 := a6; have hw973_0 := a5
      cases aE
      replace a5 := pw_cell_below HB.out a5; replace a6 := pw_cell_below HB.out a6; replace a7 := pw_cell_below HB.out a7; replace a8 := pw_cell_below HB.out a8; replace a9 := pw_cell_below HB.out a9; replace aa := pw_cell_below HB.out aa; replace ab := pw_cell_below HB.out ab; replace ad := eq_true ad; replace ae := eq_true ae; refine start_ (n := 8) (S := fun w' => w'.cell? (a3.add ((a2).toNat * 7)) = some (.string ((rd_T125 l0 a2).f0)) ∧ w'.cell? ⟨(a3.add ((a2).toNat * 7)).block, (a3.add ((a2).toNat * 7)).off + 1, none⟩ = some (.bool ((rd_T125 l0 a2).f1.f0)) ∧ w'.cell? ⟨(a3.add ((a2).toNat * 7)).block, (a3.add ((a2).toNat * 7)).off + 2, none⟩ = some (.string ((rd_T125 l0 a2).f1.f1)) ∧ w'.cell? ⟨(a3.add ((a2).toNat * 7)).block, (a3.add ((a2).toNat * 7)).off + 3, none⟩ = some (.bool ((rd_T125 l0 a2).f1.f2)) ∧ w'.cell? ⟨(a3.add ((a2).toNat * 7)).block, (a3.add ((a2).toNat * 7)).off + 4, none⟩ = some (.bool ((rd_T125 l0 a2).f2.f0)) ∧ w'.cell? ⟨(a3.add ((a2).toNat * 7)).block, (a3.add ((a2).toNat * 7)).off + 5, none⟩ = some (.string ((rd_T125 l0 a2).f2.f1)) ∧ w'.cell? ⟨(a3.add ((a2).toNat * 7)).block, (a3.add ((a2).toNat * 7)).off + 6, none⟩ = some (.bool ((rd_T125 l0 a2).f2.f2))) (ds := []) (fb 8 0) (by kernel_rfl) rfl rfl ⟨(pw_cell_below HB.out hw973_0), (pw_cell_below HB.out hw973_1), (pw_cell_below HB.out hw973_2), (pw_cell_below HB.out hw973_3), (pw_cell_below HB.out hw973_4), (pw_cell_below HB.out hw973_5), (pw_cell_below HB.out hw973_6)⟩ (fun hHeld => ?_); refine with_tabW laws_heldChangeS.tab4 laws_heldChangeS.bits4 (fun HT_ HW_ => ?_); generalize wr.drew = w47 at HB a5 a6 a7 a8 a9 aa ab hHeld ⊢; refine pu 0 12 (fb 8 1) HT_ ?_; refine pu 1 13 (fb 8 3) HT_ ?_; refine pu 2 14 (fb 8 7) HT_ ?_; refine pu 3 15 (fb 8 15) HT_ ?_; refine pu 5 17 (fb 8 47) HT_ ?_; refine tk 4 16 (fb 8 63) HT_ HW_ hHeld ?_; refine o1 6 (some 18) (fb 8 127) HT_ (fun K hK => ?_); refine gs _ (#[.int .i64 a4]) Tryd.func144 ?_; (with_reducible refine (laws_markText.calls k1 a4 aB _ A5.out).mono ?_); rintro e w48 ⟨rfl, hb⟩; refine ⟨_, rfl, ?_⟩; refine Ya1 (below_step (be HB.out) hb) ?_; clear HB; intro HB; (try clear hb); (try clear hb2); (try clear hk); (try clear hi); refine hK.out _ _ ⟨(pw_cell_below HB.out hw973_0), (pw_cell_below HB.out hw973_1), (pw_cell_below HB.out hw973_2), (pw_cell_below HB.out hw973_3), (pw_cell_below HB.out hw973_4), (pw_cell_below HB.out hw973_5), (pw_cell_below HB.out hw973_6)⟩ (fun hHeld => ?_); clear hK K; refine nm 18 ?_; refine pu 7 19 (fb 8 255) HT_ ?_; refine done_ (done_of HT_.out (by kernel_rfl)) ?_
      try go_wp2
      go_ret
      exact ⟨Ye2, be HB.out⟩
    ·rw [if_neg c4] at H
     exact absurd H (by simp)
   ·rw [if_neg c3] at H
    have bK : decide (a2 < (l0.length : Int)) = false := decide_eq_false c3; clear c3; obtain rfl := Option.some.inj H
    go_wp2
    go_ret
    exact ⟨Ye2, be HB.out⟩

end Go.Proofs.YtgnmledjkamojaaDoor.P


namespace Go.Proofs.YtgnmledjkamojaaDoor.P
open Go.RowKit Go.Proofs.YtgnmledjkamojaaDoorW.PrintWords Go.Proofs.YtgnmledjkamojaaDoorW.PrintLast Go.Proofs.YtgnmledjkamojaaDoorW.PrintMore
attribute [local go_sem] max2_int min2_int max_two min_two max_three min_three max_four min_four
set_option linter.unusedVariables false
set_option linter.unusedSimpArgs false

/-! ### laws_heldPatch: function 39 -/
def laws_heldPatch.f (k : Nat) (a2 : List (S125)) (a1 : Int) : Option (Int) := (laws_heldChangeS.f k a2 a1).bind fun a3 => (if a3 < 0 then (some (-1)) else (some a3))
theorem laws_heldPatch.mono : ∀ a0 a1 k, LeO (laws_heldPatch.f k a0 a1) (laws_heldPatch.f (k + 1) a0 a1) := by
 intro a0 a1 k
 unfold laws_heldPatch.f
 repeat' first
   | (with_reducible exact laws_heldChangeS.mono _ _ _)
   | (with_reducible exact LeO.refl _)
   | (with_reducible exact LeO.none _)
   | (with_reducible refine LeO.ite ?_ ?_)
   | (with_reducible refine LeO.bind ?_ (fun _ => ?_))
   | exact laws_heldChangeS.mono _ _ _
   | exact LeO.none _
   | refine LeO.ite ?_ ?_
   | refine LeO.bind ?_ (fun _ => ?_)
set_option maxHeartbeats 8000000 in
set_option maxRecDepth 100000 in
theorem laws_heldPatch.calls (k : Nat) (a5 : Option Addr) (a6 : Nat) (a2 : List (S125)) (a1 : Int) (r : Int) (w : World) (a7 : Kd.C k125 w a5 a2.length a2) (a8 : a2.length ≤ a6) (h : laws_heldPatch.f k a2 a1 = some r) :
  Calls Tryd.prog 39 #[.agg #[.slice a5 a2.length a6], .int .i64 a1] w fun e w' => e = .returned (.int .i64 r) ∧ Below w.heap.size w w' := by
 have hu56 := Tryd.underlying56; have a9 := Aside0.mk a7; have aa := Aside0.mk a8; clear a7 a8; have HB := Aside0.mk (Below.refl w.heap.size w); have H : ((laws_heldChangeS.f k a2 a1).bind fun a3 => (if a3 < 0 then (some (-1)) else (some a3))) = some r := h; clear h; replace H := Option.bind_eq_some_iff.mp H; obtain ⟨a3, A30, H⟩ := H; replace H : (if a3 < 0 then (some (-1)) else (some a3)) = some r := H; have A3 := Aside0.mk A30; clear A30
 by_cases c4 : a3 < 0
 ·rw [if_pos c4] at H
  have ab : decide (a3 < 0) = true := decide_eq_true c4; clear c4; obtain rfl := Option.some.inj H
  go_enter Tryd.func39, Tryd.ntmps39
  go_wp2_with (first | ((with_reducible refine gd 2 rfl ?_); refine bx 2 56 (#[.slice a5 a2.length a6]) ?_; intro ac hg w5 hbox hb; refine Ya4 (below_step (be HB.out) hb) (hbox) (bs hg (be HB.out)) (bs hg (be HB.out)) ?_; clear HB; intro HB a4 ad ae; clear hb hbox hg; have ⟨af, ag⟩ := Yc1 a4.out) | ((with_reducible refine gc 102 rfl ?_); refine gl (some 8) _ (#[.slice a5 a2.length a6, .int .i64 a1]) Tryd.func102 ?_; (with_reducible refine (laws_heldChangeS.calls k _ _ a2 a1 a3 _ ?side1 ?side2 A3.out).mono ?_); (case side1 => exact cb (Kd.C_below a9.out HB.out)); (case side2 => exact aa.out); rintro e w7 ⟨rfl, hb⟩; refine ⟨_, rfl, ?_⟩; refine Ya2 (bb a4 hb) (below_step (bf HB.out) hb) ?_; clear a4 HB; intro a4 HB; (try clear hb); (try clear hb2); (try clear hk); (try clear hi)))
  go_ret
  exact ⟨Ye2, (bf HB.out)⟩
 ·rw [if_neg c4] at H
  have ab : decide (a3 < 0) = false := decide_eq_false c4; clear c4; obtain rfl := Option.some.inj H
  go_enter Tryd.func39, Tryd.ntmps39
  go_wp2_with (first | ((with_reducible refine gd 2 rfl ?_); refine bx 2 56 (#[.slice a5 a2.length a6]) ?_; intro ac hg w8 hbox hb; refine Ya4 (below_step (be HB.out) hb) (hbox) (bs hg (be HB.out)) (bs hg (be HB.out)) ?_; clear HB; intro HB a4 ad ae; clear hb hbox hg; have ⟨ah, ai⟩ := Yc1 a4.out) | ((with_reducible refine gc 102 rfl ?_); refine gl (some 8) _ (#[.slice a5 a2.length a6, .int .i64 a1]) Tryd.func102 ?_; (with_reducible refine (laws_heldChangeS.calls k _ _ a2 a1 a3 _ ?side1 ?side2 A3.out).mono ?_); (case side1 => exact cb (Kd.C_below a9.out HB.out)); (case side2 => exact aa.out); rintro e w10 ⟨rfl, hb⟩; refine ⟨_, rfl, ?_⟩; refine Ya2 (bb a4 hb) (below_step (bf HB.out) hb) ?_; clear a4 HB; intro a4 HB; (try clear hb); (try clear hb2); (try clear hk); (try clear hi)))
  go_ret
  exact ⟨Ye2, (bf HB.out)⟩

end Go.Proofs.YtgnmledjkamojaaDoor.P


namespace Go.Proofs.YtgnmledjkamojaaDoor.P
open Go.RowKit Go.Proofs.YtgnmledjkamojaaDoorW.PrintWords Go.Proofs.YtgnmledjkamojaaDoorW.PrintLast Go.Proofs.YtgnmledjkamojaaDoorW.PrintMore
attribute [local go_sem] max2_int min2_int max_two min_two max_three min_three max_four min_four
set_option linter.unusedVariables false
set_option linter.unusedSimpArgs false

/-! ### laws_markChangeS: function 101 -/
def laws_markChangeS.l0 : Nat → List (S125) → Int → Int → Option (Int × (List (S125)))
 | 0, _, _, _ => none
 | k + 1, x0, x1, x5 => if x5 < (x0.length : Int) then ((laws_markText.f k x1).bind fun an => (if 0 ≤ x5 then ((some (x0.set (x5 : Int).toNat (⟨an, (⟨(rd_T125 x0 x5).f1.f0, (rd_T125 x0 x5).f1.f1, (rd_T125 x0 x5).f1.f2⟩ : S122), (⟨(rd_T125 x0 x5).f2.f0, (rd_T125 x0 x5).f2.f1, (rd_T125 x0 x5).f2.f2⟩ : S122)⟩ : S125) : List (S125))).bind fun ac => ((some (ac.set (x5 : Int).toNat (⟨(rd_T125 ac x5).f0, (⟨((Int.tmod (wrap64 (x1 + 1)) 3) == 0), (rd_T125 ac x5).f1.f1, (rd_T125 ac x5).f1.f2⟩ : S122), (⟨(rd_T125 ac x5).f2.f0, (rd_T125 ac x5).f2.f1, (rd_T125 ac x5).f2.f2⟩ : S122)⟩ : S125) : List (S125))).bind fun aa => ((laws_markText.f k (wrap64 ((wrap64 (x1 + 1)) + 1))).bind fun al => ((some (aa.set (x5 : Int).toNat (⟨(rd_T125 aa x5).f0, (⟨(rd_T125 aa x5).f1.f0, al, (rd_T125 aa x5).f1.f2⟩ : S122), (⟨(rd_T125 aa x5).f2.f0, (rd_T125 aa x5).f2.f1, (rd_T125 aa x5).f2.f2⟩ : S122)⟩ : S125) : List (S125))).bind fun a7 => ((some (a7.set (x5 : Int).toNat (⟨(rd_T125 a7 x5).f0, (⟨(rd_T125 a7 x5).f1.f0, (rd_T125 a7 x5).f1.f1, ((Int.tmod (wrap64 ((wrap64 ((wrap64 (x1 + 1)) + 1)) + 1)) 3) == 0)⟩ : S122), (⟨(rd_T125 a7 x5).f2.f0, (rd_T125 a7 x5).f2.f1, (rd_T125 a7 x5).f2.f2⟩ : S122)⟩ : S125) : List (S125))).bind fun a6 => ((some (a6.set (x5 : Int).toNat (⟨(rd_T125 a6 x5).f0, (⟨(rd_T125 a6 x5).f1.f0, (rd_T125 a6 x5).f1.f1, (rd_T125 a6 x5).f1.f2⟩ : S122), (⟨((Int.tmod (wrap64 ((wrap64 ((wrap64 ((wrap64 (x1 + 1)) + 1)) + 1)) + 1)) 3) == 0), (rd_T125 a6 x5).f2.f1, (rd_T125 a6 x5).f2.f2⟩ : S122)⟩ : S125) : List (S125))).bind fun a5 => ((laws_markText.f k (wrap64 ((wrap64 ((wrap64 ((wrap64 ((wrap64 (x1 + 1)) + 1)) + 1)) + 1)) + 1))).bind fun ad => ((some (a5.set (x5 : Int).toNat (⟨(rd_T125 a5 x5).f0, (⟨(rd_T125 a5 x5).f1.f0, (rd_T125 a5 x5).f1.f1, (rd_T125 a5 x5).f1.f2⟩ : S122), (⟨(rd_T125 a5 x5).f2.f0, ad, (rd_T125 a5 x5).f2.f2⟩ : S122)⟩ : S125) : List (S125))).bind fun a4 => (laws_markChangeS.l0 k (a4.set (x5 : Int).toNat (⟨(rd_T125 a4 x5).f0, (⟨(rd_T125 a4 x5).f1.f0, (rd_T125 a4 x5).f1.f1, (rd_T125 a4 x5).f1.f2⟩ : S122), (⟨(rd_T125 a4 x5).f2.f0, (rd_T125 a4 x5).f2.f1, ((Int.tmod (wrap64 ((wrap64 ((wrap64 ((wrap64 ((wrap64 ((wrap64 (x1 + 1)) + 1)) + 1)) + 1)) + 1)) + 1)) 3) == 0)⟩ : S122)⟩ : S125)) (wrap64 ((wrap64 ((wrap64 ((wrap64 ((wrap64 ((wrap64 ((wrap64 (x1 + 1)) + 1)) + 1)) + 1)) + 1)) + 1)) + 1)) (wrap64 (x5 + 1))))))))))) else (none))) else (some (x1, x0))
def laws_markChangeS.f (k : Nat) (l0 : List (S125)) (a1 : Int) : Option (Int × (List (S125))) := laws_markChangeS.l0 k l0 a1 0
theorem laws_markChangeS.mono_l : ∀ k, (∀ y0 y1 y2, LeO (laws_markChangeS.l0 k y0 y1 y2) (laws_markChangeS.l0 (k + 1) y0 y1 y2))
 | 0 => fun _ _ _ r h => by simp [laws_markChangeS.l0] at h
 | k + 1 => by
  have ih0 := laws_markChangeS.mono_l k
  ·intro y0 y1 y2
   unfold laws_markChangeS.l0
   repeat' first
   | (with_reducible exact ih0 _ _ _)
   | (with_reducible exact laws_markText.mono _ _)
   | (with_reducible exact LeO.refl _)
   | (with_reducible exact LeO.none _)
   | (with_reducible refine LeO.ite ?_ ?_)
   | (with_reducible refine LeO.bind ?_ (fun _ => ?_))
   | exact ih0 _ _ _
   | exact laws_markText.mono _ _
   | exact LeO.none _
   | refine LeO.ite ?_ ?_
   | refine LeO.bind ?_ (fun _ => ?_)
theorem laws_markChangeS.mono : ∀ a0 a1 k, LeO (laws_markChangeS.f k a0 a1) (laws_markChangeS.f (k + 1) a0 a1) := by
 intro a0 a1 k; have ih0 := laws_markChangeS.mono_l k
 unfold laws_markChangeS.f
 repeat' first
   | (with_reducible exact ih0 _ _ _)
   | (with_reducible exact laws_markText.mono _ _)
   | (with_reducible exact LeO.refl _)
   | (with_reducible exact LeO.none _)
   | (with_reducible refine LeO.ite ?_ ?_)
   | (with_reducible refine LeO.bind ?_ (fun _ => ?_))
   | exact ih0 _ _ _
   | exact laws_markText.mono _ _
   | exact LeO.none _
   | refine LeO.ite ?_ ?_
   | refine LeO.bind ?_ (fun _ => ?_)
set_option maxHeartbeats 8000000 in
set_option maxRecDepth 100000 in
theorem laws_markChangeS.calls (k : Nat) (P0_ : Nat → Prop) (u9000_ : Value) (l0 : List (S125)) (a1 : Int) (r1 : Int) (r2 : List (S125)) (w0 w : World) (hB : Below w0.heap.size w0 w) (ho0 : Kd.R k125 125 w w0.heap.size P0_ u9000_ l0) (h : laws_markChangeS.f k l0 a1 = some (r1, r2)) :
  Calls Tryd.prog 101 #[u9000_, .int .i64 a1] w fun e w' => e = .returned (.int .i64 r1) ∧ Kd.R k125 125 w' w0.heap.size (fun k_ => (P0_ k_ ∨ w.heap.size ≤ k_)) u9000_ r2 ∧ Below w0.heap.size w0 w' ∧ Kept w w' (fun k_ => P0_ k_) := by
 have HO0 := Aside0.mk (show Kd.R k125 125 w w0.heap.size (fun k_ => (P0_ k_ ∨ w.heap.size ≤ k_)) u9000_ l0 from Kd.R_mono ho0 (fun k_ hk => (.inl hk))); have HK := Aside0.mk (Kept.refl w (fun k_ => P0_ k_)); have HW0 := Aside0.mk hB.size; have HB := Aside0.mk hB; clear hB; have H : (laws_markChangeS.l0 k l0 a1 0) = some (r1, r2) := h; clear h; have H' := Aside0.mk H; clear H
 go_enter Tryd.func101, Tryd.ntmps101
 go_wp2
 go_loopg [1, 5] k (fun kq v1 v5 w' => ∃ (a8 : List (S125)) (a9 : Int) (a2 : Int), v1 = .int .i64 a9 ∧ v5 = .int .i64 a2 ∧ Aside0 (laws_markChangeS.l0 kq a8 a9 a2 = some (r1, r2)) ∧ Aside0 (kq ≤ k) ∧ Aside0 (Kd.R k125 125 w' w0.heap.size (fun k_ => (P0_ k_ ∨ w.heap.size ≤ k_)) u9000_ a8) ∧ Aside0 (Kept w w' (fun k_ => P0_ k_)) ∧ Aside0 (Below w0.heap.size w0 w'))
 case atStart => exact ⟨(l0), (a1), (0), Ye1, Ye1, H', ⟨Nat.le_refl _⟩, ⟨kr HO0.out⟩, ⟨by repeat (first | (with_reducible first | exact HK.out | apply Kept.alloc | apply Kept.drewN | apply Kept.drew) | exact HK.out)⟩, ⟨be HB.out⟩⟩
 case round =>
  clear H'; (try clear c1); (try clear p2); obtain ⟨a8, a9, a2, rfl, rfl, HA, HK1, ab, HK, HB⟩ := hrel
  cases gk with
  | zero => exact absurd HA.out (by simp [laws_markChangeS.l0])
  | succ k1 =>
   have H := HA.out; clear HA; simp only [laws_markChangeS.l0] at H
   by_cases c3 : a2 < (a8.length : Int)
   ·rw [if_pos c3] at H
    have aR : decide (a2 < (a8.length : Int)) = true := decide_eq_true c3; clear c3; replace H := Option.bind_eq_some_iff.mp H; obtain ⟨an, A40, H⟩ := H; replace H : (if 0 ≤ a2 then ((some (a8.set (a2 : Int).toNat (⟨an, (⟨(rd_T125 a8 a2).f1.f0, (rd_T125 a8 a2).f1.f1, (rd_T125 a8 a2).f1.f2⟩ : S122), (⟨(rd_T125 a8 a2).f2.f0, (rd_T125 a8 a2).f2.f1, (rd_T125 a8 a2).f2.f2⟩ : S122)⟩ : S125) : List (S125))).bind fun ac => ((some (ac.set (a2 : Int).toNat (⟨(rd_T125 ac a2).f0, (⟨((Int.tmod (wrap64 (a9 + 1)) 3) == 0), (rd_T125 ac a2).f1.f1, (rd_T125 ac a2).f1.f2⟩ : S122), (⟨(rd_T125 ac a2).f2.f0, (rd_T125 ac a2).f2.f1, (rd_T125 ac a2).f2.f2⟩ : S122)⟩ : S125) : List (S125))).bind fun aa => ((laws_markText.f k1 (wrap64 ((wrap64 (a9 + 1)) + 1))).bind fun al => ((some (aa.set (a2 : Int).toNat (⟨(rd_T125 aa a2).f0, (⟨(rd_T125 aa a2).f1.f0, al, (rd_T125 aa a2).f1.f2⟩ : S122), (⟨(rd_T125 aa a2).f2.f0, (rd_T125 aa a2).f2.f1, (rd_T125 aa a2).f2.f2⟩ : S122)⟩ : S125) : List (S125))).bind fun a7 => ((some (a7.set (a2 : Int).toNat (⟨(rd_T125 a7 a2).f0, (⟨(rd_T125 a7 a2).f1.f0, (rd_T125 a7 a2).f1.f1, ((Int.tmod (wrap64 ((wrap64 ((wrap64 (a9 + 1)) + 1)) + 1)) 3) == 0)⟩ : S122), (⟨(rd_T125 a7 a2).f2.f0, (rd_T125 a7 a2).f2.f1, (rd_T125 a7 a2).f2.f2⟩ : S122)⟩ : S125) : List (S125))).bind fun a6 => ((some (a6.set (a2 : Int).toNat (⟨(rd_T125 a6 a2).f0, (⟨(rd_T125 a6 a2).f1.f0, (rd_T125 a6 a2).f1.f1, (rd_T125 a6 a2).f1.f2⟩ : S122), (⟨((Int.tmod (wrap64 ((wrap64 ((wrap64 ((wrap64 (a9 + 1)) + 1)) + 1)) + 1)) 3) == 0), (rd_T125 a6 a2).f2.f1, (rd_T125 a6 a2).f2.f2⟩ : S122)⟩ : S125) : List (S125))).bind fun a5 => ((laws_markText.f k1 (wrap64 ((wrap64 ((wrap64 ((wrap64 ((wrap64 (a9 + 1)) + 1)) + 1)) + 1)) + 1))).bind fun ad => ((some (a5.set (a2 : Int).toNat (⟨(rd_T125 a5 a2).f0, (⟨(rd_T125 a5 a2).f1.f0, (rd_T125 a5 a2).f1.f1, (rd_T125 a5 a2).f1.f2⟩ : S122), (⟨(rd_T125 a5 a2).f2.f0, ad, (rd_T125 a5 a2).f2.f2⟩ : S122)⟩ : S125) : List (S125))).bind fun a4 => (laws_markChangeS.l0 k1 (a4.set (a2 : Int).toNat (⟨(rd_T125 a4 a2).f0, (⟨(rd_T125 a4 a2).f1.f0, (rd_T125 a4 a2).f1.f1, (rd_T125 a4 a2).f1.f2⟩ : S122), (⟨(rd_T125 a4 a2).f2.f0, (rd_T125 a4 a2).f2.f1, ((Int.tmod (wrap64 ((wrap64 ((wrap64 ((wrap64 ((wrap64 ((wrap64 (a9 + 1)) + 1)) + 1)) + 1)) + 1)) + 1)) 3) == 0)⟩ : S122)⟩ : S125)) (wrap64 ((wrap64 ((wrap64 ((wrap64 ((wrap64 ((wrap64 ((wrap64 (a9 + 1)) + 1)) + 1)) + 1)) + 1)) + 1)) + 1)) (wrap64 (a2 + 1))))))))))) else (none)) = some (r1, r2) := H; have A4 := Aside0.mk A40; clear A40
    by_cases c5 : 0 ≤ a2
    ·rw [if_pos c5] at H
     have c5b0 : decide (0 ≤ a2) = true := decide_eq_true c5; clear c5
     obtain ⟨ac, ap⟩ : ∃ y_ : List (S125), y_ = (a8.set (a2 : Int).toNat (⟨an, (⟨(rd_T125 a8 a2).f1.f0, (rd_T125 a8 a2).f1.f1, (rd_T125 a8 a2).f1.f2⟩ : S122), (⟨(rd_T125 a8 a2).f2.f0, (rd_T125 a8 a2).f2.f1, (rd_T125 a8 a2).f2.f2⟩ : S122)⟩ : S125)) := ⟨_, rfl⟩
     replace H : ((some (ac.set (a2 : Int).toNat (⟨(rd_T125 ac a2).f0, (⟨((Int.tmod (wrap64 (a9 + 1)) 3) == 0), (rd_T125 ac a2).f1.f1, (rd_T125 ac a2).f1.f2⟩ : S122), (⟨(rd_T125 ac a2).f2.f0, (rd_T125 ac a2).f2.f1, (rd_T125 ac a2).f2.f2⟩ : S122)⟩ : S125) : List (S125))).bind fun aa => ((laws_markText.f k1 (wrap64 ((wrap64 (a9 + 1)) + 1))).bind fun al => ((some (aa.set (a2 : Int).toNat (⟨(rd_T125 aa a2).f0, (⟨(rd_T125 aa a2).f1.f0, al, (rd_T125 aa a2).f1.f2⟩ : S122), (⟨(rd_T125 aa a2).f2.f0, (rd_T125 aa a2).f2.f1, (rd_T125 aa a2).f2.f2⟩ : S122)⟩ : S125) : List (S125))).bind fun a7 => ((some (a7.set (a2 : Int).toNat (⟨(rd_T125 a7 a2).f0, (⟨(rd_T125 a7 a2).f1.f0, (rd_T125 a7 a2).f1.f1, ((Int.tmod (wrap64 ((wrap64 ((wrap64 (a9 + 1)) + 1)) + 1)) 3) == 0)⟩ : S122), (⟨(rd_T125 a7 a2).f2.f0, (rd_T125 a7 a2).f2.f1, (rd_T125 a7 a2).f2.f2⟩ : S122)⟩ : S125) : List (S125))).bind fun a6 => ((some (a6.set (a2 : Int).toNat (⟨(rd_T125 a6 a2).f0, (⟨(rd_T125 a6 a2).f1.f0, (rd_T125 a6 a2).f1.f1, (rd_T125 a6 a2).f1.f2⟩ : S122), (⟨((Int.tmod (wrap64 ((wrap64 ((wrap64 ((wrap64 (a9 + 1)) + 1)) + 1)) + 1)) 3) == 0), (rd_T125 a6 a2).f2.f1, (rd_T125 a6 a2).f2.f2⟩ : S122)⟩ : S125) : List (S125))).bind fun a5 => ((laws_markText.f k1 (wrap64 ((wrap64 ((wrap64 ((wrap64 ((wrap64 (a9 + 1)) + 1)) + 1)) + 1)) + 1))).bind fun ad => ((some (a5.set (a2 : Int).toNat (⟨(rd_T125 a5 a2).f0, (⟨(rd_T125 a5 a2).f1.f0, (rd_T125 a5 a2).f1.f1, (rd_T125 a5 a2).f1.f2⟩ : S122), (⟨(rd_T125 a5 a2).f2.f0, ad, (rd_T125 a5 a2).f2.f2⟩ : S122)⟩ : S125) : List (S125))).bind fun a4 => (laws_markChangeS.l0 k1 (a4.set (a2 : Int).toNat (⟨(rd_T125 a4 a2).f0, (⟨(rd_T125 a4 a2).f1.f0, (rd_T125 a4 a2).f1.f1, (rd_T125 a4 a2).f1.f2⟩ : S122), (⟨(rd_T125 a4 a2).f2.f0, (rd_T125 a4 a2).f2.f1, ((Int.tmod (wrap64 ((wrap64 ((wrap64 ((wrap64 ((wrap64 ((wrap64 (a9 + 1)) + 1)) + 1)) + 1)) + 1)) + 1)) 3) == 0)⟩ : S122)⟩ : S125)) (wrap64 ((wrap64 ((wrap64 ((wrap64 ((wrap64 ((wrap64 ((wrap64 (a9 + 1)) + 1)) + 1)) + 1)) + 1)) + 1)) + 1)) (wrap64 (a2 + 1)))))))))) = some (r1, r2) := by first | (rw [ap]; with_reducible exact H) | (have H2_ := (Option.bind_some _ _).symm.trans H; rw [ap]; with_reducible exact H2_) | (have H2_ := (Option.bind_some _ _).symm.trans H; with_reducible exact H2_) | with_reducible exact H | (rw [ap]; exact H) | exact H
     have aS := Aside0.mk ap; clear ap
     obtain ⟨aa, aq⟩ : ∃ y_ : List (S125), y_ = (ac.set (a2 : Int).toNat (⟨(rd_T125 ac a2).f0, (⟨((Int.tmod (wrap64 (a9 + 1)) 3) == 0), (rd_T125 ac a2).f1.f1, (rd_T125 ac a2).f1.f2⟩ : S122), (⟨(rd_T125 ac a2).f2.f0, (rd_T125 ac a2).f2.f1, (rd_T125 ac a2).f2.f2⟩ : S122)⟩ : S125)) := ⟨_, rfl⟩
     replace H : ((laws_markText.f k1 (wrap64 ((wrap64 (a9 + 1)) + 1))).bind fun al => ((some (aa.set (a2 : Int).toNat (⟨(rd_T125 aa a2).f0, (⟨(rd_T125 aa a2).f1.f0, al, (rd_T125 aa a2).f1.f2⟩ : S122), (⟨(rd_T125 aa a2).f2.f0, (rd_T125 aa a2).f2.f1, (rd_T125 aa a2).f2.f2⟩ : S122)⟩ : S125) : List (S125))).bind fun a7 => ((some (a7.set (a2 : Int).toNat (⟨(rd_T125 a7 a2).f0, (⟨(rd_T125 a7 a2).f1.f0, (rd_T125 a7 a2).f1.f1, ((Int.tmod (wrap64 ((wrap64 ((wrap64 (a9 + 1)) + 1)) + 1)) 3) == 0)⟩ : S122), (⟨(rd_T125 a7 a2).f2.f0, (rd_T125 a7 a2).f2.f1, (rd_T125 a7 a2).f2.f2⟩ : S122)⟩ : S125) : List (S125))).bind fun a6 => ((some (a6.set (a2 : Int).toNat (⟨(rd_T125 a6 a2).f0, (⟨(rd_T125 a6 a2).f1.f0, (rd_T125 a6 a2).f1.f1, (rd_T125 a6 a2).f1.f2⟩ : S122), (⟨((Int.tmod (wrap64 ((wrap64 ((wrap64 ((wrap64 (a9 + 1)) + 1)) + 1)) + 1)) 3) == 0), (rd_T125 a6 a2).f2.f1, (rd_T125 a6 a2).f2.f2⟩ : S122)⟩ : S125) : List (S125))).bind fun a5 => ((laws_markText.f k1 (wrap64 ((wrap64 ((wrap64 ((wrap64 ((wrap64 (a9 + 1)) + 1)) + 1)) + 1)) + 1))).bind fun ad => ((some (a5.set (a2 : Int).toNat (⟨(rd_T125 a5 a2).f0, (⟨(rd_T125 a5 a2).f1.f0, (rd_T125 a5 a2).f1.f1, (rd_T125 a5 a2).f1.f2⟩ : S122), (⟨(rd_T125 a5 a2).f2.f0, ad, (rd_T125 a5 a2).f2.f2⟩ : S122)⟩ : S125) : List (S125))).bind fun a4 => (laws_markChangeS.l0 k1 (a4.set (a2 : Int).toNat (⟨(rd_T125 a4 a2).f0, (⟨(rd_T125 a4 a2).f1.f0, (rd_T125 a4 a2).f1.f1, (rd_T125 a4 a2).f1.f2⟩ : S122), (⟨(rd_T125 a4 a2).f2.f0, (rd_T125 a4 a2).f2.f1, ((Int.tmod (wrap64 ((wrap64 ((wrap64 ((wrap64 ((wrap64 ((wrap64 (a9 + 1)) + 1)) + 1)) + 1)) + 1)) + 1)) 3) == 0)⟩ : S122)⟩ : S125)) (wrap64 ((wrap64 ((wrap64 ((wrap64 ((wrap64 ((wrap64 ((wrap64 (a9 + 1)) + 1)) + 1)) + 1)) + 1)) + 1)) + 1)) (wrap64 (a2 + 1))))))))) = some (r1, r2) := by first | (rw [aq]; with_reducible exact H) | (have H2_ := (Option.bind_some _ _).symm.trans H; rw [aq]; with_reducible exact H2_) | (have H2_ := (Option.bind_some _ _).symm.trans H; with_reducible exact H2_) | with_reducible exact H | (rw [aq]; exact H) | exact H
     have aT := Aside0.mk aq; clear aq; replace H := Option.bind_eq_some_iff.mp H; obtain ⟨al, A80, H⟩ := H; replace H : ((some (aa.set (a2 : Int).toNat (⟨(rd_T125 aa a2).f0, (⟨(rd_T125 aa a2).f1.f0, al, (rd_T125 aa a2).f1.f2⟩ : S122), (⟨(rd_T125 aa a2).f2.f0, (rd_T125 aa a2).f2.f1, (rd_T125 aa a2).f2.f2⟩ : S122)⟩ : S125) : List (S125))).bind fun a7 => ((some (a7.set (a2 : Int).toNat (⟨(rd_T125 a7 a2).f0, (⟨(rd_T125 a7 a2).f1.f0, (rd_T125 a7 a2).f1.f1, ((Int.tmod (wrap64 ((wrap64 ((wrap64 (a9 + 1)) + 1)) + 1)) 3) == 0)⟩ : S122), (⟨(rd_T125 a7 a2).f2.f0, (rd_T125 a7 a2).f2.f1, (rd_T125 a7 a2).f2.f2⟩ : S122)⟩ : S125) : List (S125))).bind fun a6 => ((some (a6.set (a2 : Int).toNat (⟨(rd_T125 a6 a2).f0, (⟨(rd_T125 a6 a2).f1.f0, (rd_T125 a6 a2).f1.f1, (rd_T125 a6 a2).f1.f2⟩ : S122), (⟨((Int.tmod (wrap64 ((wrap64 ((wrap64 ((wrap64 (a9 + 1)) + 1)) + 1)) + 1)) 3) == 0), (rd_T125 a6 a2).f2.f1, (rd_T125 a6 a2).f2.f2⟩ : S122)⟩ : S125) : List (S125))).bind fun a5 => ((laws_markText.f k1 (wrap64 ((wrap64 ((wrap64 ((wrap64 ((wrap64 (a9 + 1)) + 1)) + 1)) + 1)) + 1))).bind fun ad => ((some (a5.set (a2 : Int).toNat (⟨(rd_T125 a5 a2).f0, (⟨(rd_T125 a5 a2).f1.f0, (rd_T125 a5 a2).f1.f1, (rd_T125 a5 a2).f1.f2⟩ : S122), (⟨(rd_T125 a5 a2).f2.f0, ad, (rd_T125 a5 a2).f2.f2⟩ : S122)⟩ : S125) : List (S125))).bind fun a4 => (laws_markChangeS.l0 k1 (a4.set (a2 : Int).toNat (⟨(rd_T125 a4 a2).f0, (⟨(rd_T125 a4 a2).f1.f0, (rd_T125 a4 a2).f1.f1, (rd_T125 a4 a2).f1.f2⟩ : S122), (⟨(rd_T125 a4 a2).f2.f0, (rd_T125 a4 a2).f2.f1, ((Int.tmod (wrap64 ((wrap64 ((wrap64 ((wrap64 ((wrap64 ((wrap64 (a9 + 1)) + 1)) + 1)) + 1)) + 1)) + 1)) 3) == 0)⟩ : S122)⟩ : S125)) (wrap64 ((wrap64 ((wrap64 ((wrap64 ((wrap64 ((wrap64 ((wrap64 (a9 + 1)) + 1)) + 1)) + 1)) + 1)) + 1)) + 1)) (wrap64 (a2 + 1)))))))) = some (r1, r2) := H; have A8 := Aside0.mk A80; clear A80
     obtain ⟨a7, ar⟩ : ∃ y_ : List (S125), y_ = (aa.set (a2 : Int).toNat (⟨(rd_T125 aa a2).f0, (⟨(rd_T125 aa a2).f1.f0, al, (rd_T125 aa a2).f1.f2⟩ : S122), (⟨(rd_T125 aa a2).f2.f0, (rd_T125 aa a2).f2.f1, (rd_T125 aa a2).f2.f2⟩ : S122)⟩ : S125)) := ⟨_, rfl⟩
     replace H : ((some (a7.set (a2 : Int).toNat (⟨(rd_T125 a7 a2).f0, (⟨(rd_T125 a7 a2).f1.f0, (rd_T125 a7 a2).f1.f1, ((Int.tmod (wrap64 ((wrap64 ((wrap64 (a9 + 1)) + 1)) + 1)) 3) == 0)⟩ : S122), (⟨(rd_T125 a7 a2).f2.f0, (rd_T125 a7 a2).f2.f1, (rd_T125 a7 a2).f2.f2⟩ : S122)⟩ : S125) : List (S125))).bind fun a6 => ((some (a6.set (a2 : Int).toNat (⟨(rd_T125 a6 a2).f0, (⟨(rd_T125 a6 a2).f1.f0, (rd_T125 a6 a2).f1.f1, (rd_T125 a6 a2).f1.f2⟩ : S122), (⟨((Int.tmod (wrap64 ((wrap64 ((wrap64 ((wrap64 (a9 + 1)) + 1)) + 1)) + 1)) 3) == 0), (rd_T125 a6 a2).f2.f1, (rd_T125 a6 a2).f2.f2⟩ : S122)⟩ : S125) : List (S125))).bind fun a5 => ((laws_markText.f k1 (wrap64 ((wrap64 ((wrap64 ((wrap64 ((wrap64 (a9 + 1)) + 1)) + 1)) + 1)) + 1))).bind fun ad => ((some (a5.set (a2 : Int).toNat (⟨(rd_T125 a5 a2).f0, (⟨(rd_T125 a5 a2).f1.f0, (rd_T125 a5 a2).f1.f1, (rd_T125 a5 a2).f1.f2⟩ : S122), (⟨(rd_T125 a5 a2).f2.f0, ad, (rd_T125 a5 a2).f2.f2⟩ : S122)⟩ : S125) : List (S125))).bind fun a4 => (laws_markChangeS.l0 k1 (a4.set (a2 : Int).toNat (⟨(rd_T125 a4 a2).f0, (⟨(rd_T125 a4 a2).f1.f0, (rd_T125 a4 a2).f1.f1, (rd_T125 a4 a2).f1.f2⟩ : S122), (⟨(rd_T125 a4 a2).f2.f0, (rd_T125 a4 a2).f2.f1, ((Int.tmod (wrap64 ((wrap64 ((wrap64 ((wrap64 ((wrap64 ((wrap64 (a9 + 1)) + 1)) + 1)) + 1)) + 1)) + 1)) 3) == 0)⟩ : S122)⟩ : S125)) (wrap64 ((wrap64 ((wrap64 ((wrap64 ((wrap64 ((wrap64 ((wrap64 (a9 + 1)) + 1)) + 1)) + 1)) + 1)) + 1)) + 1)) (wrap64 (a2 + 1))))))) = some (r1, r2) := by first | (rw [ar]; with_reducible exact H) | (have H2_ := (Option.bind_some _ _).symm.trans H; rw [ar]; with_reducible exact H2_) | (have H2_ := (Option.bind_some _ _).symm.trans H; with_reducible exact H2_) | with_reducible exact H | (rw [ar]; exact H) | exact H
     have aU := Aside0.mk ar; clear ar
     obtain ⟨a6, au⟩ : ∃ y_ : List (S125), y_ = (a7.set (a2 : Int).toNat (⟨(rd_T125 a7 a2).f0, (⟨(rd_T125 a7 a2).f1.f0, (rd_T125 a7 a2).f1.f1, ((Int.tmod (wrap64 ((wrap64 ((wrap64 (a9 + 1)) + 1)) + 1)) 3) == 0)⟩ : S122), (⟨(rd_T125 a7 a2).f2.f0, (rd_T125 a7 a2).f2.f1, (rd_T125 a7 a2).f2.f2⟩ : S122)⟩ : S125)) := ⟨_, rfl⟩
     replace H : ((some (a6.set (a2 : Int).toNat (⟨(rd_T125 a6 a2).f0, (⟨(rd_T125 a6 a2).f1.f0, (rd_T125 a6 a2).f1.f1, (rd_T125 a6 a2).f1.f2⟩ : S122), (⟨((Int.tmod (wrap64 ((wrap64 ((wrap64 ((wrap64 (a9 + 1)) + 1)) + 1)) + 1)) 3) == 0), (rd_T125 a6 a2).f2.f1, (rd_T125 a6 a2).f2.f2⟩ : S122)⟩ : S125) : List (S125))).bind fun a5 => ((laws_markText.f k1 (wrap64 ((wrap64 ((wrap64 ((wrap64 ((wrap64 (a9 + 1)) + 1)) + 1)) + 1)) + 1))).bind fun ad => ((some (a5.set (a2 : Int).toNat (⟨(rd_T125 a5 a2).f0, (⟨(rd_T125 a5 a2).f1.f0, (rd_T125 a5 a2).f1.f1, (rd_T125 a5 a2).f1.f2⟩ : S122), (⟨(rd_T125 a5 a2).f2.f0, ad, (rd_T125 a5 a2).f2.f2⟩ : S122)⟩ : S125) : List (S125))).bind fun a4 => (laws_markChangeS.l0 k1 (a4.set (a2 : Int).toNat (⟨(rd_T125 a4 a2).f0, (⟨(rd_T125 a4 a2).f1.f0, (rd_T125 a4 a2).f1.f1, (rd_T125 a4 a2).f1.f2⟩ : S122), (⟨(rd_T125 a4 a2).f2.f0, (rd_T125 a4 a2).f2.f1, ((Int.tmod (wrap64 ((wrap64 ((wrap64 ((wrap64 ((wrap64 ((wrap64 (a9 + 1)) + 1)) + 1)) + 1)) + 1)) + 1)) 3) == 0)⟩ : S122)⟩ : S125)) (wrap64 ((wrap64 ((wrap64 ((wrap64 ((wrap64 ((wrap64 ((wrap64 (a9 + 1)) + 1)) + 1)) + 1)) + 1)) + 1)) + 1)) (wrap64 (a2 + 1)))))) = some (r1, r2) := by first | (rw [au]; with_reducible exact H) | (have H2_ := (Option.bind_some _ _).symm.trans H; rw [au]; with_reducible exact H2_) | (have H2_ := (Option.bind_some _ _).symm.trans H; with_reducible exact H2_) | with_reducible exact H | (rw [au]; exact H) | exact H
     have aV := Aside0.mk au; clear au
     obtain ⟨a5, av⟩ : ∃ y_ : List (S125), y_ = (a6.set (a2 : Int).toNat (⟨(rd_T125 a6 a2).f0, (⟨(rd_T125 a6 a2).f1.f0, (rd_T125 a6 a2).f1.f1, (rd_T125 a6 a2).f1.f2⟩ : S122), (⟨((Int.tmod (wrap64 ((wrap64 ((wrap64 ((wrap64 (a9 + 1)) + 1)) + 1)) + 1)) 3) == 0), (rd_T125 a6 a2).f2.f1, (rd_T125 a6 a2).f2.f2⟩ : S122)⟩ : S125)) := ⟨_, rfl⟩
     replace H : ((laws_markText.f k1 (wrap64 ((wrap64 ((wrap64 ((wrap64 ((wrap64 (a9 + 1)) + 1)) + 1)) + 1)) + 1))).bind fun ad => ((some (a5.set (a2 : Int).toNat (⟨(rd_T125 a5 a2).f0, (⟨(rd_T125 a5 a2).f1.f0, (rd_T125 a5 a2).f1.f1, (rd_T125 a5 a2).f1.f2⟩ : S122), (⟨(rd_T125 a5 a2).f2.f0, ad, (rd_T125 a5 a2).f2.f2⟩ : S122)⟩ : S125) : List (S125))).bind fun a4 => (laws_markChangeS.l0 k1 (a4.set (a2 : Int).toNat (⟨(rd_T125 a4 a2).f0, (⟨(rd_T125 a4 a2).f1.f0, (rd_T125 a4 a2).f1.f1, (rd_T125 a4 a2).f1.f2⟩ : S122), (⟨(rd_T125 a4 a2).f2.f0, (rd_T125 a4 a2).f2.f1, ((Int.tmod (wrap64 ((wrap64 ((wrap64 ((wrap64 ((wrap64 ((wrap64 (a9 + 1)) + 1)) + 1)) + 1)) + 1)) + 1)) 3) == 0)⟩ : S122)⟩ : S125)) (wrap64 ((wrap64 ((wrap64 ((wrap64 ((wrap64 ((wrap64 ((wrap64 (a9 + 1)) + 1)) + 1)) + 1)) + 1)) + 1)) + 1)) (wrap64 (a2 + 1))))) = some (r1, r2) := by first | (rw [av]; with_reducible exact H) | (have H2_ := (Option.bind_some _ _).symm.trans H; rw [av]; with_reducible exact H2_) | (have H2_ := (Option.bind_some _ _).symm.trans H; with_reducible exact H2_) | with_reducible exact H | (rw [av]; exact H) | exact H
     have aW := Aside0.mk av; clear av; replace H := Option.bind_eq_some_iff.mp H; obtain ⟨ad, aJ, H⟩ := H; replace H : ((some (a5.set (a2 : Int).toNat (⟨(rd_T125 a5 a2).f0, (⟨(rd_T125 a5 a2).f1.f0, (rd_T125 a5 a2).f1.f1, (rd_T125 a5 a2).f1.f2⟩ : S122), (⟨(rd_T125 a5 a2).f2.f0, ad, (rd_T125 a5 a2).f2.f2⟩ : S122)⟩ : S125) : List (S125))).bind fun a4 => (laws_markChangeS.l0 k1 (a4.set (a2 : Int).toNat (⟨(rd_T125 a4 a2).f0, (⟨(rd_T125 a4 a2).f1.f0, (rd_T125 a4 a2).f1.f1, (rd_T125 a4 a2).f1.f2⟩ : S122), (⟨(rd_T125 a4 a2).f2.f0, (rd_T125 a4 a2).f2.f1, ((Int.tmod (wrap64 ((wrap64 ((wrap64 ((wrap64 ((wrap64 ((wrap64 (a9 + 1)) + 1)) + 1)) + 1)) + 1)) + 1)) 3) == 0)⟩ : S122)⟩ : S125)) (wrap64 ((wrap64 ((wrap64 ((wrap64 ((wrap64 ((wrap64 ((wrap64 (a9 + 1)) + 1)) + 1)) + 1)) + 1)) + 1)) + 1)) (wrap64 (a2 + 1)))) = some (r1, r2) := H; have A12 := Aside0.mk aJ; clear aJ
     obtain ⟨a4, aw⟩ : ∃ y_ : List (S125), y_ = (a5.set (a2 : Int).toNat (⟨(rd_T125 a5 a2).f0, (⟨(rd_T125 a5 a2).f1.f0, (rd_T125 a5 a2).f1.f1, (rd_T125 a5 a2).f1.f2⟩ : S122), (⟨(rd_T125 a5 a2).f2.f0, ad, (rd_T125 a5 a2).f2.f2⟩ : S122)⟩ : S125)) := ⟨_, rfl⟩
     replace H : (laws_markChangeS.l0 k1 (a4.set (a2 : Int).toNat (⟨(rd_T125 a4 a2).f0, (⟨(rd_T125 a4 a2).f1.f0, (rd_T125 a4 a2).f1.f1, (rd_T125 a4 a2).f1.f2⟩ : S122), (⟨(rd_T125 a4 a2).f2.f0, (rd_T125 a4 a2).f2.f1, ((Int.tmod (wrap64 ((wrap64 ((wrap64 ((wrap64 ((wrap64 ((wrap64 (a9 + 1)) + 1)) + 1)) + 1)) + 1)) + 1)) 3) == 0)⟩ : S122)⟩ : S125)) (wrap64 ((wrap64 ((wrap64 ((wrap64 ((wrap64 ((wrap64 ((wrap64 (a9 + 1)) + 1)) + 1)) + 1)) + 1)) + 1)) + 1)) (wrap64 (a2 + 1))) = some (r1, r2) := by first | (rw [aw]; with_reducible exact H) | (have H2_ := (Option.bind_some _ _).symm.trans H; rw [aw]; with_reducible exact H2_) | (have H2_ := (Option.bind_some _ _).symm.trans H; with_reducible exact H2_) | with_reducible exact H | (rw [aw]; exact H) | exact H
     have aX := Aside0.mk aw; clear aw
     obtain ⟨ay, ax⟩ : ∃ y_ : List (S125), y_ = (a4.set (a2 : Int).toNat (⟨(rd_T125 a4 a2).f0, (⟨(rd_T125 a4 a2).f1.f0, (rd_T125 a4 a2).f1.f1, (rd_T125 a4 a2).f1.f2⟩ : S122), (⟨(rd_T125 a4 a2).f2.f0, (rd_T125 a4 a2).f2.f1, ((Int.tmod (wrap64 ((wrap64 ((wrap64 ((wrap64 ((wrap64 ((wrap64 (a9 + 1)) + 1)) + 1)) + 1)) + 1)) + 1)) 3) == 0)⟩ : S122)⟩ : S125)) := ⟨_, rfl⟩
     replace H : (laws_markChangeS.l0 k1 ay (wrap64 ((wrap64 ((wrap64 ((wrap64 ((wrap64 ((wrap64 ((wrap64 (a9 + 1)) + 1)) + 1)) + 1)) + 1)) + 1)) + 1)) (wrap64 (a2 + 1))) = some (r1, r2) := by first | (rw [ax]; with_reducible exact H) | (have H2_ := (Option.bind_some _ _).symm.trans H; rw [ax]; with_reducible exact H2_) | (have H2_ := (Option.bind_some _ _).symm.trans H; with_reducible exact H2_) | with_reducible exact H | (rw [ax]; exact H) | exact H
     have aY := Aside0.mk ax; clear ax; have H' := Aside0.mk H; clear H; obtain ⟨Ao15, am, aZ⟩ := Kd.R_slice ab.out; subst aZ
     go_wp2_with (first | ((with_reducible refine gc 144 rfl ?_); refine gl (some 15) _ (#[.int .i64 a9]) Tryd.func144 ?_; (with_reducible refine (laws_markText.calls k1 a9 an _ A4.out).mono ?_); rintro e ai ⟨rfl, hb⟩; refine ⟨_, rfl, ?_⟩; refine Ya3 (Kd.R_below (kr ab.out) hb) (Kept.below (S := (fun k_ => P0_ k_)) (by repeat (first | (with_reducible first | exact HK.out | apply Kept.alloc | apply Kept.drewN | apply Kept.drew) | exact HK.out)) hb) (below_step (be HB.out) hb) ?_; clear ab HK HB; intro ab HK HB; (try clear hb); (try clear hb2); (try clear hk); (try clear hi); have p6 : 0 ≤ (a2 : Int) := oda; have q6 : (a2 : Int) < ((a8.length : Int) : Int) := oda; obtain ⟨a3, co6, eo6, gb6, gl6, cl6, HG6⟩ := Kd.R_form ab.out (by omega); (first | cases eo6 | (injection eo6 with ea_ en_ ec_; (first | subst ea_ | (injection ea_ with ea_; subst ea_)); subst ec_; clear en_)); have ao := Aside0.mk gb6; have GG6 := Aside0.mk HG6; clear gb6 gl6 HG6; have HMgo6 := Aside0.mk (show (P0_ a3 ∨ w.heap.size ≤ a3) from (ab.out.1 _ rfl)); obtain ⟨ce6, hcl6, hM6, hcc6, hfr6⟩ := Kd.R_elem ab.out z125 (a2 : Int) p6 q6; obtain rfl := k125_openM hM6; have hx6_0 : ai.cell? ⟨a3, (a2 : Int).toNat * 7, none⟩ = some (.string ((rd_T125 a8 a2).f0)) := hcc6 0 _ rfl; have hx6_1 : ai.cell? ⟨a3, (a2 : Int).toNat * 7 + 1, none⟩ = some (.bool ((rd_T125 a8 a2).f1.f0)) := hcc6 1 _ rfl; have hx6_2 : ai.cell? ⟨a3, (a2 : Int).toNat * 7 + 2, none⟩ = some (.string ((rd_T125 a8 a2).f1.f1)) := hcc6 2 _ rfl; have hx6_3 : ai.cell? ⟨a3, (a2 : Int).toNat * 7 + 3, none⟩ = some (.bool ((rd_T125 a8 a2).f1.f2)) := hcc6 3 _ rfl; have hx6_4 : ai.cell? ⟨a3, (a2 : Int).toNat * 7 + 4, none⟩ = some (.bool ((rd_T125 a8 a2).f2.f0)) := hcc6 4 _ rfl; have hx6_5 : ai.cell? ⟨a3, (a2 : Int).toNat * 7 + 5, none⟩ = some (.string ((rd_T125 a8 a2).f2.f1)) := hcc6 5 _ rfl; have hx6_6 : ai.cell? ⟨a3, (a2 : Int).toNat * 7 + 6, none⟩ = some (.bool ((rd_T125 a8 a2).f2.f2)) := hcc6 6 _ rfl; have hf6_0 : ai.frozen? ⟨a3, (a2 : Int).toNat * 7, none⟩ = false := hfr6 0; have hf6_1 : ai.frozen? ⟨a3, (a2 : Int).toNat * 7 + 1, none⟩ = false := hfr6 1; have hf6_2 : ai.frozen? ⟨a3, (a2 : Int).toNat * 7 + 2, none⟩ = false := hfr6 2; have hf6_3 : ai.frozen? ⟨a3, (a2 : Int).toNat * 7 + 3, none⟩ = false := hfr6 3; have hf6_4 : ai.frozen? ⟨a3, (a2 : Int).toNat * 7 + 4, none⟩ = false := hfr6 4; have hf6_5 : ai.frozen? ⟨a3, (a2 : Int).toNat * 7 + 5, none⟩ = false := hfr6 5; have hf6_6 : ai.frozen? ⟨a3, (a2 : Int).toNat * 7 + 6, none⟩ = false := hfr6 6; (try clear hM6); clear hcl6 hcc6 hfr6; replace p6 := eq_true p6; replace q6 := eq_true q6; have aK := Aside0.mk (show Kd.R k125 125 ai w0.heap.size (fun k_ => (P0_ k_ ∨ w.heap.size ≤ k_)) (.slice (some ⟨a3, 0, none⟩) a8.length am) a8 from (kr ab.out)); obtain ⟨ce17, hcl17, hM17, hcc17, hfr17⟩ := Kd.R_elem aK.out z125 (a2 : Int) (oda) (by have h_ : (a2 : Int) < ((a8.length : Int) : Int) := oda; first | exact h_ | (have e_ := (Kd.R_reads' ab.out).1; omega) | simpa using h_); obtain rfl := k125_openM hM17; have az := Kd.R_seg aK.out (a2 : Int) (oda) (by have h_ : (a2 : Int) < ((a8.length : Int) : Int) := oda; first | exact h_ | (have e_ := (Kd.R_reads' ab.out).1; omega) | simpa using h_) (seg := [.string an]) (j := 0) hcl17 hcc17 (show 1 ≤ 7 from by decide) (x' := (⟨an, (⟨(rd_T125 a8 a2).f1.f0, (rd_T125 a8 a2).f1.f1, (rd_T125 a8 a2).f1.f2⟩ : S122), (⟨(rd_T125 a8 a2).f2.f0, (rd_T125 a8 a2).f2.f1, (rd_T125 a8 a2).f2.f2⟩ : S122)⟩ : S125)) (k125_mkM _ _ _ (⟨an, (⟨(rd_T125 a8 a2).f1.f0, (rd_T125 a8 a2).f1.f1, (rd_T125 a8 a2).f1.f2⟩ : S122), (⟨(rd_T125 a8 a2).f2.f0, (rd_T125 a8 a2).f2.f1, (rd_T125 a8 a2).f2.f2⟩ : S122)⟩ : S125) ) (fun _ hk => hk); have b0 := hcc17 0 _ rfl; (try simp only [show (k125).sz = 7 from rfl, Nat.mul_one, Nat.add_zero] at b0); have hf17_0 := hfr17 0; (try simp only [show (k125).sz = 7 from rfl, Nat.mul_one, Nat.add_zero] at hf17_0); (try clear hM17); clear hcl17 hcc17 hfr17) | ((with_reducible refine gate_store (t := 9) (p := 17) rfl ?_); refine store_event (t := 9) (p := 17) (v := ?vo_w18) (w1 := (ai.setCell ⟨a3, (a2 : Int).toNat * 7, none⟩ (.string an))) ?hg ?ho ?hn ?hr ?_; (case ho => rfl); (case hg => rfl); (case hn => rfl); (case hr => first | (go_simp; done) | (go_simp; rfl)); intro ae hw; have hg : ai.grownBy ae (some a3) := (by rw [hw]; exact az.2); have hp_ : Kd.R k125 125 ae w0.heap.size (fun k_ => (P0_ k_ ∨ w.heap.size ≤ k_)) (.slice (some ⟨a3, 0, none⟩) a8.length am) ac := (by rw [hw, aS.out]; exact az.1); clear az; refine Ya3 (hp_) ((by rw [hw]; exact below_set (HB.out) ao.out : Below w0.heap.size w0 ae)) (Kept.of_grown (S := (fun k_ => P0_ k_)) hg (by repeat (first | (with_reducible first | exact HK.out | apply Kept.alloc | apply Kept.drewN | apply Kept.drew) | exact HK.out)) (fun k_ e_ => (ab.out.1 k_ e_))) ?_; clear ab HB HK; intro ab HB HK; clear hg hw hp_; have p7 : 0 ≤ (a2 : Int) := oda; have q7 : (a2 : Int) < ((a8.length : Int) : Int) := oda; obtain ⟨ce7, hcl7, hM7, hcc7, hfr7⟩ := Kd.R_elem ab.out z125 (a2 : Int) p7 q7; obtain rfl := k125_openM hM7; have hx7_0 : ae.cell? ⟨a3, (a2 : Int).toNat * 7, none⟩ = some (.string ((rd_T125 ac a2).f0)) := hcc7 0 _ rfl; have hx7_1 : ae.cell? ⟨a3, (a2 : Int).toNat * 7 + 1, none⟩ = some (.bool ((rd_T125 ac a2).f1.f0)) := hcc7 1 _ rfl; have hx7_2 : ae.cell? ⟨a3, (a2 : Int).toNat * 7 + 2, none⟩ = some (.string ((rd_T125 ac a2).f1.f1)) := hcc7 2 _ rfl; have hx7_3 : ae.cell? ⟨a3, (a2 : Int).toNat * 7 + 3, none⟩ = some (.bool ((rd_T125 ac a2).f1.f2)) := hcc7 3 _ rfl; have hx7_4 : ae.cell? ⟨a3, (a2 : Int).toNat * 7 + 4, none⟩ = some (.bool ((rd_T125 ac a2).f2.f0)) := hcc7 4 _ rfl; have hx7_5 : ae.cell? ⟨a3, (a2 : Int).toNat * 7 + 5, none⟩ = some (.string ((rd_T125 ac a2).f2.f1)) := hcc7 5 _ rfl; have hx7_6 : ae.cell? ⟨a3, (a2 : Int).toNat * 7 + 6, none⟩ = some (.bool ((rd_T125 ac a2).f2.f2)) := hcc7 6 _ rfl; have hf7_0 : ae.frozen? ⟨a3, (a2 : Int).toNat * 7, none⟩ = false := hfr7 0; have hf7_1 : ae.frozen? ⟨a3, (a2 : Int).toNat * 7 + 1, none⟩ = false := hfr7 1; have hf7_2 : ae.frozen? ⟨a3, (a2 : Int).toNat * 7 + 2, none⟩ = false := hfr7 2; have hf7_3 : ae.frozen? ⟨a3, (a2 : Int).toNat * 7 + 3, none⟩ = false := hfr7 3; have hf7_4 : ae.frozen? ⟨a3, (a2 : Int).toNat * 7 + 4, none⟩ = false := hfr7 4; have hf7_5 : ae.frozen? ⟨a3, (a2 : Int).toNat * 7 + 5, none⟩ = false := hfr7 5; have hf7_6 : ae.frozen? ⟨a3, (a2 : Int).toNat * 7 + 6, none⟩ = false := hfr7 6; (try clear hM7); clear hcl7 hcc7 hfr7; replace p7 := eq_true p7; replace q7 := eq_true q7; have aL := Aside0.mk (show Kd.R k125 125 ae w0.heap.size (fun k_ => (P0_ k_ ∨ w.heap.size ≤ k_)) (.slice (some ⟨a3, 0, none⟩) a8.length am) ac from (kr ab.out)); obtain ⟨ce19, hcl19, hM19, hcc19, hfr19⟩ := Kd.R_elem aL.out z125 (a2 : Int) (oda) (by have h_ : (a2 : Int) < ((a8.length : Int) : Int) := oda; first | exact h_ | (have e_ := (Kd.R_reads' ab.out).1; omega) | simpa using h_); obtain rfl := k125_openM hM19; have aA := Kd.R_seg aL.out (a2 : Int) (oda) (by have h_ : (a2 : Int) < ((a8.length : Int) : Int) := oda; first | exact h_ | (have e_ := (Kd.R_reads' ab.out).1; omega) | simpa using h_) (seg := [.bool ((Int.tmod (wrap64 (a9 + 1)) 3) == 0)]) (j := 1) hcl19 hcc19 (show 2 ≤ 7 from by decide) (x' := (⟨(rd_T125 ac a2).f0, (⟨((Int.tmod (wrap64 (a9 + 1)) 3) == 0), (rd_T125 ac a2).f1.f1, (rd_T125 ac a2).f1.f2⟩ : S122), (⟨(rd_T125 ac a2).f2.f0, (rd_T125 ac a2).f2.f1, (rd_T125 ac a2).f2.f2⟩ : S122)⟩ : S125)) (k125_mkM _ _ _ (⟨(rd_T125 ac a2).f0, (⟨((Int.tmod (wrap64 (a9 + 1)) 3) == 0), (rd_T125 ac a2).f1.f1, (rd_T125 ac a2).f1.f2⟩ : S122), (⟨(rd_T125 ac a2).f2.f0, (rd_T125 ac a2).f2.f1, (rd_T125 ac a2).f2.f2⟩ : S122)⟩ : S125) ) (fun _ hk => hk); have b1 := hcc19 1 _ rfl; (try simp only [show (k125).sz = 7 from rfl, Nat.mul_one, Nat.add_zero] at b1); have hf19_1 := hfr19 1; (try simp only [show (k125).sz = 7 from rfl, Nat.mul_one, Nat.add_zero] at hf19_1); (try clear hM19); clear hcl19 hcc19 hfr19) | ((with_reducible refine gate_store (t := 4) (p := 27) rfl ?_); refine store_event (t := 4) (p := 27) (v := ?vo_w20) (w1 := (ae.setCell ⟨a3, (a2 : Int).toNat * 7 + 1, none⟩ (.bool ((Int.tmod (wrap64 (a9 + 1)) 3) == 0)))) ?hg ?ho ?hn ?hr ?_; (case ho => rfl); (case hg => rfl); (case hn => rfl); (case hr => first | (go_simp; done) | (go_simp; rfl)); intro aB hw; have hg : ae.grownBy aB (some a3) := (by rw [hw]; exact aA.2); have hp_ : Kd.R k125 125 aB w0.heap.size (fun k_ => (P0_ k_ ∨ w.heap.size ≤ k_)) (.slice (some ⟨a3, 0, none⟩) a8.length am) aa := (by rw [hw, aT.out]; exact aA.1); clear aA; refine Ya3 (hp_) ((by rw [hw]; exact below_set (HB.out) ao.out : Below w0.heap.size w0 aB)) (Kept.of_grown (S := (fun k_ => P0_ k_)) hg (by repeat (first | (with_reducible first | exact HK.out | apply Kept.alloc | apply Kept.drewN | apply Kept.drew) | exact HK.out)) (fun k_ e_ => (ab.out.1 k_ e_))) ?_; clear ab HB HK; intro ab HB HK; clear hg hw hp_) | ((with_reducible refine gc 144 rfl ?_); refine gl (some 33) _ (#[.int .i64 (wrap64 ((wrap64 (a9 + 1)) + 1))]) Tryd.func144 ?_; (with_reducible refine (laws_markText.calls k1 (wrap64 ((wrap64 (a9 + 1)) + 1)) al _ A8.out).mono ?_); rintro e aj ⟨rfl, hb⟩; refine ⟨_, rfl, ?_⟩; refine Ya3 (Kd.R_below (kr ab.out) hb) (Kept.below (S := (fun k_ => P0_ k_)) (by repeat (first | (with_reducible first | exact HK.out | apply Kept.alloc | apply Kept.drewN | apply Kept.drew) | exact HK.out)) hb) (below_step (be HB.out) hb) ?_; clear ab HK HB; intro ab HK HB; (try clear hb); (try clear hb2); (try clear hk); (try clear hi); have p9 : 0 ≤ (a2 : Int) := oda; have q9 : (a2 : Int) < ((a8.length : Int) : Int) := oda; obtain ⟨ce9, hcl9, hM9, hcc9, hfr9⟩ := Kd.R_elem ab.out z125 (a2 : Int) p9 q9; obtain rfl := k125_openM hM9; have hx9_0 : aj.cell? ⟨a3, (a2 : Int).toNat * 7, none⟩ = some (.string ((rd_T125 aa a2).f0)) := hcc9 0 _ rfl; have hx9_1 : aj.cell? ⟨a3, (a2 : Int).toNat * 7 + 1, none⟩ = some (.bool ((rd_T125 aa a2).f1.f0)) := hcc9 1 _ rfl; have hx9_2 : aj.cell? ⟨a3, (a2 : Int).toNat * 7 + 2, none⟩ = some (.string ((rd_T125 aa a2).f1.f1)) := hcc9 2 _ rfl; have hx9_3 : aj.cell? ⟨a3, (a2 : Int).toNat * 7 + 3, none⟩ = some (.bool ((rd_T125 aa a2).f1.f2)) := hcc9 3 _ rfl; have hx9_4 : aj.cell? ⟨a3, (a2 : Int).toNat * 7 + 4, none⟩ = some (.bool ((rd_T125 aa a2).f2.f0)) := hcc9 4 _ rfl; have hx9_5 : aj.cell? ⟨a3, (a2 : Int).toNat * 7 + 5, none⟩ = some (.string ((rd_T125 aa a2).f2.f1)) := hcc9 5 _ rfl; have hx9_6 : aj.cell? ⟨a3, (a2 : Int).toNat * 7 + 6, none⟩ = some (.bool ((rd_T125 aa a2).f2.f2)) := hcc9 6 _ rfl; have hf9_0 : aj.frozen? ⟨a3, (a2 : Int).toNat * 7, none⟩ = false := hfr9 0; have hf9_1 : aj.frozen? ⟨a3, (a2 : Int).toNat * 7 + 1, none⟩ = false := hfr9 1; have hf9_2 : aj.frozen? ⟨a3, (a2 : Int).toNat * 7 + 2, none⟩ = false := hfr9 2; have hf9_3 : aj.frozen? ⟨a3, (a2 : Int).toNat * 7 + 3, none⟩ = false := hfr9 3; have hf9_4 : aj.frozen? ⟨a3, (a2 : Int).toNat * 7 + 4, none⟩ = false := hfr9 4; have hf9_5 : aj.frozen? ⟨a3, (a2 : Int).toNat * 7 + 5, none⟩ = false := hfr9 5; have hf9_6 : aj.frozen? ⟨a3, (a2 : Int).toNat * 7 + 6, none⟩ = false := hfr9 6; (try clear hM9); clear hcl9 hcc9 hfr9; replace p9 := eq_true p9; replace q9 := eq_true q9; have aM := Aside0.mk (show Kd.R k125 125 aj w0.heap.size (fun k_ => (P0_ k_ ∨ w.heap.size ≤ k_)) (.slice (some ⟨a3, 0, none⟩) a8.length am) aa from (kr ab.out)); obtain ⟨ce22, hcl22, hM22, hcc22, hfr22⟩ := Kd.R_elem aM.out z125 (a2 : Int) (oda) (by have h_ : (a2 : Int) < ((a8.length : Int) : Int) := oda; first | exact h_ | (have e_ := (Kd.R_reads' ab.out).1; omega) | simpa using h_); obtain rfl := k125_openM hM22; have aC := Kd.R_seg aM.out (a2 : Int) (oda) (by have h_ : (a2 : Int) < ((a8.length : Int) : Int) := oda; first | exact h_ | (have e_ := (Kd.R_reads' ab.out).1; omega) | simpa using h_) (seg := [.string al]) (j := 2) hcl22 hcc22 (show 3 ≤ 7 from by decide) (x' := (⟨(rd_T125 aa a2).f0, (⟨(rd_T125 aa a2).f1.f0, al, (rd_T125 aa a2).f1.f2⟩ : S122), (⟨(rd_T125 aa a2).f2.f0, (rd_T125 aa a2).f2.f1, (rd_T125 aa a2).f2.f2⟩ : S122)⟩ : S125)) (k125_mkM _ _ _ (⟨(rd_T125 aa a2).f0, (⟨(rd_T125 aa a2).f1.f0, al, (rd_T125 aa a2).f1.f2⟩ : S122), (⟨(rd_T125 aa a2).f2.f0, (rd_T125 aa a2).f2.f1, (rd_T125 aa a2).f2.f2⟩ : S122)⟩ : S125) ) (fun _ hk => hk); have b2 := hcc22 2 _ rfl; (try simp only [show (k125).sz = 7 from rfl, Nat.mul_one, Nat.add_zero] at b2); have hf22_2 := hfr22 2; (try simp only [show (k125).sz = 7 from rfl, Nat.mul_one, Nat.add_zero] at hf22_2); (try clear hM22); clear hcl22 hcc22 hfr22) | ((with_reducible refine gate_store (t := 9) (p := 36) rfl ?_); refine store_event (t := 9) (p := 36) (v := ?vo_w23) (w1 := (aj.setCell ⟨a3, (a2 : Int).toNat * 7 + 2, none⟩ (.string al))) ?hg ?ho ?hn ?hr ?_; (case ho => rfl); (case hg => rfl); (case hn => rfl); (case hr => first | (go_simp; done) | (go_simp; rfl)); intro af hw; have hg : aj.grownBy af (some a3) := (by rw [hw]; exact aC.2); have hp_ : Kd.R k125 125 af w0.heap.size (fun k_ => (P0_ k_ ∨ w.heap.size ≤ k_)) (.slice (some ⟨a3, 0, none⟩) a8.length am) a7 := (by rw [hw, aU.out]; exact aC.1); clear aC; refine Ya3 (hp_) ((by rw [hw]; exact below_set (HB.out) ao.out : Below w0.heap.size w0 af)) (Kept.of_grown (S := (fun k_ => P0_ k_)) hg (by repeat (first | (with_reducible first | exact HK.out | apply Kept.alloc | apply Kept.drewN | apply Kept.drew) | exact HK.out)) (fun k_ e_ => (ab.out.1 k_ e_))) ?_; clear ab HB HK; intro ab HB HK; clear hg hw hp_; have p10 : 0 ≤ (a2 : Int) := oda; have q10 : (a2 : Int) < ((a8.length : Int) : Int) := oda; obtain ⟨ce10, hcl10, hM10, hcc10, hfr10⟩ := Kd.R_elem ab.out z125 (a2 : Int) p10 q10; obtain rfl := k125_openM hM10; have b8 : af.cell? ⟨a3, (a2 : Int).toNat * 7, none⟩ = some (.string ((rd_T125 a7 a2).f0)) := hcc10 0 _ rfl; have b9 : af.cell? ⟨a3, (a2 : Int).toNat * 7 + 1, none⟩ = some (.bool ((rd_T125 a7 a2).f1.f0)) := hcc10 1 _ rfl; have ba : af.cell? ⟨a3, (a2 : Int).toNat * 7 + 2, none⟩ = some (.string ((rd_T125 a7 a2).f1.f1)) := hcc10 2 _ rfl; have bd : af.cell? ⟨a3, (a2 : Int).toNat * 7 + 3, none⟩ = some (.bool ((rd_T125 a7 a2).f1.f2)) := hcc10 3 _ rfl; have bg : af.cell? ⟨a3, (a2 : Int).toNat * 7 + 4, none⟩ = some (.bool ((rd_T125 a7 a2).f2.f0)) := hcc10 4 _ rfl; have bh : af.cell? ⟨a3, (a2 : Int).toNat * 7 + 5, none⟩ = some (.string ((rd_T125 a7 a2).f2.f1)) := hcc10 5 _ rfl; have bi : af.cell? ⟨a3, (a2 : Int).toNat * 7 + 6, none⟩ = some (.bool ((rd_T125 a7 a2).f2.f2)) := hcc10 6 _ rfl; have hf10_0 : af.frozen? ⟨a3, (a2 : Int).toNat * 7, none⟩ = false := hfr10 0; have hf10_1 : af.frozen? ⟨a3, (a2 : Int).toNat * 7 + 1, none⟩ = false := hfr10 1; have hf10_2 : af.frozen? ⟨a3, (a2 : Int).toNat * 7 + 2, none⟩ = false := hfr10 2; have hf10_3 : af.frozen? ⟨a3, (a2 : Int).toNat * 7 + 3, none⟩ = false := hfr10 3; have hf10_4 : af.frozen? ⟨a3, (a2 : Int).toNat * 7 + 4, none⟩ = false := hfr10 4; have hf10_5 : af.frozen? ⟨a3, (a2 : Int).toNat * 7 + 5, none⟩ = false := hfr10 5; have hf10_6 : af.frozen? ⟨a3, (a2 : Int).toNat * 7 + 6, none⟩ = false := hfr10 6; (try clear hM10); clear hcl10 hcc10 hfr10; replace p10 := eq_true p10; replace q10 := eq_true q10; have aN := Aside0.mk (show Kd.R k125 125 af w0.heap.size (fun k_ => (P0_ k_ ∨ w.heap.size ≤ k_)) (.slice (some ⟨a3, 0, none⟩) a8.length am) a7 from (kr ab.out)); obtain ⟨ce24, hcl24, hM24, hcc24, hfr24⟩ := Kd.R_elem aN.out z125 (a2 : Int) (oda) (by have h_ : (a2 : Int) < ((a8.length : Int) : Int) := oda; first | exact h_ | (have e_ := (Kd.R_reads' ab.out).1; omega) | simpa using h_); obtain rfl := k125_openM hM24; have aD := Kd.R_seg aN.out (a2 : Int) (oda) (by have h_ : (a2 : Int) < ((a8.length : Int) : Int) := oda; first | exact h_ | (have e_ := (Kd.R_reads' ab.out).1; omega) | simpa using h_) (seg := [.bool ((Int.tmod (wrap64 ((wrap64 ((wrap64 (a9 + 1)) + 1)) + 1)) 3) == 0)]) (j := 3) hcl24 hcc24 (show 4 ≤ 7 from by decide) (x' := (⟨(rd_T125 a7 a2).f0, (⟨(rd_T125 a7 a2).f1.f0, (rd_T125 a7 a2).f1.f1, ((Int.tmod (wrap64 ((wrap64 ((wrap64 (a9 + 1)) + 1)) + 1)) 3) == 0)⟩ : S122), (⟨(rd_T125 a7 a2).f2.f0, (rd_T125 a7 a2).f2.f1, (rd_T125 a7 a2).f2.f2⟩ : S122)⟩ : S125)) (k125_mkM _ _ _ (⟨(rd_T125 a7 a2).f0, (⟨(rd_T125 a7 a2).f1.f0, (rd_T125 a7 a2).f1.f1, ((Int.tmod (wrap64 ((wrap64 ((wrap64 (a9 + 1)) + 1)) + 1)) 3) == 0)⟩ : S122), (⟨(rd_T125 a7 a2).f2.f0, (rd_T125 a7 a2).f2.f1, (rd_T125 a7 a2).f2.f2⟩ : S122)⟩ : S125) ) (fun _ hk => hk); have b3 := hcc24 3 _ rfl; (try simp only [show (k125).sz = 7 from rfl, Nat.mul_one, Nat.add_zero] at b3); have hf24_3 := hfr24 3; (try simp only [show (k125).sz = 7 from rfl, Nat.mul_one, Nat.add_zero] at hf24_3); (try clear hM24); clear hcl24 hcc24 hfr24) | ((with_reducible refine gate_store (t := 4) (p := 46) rfl ?_); refine store_event (t := 4) (p := 46) (v := ?vo_w25) (w1 := (af.setCell ⟨a3, (a2 : Int).toNat * 7 + 3, none⟩ (.bool ((Int.tmod (wrap64 ((wrap64 ((wrap64 (a9 + 1)) + 1)) + 1)) 3) == 0)))) ?hg ?ho ?hn ?hr ?_; (case ho => rfl); (case hg => rfl); (case hn => rfl); (case hr => first | (go_simp; done) | (go_simp; rfl)); intro ag hw; have hg : af.grownBy ag (some a3) := (by rw [hw]; exact aD.2); have hp_ : Kd.R k125 125 ag w0.heap.size (fun k_ => (P0_ k_ ∨ w.heap.size ≤ k_)) (.slice (some ⟨a3, 0, none⟩) a8.length am) a6 := (by rw [hw, aV.out]; exact aD.1); clear aD; refine Ya3 (hp_) ((by rw [hw]; exact below_set (HB.out) ao.out : Below w0.heap.size w0 ag)) (Kept.of_grown (S := (fun k_ => P0_ k_)) hg (by repeat (first | (with_reducible first | exact HK.out | apply Kept.alloc | apply Kept.drewN | apply Kept.drew) | exact HK.out)) (fun k_ e_ => (ab.out.1 k_ e_))) ?_; clear ab HB HK; intro ab HB HK; clear hg hw hp_; have p11 : 0 ≤ (a2 : Int) := oda; have q11 : (a2 : Int) < ((a8.length : Int) : Int) := oda; obtain ⟨ce11, hcl11, hM11, hcc11, hfr11⟩ := Kd.R_elem ab.out z125 (a2 : Int) p11 q11; obtain rfl := k125_openM hM11; have bj : ag.cell? ⟨a3, (a2 : Int).toNat * 7, none⟩ = some (.string ((rd_T125 a6 a2).f0)) := hcc11 0 _ rfl; have bm : ag.cell? ⟨a3, (a2 : Int).toNat * 7 + 1, none⟩ = some (.bool ((rd_T125 a6 a2).f1.f0)) := hcc11 1 _ rfl; have bn : ag.cell? ⟨a3, (a2 : Int).toNat * 7 + 2, none⟩ = some (.string ((rd_T125 a6 a2).f1.f1)) := hcc11 2 _ rfl; have bo : ag.cell? ⟨a3, (a2 : Int).toNat * 7 + 3, none⟩ = some (.bool ((rd_T125 a6 a2).f1.f2)) := hcc11 3 _ rfl; have bq : ag.cell? ⟨a3, (a2 : Int).toNat * 7 + 4, none⟩ = some (.bool ((rd_T125 a6 a2).f2.f0)) := hcc11 4 _ rfl; have bu : ag.cell? ⟨a3, (a2 : Int).toNat * 7 + 5, none⟩ = some (.string ((rd_T125 a6 a2).f2.f1)) := hcc11 5 _ rfl; have bv : ag.cell? ⟨a3, (a2 : Int).toNat * 7 + 6, none⟩ = some (.bool ((rd_T125 a6 a2).f2.f2)) := hcc11 6 _ rfl; have hf11_0 : ag.frozen? ⟨a3, (a2 : Int).toNat * 7, none⟩ = false := hfr11 0; have hf11_1 : ag.frozen? ⟨a3, (a2 : Int).toNat * 7 + 1, none⟩ = false := hfr11 1; have hf11_2 : ag.frozen? ⟨a3, (a2 : Int).toNat * 7 + 2, none⟩ = false := hfr11 2; have hf11_3 : ag.frozen? ⟨a3, (a2 : Int).toNat * 7 + 3, none⟩ = false := hfr11 3; have hf11_4 : ag.frozen? ⟨a3, (a2 : Int).toNat * 7 + 4, none⟩ = false := hfr11 4; have hf11_5 : ag.frozen? ⟨a3, (a2 : Int).toNat * 7 + 5, none⟩ = false := hfr11 5; have hf11_6 : ag.frozen? ⟨a3, (a2 : Int).toNat * 7 + 6, none⟩ = false := hfr11 6; (try clear hM11); clear hcl11 hcc11 hfr11; replace p11 := eq_true p11; replace q11 := eq_true q11; have aO := Aside0.mk (show Kd.R k125 125 ag w0.heap.size (fun k_ => (P0_ k_ ∨ w.heap.size ≤ k_)) (.slice (some ⟨a3, 0, none⟩) a8.length am) a6 from (kr ab.out)); obtain ⟨ce26, hcl26, hM26, hcc26, hfr26⟩ := Kd.R_elem aO.out z125 (a2 : Int) (oda) (by have h_ : (a2 : Int) < ((a8.length : Int) : Int) := oda; first | exact h_ | (have e_ := (Kd.R_reads' ab.out).1; omega) | simpa using h_); obtain rfl := k125_openM hM26; have aE := Kd.R_seg aO.out (a2 : Int) (oda) (by have h_ : (a2 : Int) < ((a8.length : Int) : Int) := oda; first | exact h_ | (have e_ := (Kd.R_reads' ab.out).1; omega) | simpa using h_) (seg := [.bool ((Int.tmod (wrap64 ((wrap64 ((wrap64 ((wrap64 (a9 + 1)) + 1)) + 1)) + 1)) 3) == 0)]) (j := 4) hcl26 hcc26 (show 5 ≤ 7 from by decide) (x' := (⟨(rd_T125 a6 a2).f0, (⟨(rd_T125 a6 a2).f1.f0, (rd_T125 a6 a2).f1.f1, (rd_T125 a6 a2).f1.f2⟩ : S122), (⟨((Int.tmod (wrap64 ((wrap64 ((wrap64 ((wrap64 (a9 + 1)) + 1)) + 1)) + 1)) 3) == 0), (rd_T125 a6 a2).f2.f1, (rd_T125 a6 a2).f2.f2⟩ : S122)⟩ : S125)) (k125_mkM _ _ _ (⟨(rd_T125 a6 a2).f0, (⟨(rd_T125 a6 a2).f1.f0, (rd_T125 a6 a2).f1.f1, (rd_T125 a6 a2).f1.f2⟩ : S122), (⟨((Int.tmod (wrap64 ((wrap64 ((wrap64 ((wrap64 (a9 + 1)) + 1)) + 1)) + 1)) 3) == 0), (rd_T125 a6 a2).f2.f1, (rd_T125 a6 a2).f2.f2⟩ : S122)⟩ : S125) ) (fun _ hk => hk); have b4 := hcc26 4 _ rfl; (try simp only [show (k125).sz = 7 from rfl, Nat.mul_one, Nat.add_zero] at b4); have hf26_4 := hfr26 4; (try simp only [show (k125).sz = 7 from rfl, Nat.mul_one, Nat.add_zero] at hf26_4); (try clear hM26); clear hcl26 hcc26 hfr26) | ((with_reducible refine gate_store (t := 4) (p := 56) rfl ?_); refine store_event (t := 4) (p := 56) (v := ?vo_w27) (w1 := (ag.setCell ⟨a3, (a2 : Int).toNat * 7 + 4, none⟩ (.bool ((Int.tmod (wrap64 ((wrap64 ((wrap64 ((wrap64 (a9 + 1)) + 1)) + 1)) + 1)) 3) == 0)))) ?hg ?ho ?hn ?hr ?_; (case ho => rfl); (case hg => rfl); (case hn => rfl); (case hr => first | (go_simp; done) | (go_simp; rfl)); intro aF hw; have hg : ag.grownBy aF (some a3) := (by rw [hw]; exact aE.2); have hp_ : Kd.R k125 125 aF w0.heap.size (fun k_ => (P0_ k_ ∨ w.heap.size ≤ k_)) (.slice (some ⟨a3, 0, none⟩) a8.length am) a5 := (by rw [hw, aW.out]; exact aE.1); clear aE; refine Ya3 (hp_) ((by rw [hw]; exact below_set (HB.out) ao.out : Below w0.heap.size w0 aF)) (Kept.of_grown (S := (fun k_ => P0_ k_)) hg (by repeat (first | (with_reducible first | exact HK.out | apply Kept.alloc | apply Kept.drewN | apply Kept.drew) | exact HK.out)) (fun k_ e_ => (ab.out.1 k_ e_))) ?_; clear ab HB HK; intro ab HB HK; clear hg hw hp_) | ((with_reducible refine gc 144 rfl ?_); refine gl (some 62) _ (#[.int .i64 (wrap64 ((wrap64 ((wrap64 ((wrap64 ((wrap64 (a9 + 1)) + 1)) + 1)) + 1)) + 1))]) Tryd.func144 ?_; (with_reducible refine (laws_markText.calls k1 (wrap64 ((wrap64 ((wrap64 ((wrap64 ((wrap64 (a9 + 1)) + 1)) + 1)) + 1)) + 1)) ad _ A12.out).mono ?_); rintro e ak ⟨rfl, hb⟩; refine ⟨_, rfl, ?_⟩; refine Ya3 (Kd.R_below (kr ab.out) hb) (Kept.below (S := (fun k_ => P0_ k_)) (by repeat (first | (with_reducible first | exact HK.out | apply Kept.alloc | apply Kept.drewN | apply Kept.drew) | exact HK.out)) hb) (below_step (be HB.out) hb) ?_; clear ab HK HB; intro ab HK HB; (try clear hb); (try clear hb2); (try clear hk); (try clear hi); have p13 : 0 ≤ (a2 : Int) := oda; have q13 : (a2 : Int) < ((a8.length : Int) : Int) := oda; obtain ⟨ce13, hcl13, hM13, hcc13, hfr13⟩ := Kd.R_elem ab.out z125 (a2 : Int) p13 q13; obtain rfl := k125_openM hM13; have bw : ak.cell? ⟨a3, (a2 : Int).toNat * 7, none⟩ = some (.string ((rd_T125 a5 a2).f0)) := hcc13 0 _ rfl; have bz : ak.cell? ⟨a3, (a2 : Int).toNat * 7 + 1, none⟩ = some (.bool ((rd_T125 a5 a2).f1.f0)) := hcc13 1 _ rfl; have bA : ak.cell? ⟨a3, (a2 : Int).toNat * 7 + 2, none⟩ = some (.string ((rd_T125 a5 a2).f1.f1)) := hcc13 2 _ rfl; have bB : ak.cell? ⟨a3, (a2 : Int).toNat * 7 + 3, none⟩ = some (.bool ((rd_T125 a5 a2).f1.f2)) := hcc13 3 _ rfl; have bC : ak.cell? ⟨a3, (a2 : Int).toNat * 7 + 4, none⟩ = some (.bool ((rd_T125 a5 a2).f2.f0)) := hcc13 4 _ rfl; have bD : ak.cell? ⟨a3, (a2 : Int).toNat * 7 + 5, none⟩ = some (.string ((rd_T125 a5 a2).f2.f1)) := hcc13 5 _ rfl; have bE : ak.cell? ⟨a3, (a2 : Int).toNat * 7 + 6, none⟩ = some (.bool ((rd_T125 a5 a2).f2.f2)) := hcc13 6 _ rfl; have hf13_0 : ak.frozen? ⟨a3, (a2 : Int).toNat * 7, none⟩ = false := hfr13 0; have hf13_1 : ak.frozen? ⟨a3, (a2 : Int).toNat * 7 + 1, none⟩ = false := hfr13 1; have hf13_2 : ak.frozen? ⟨a3, (a2 : Int).toNat * 7 + 2, none⟩ = false := hfr13 2; have hf13_3 : ak.frozen? ⟨a3, (a2 : Int).toNat * 7 + 3, none⟩ = false := hfr13 3; have hf13_4 : ak.frozen? ⟨a3, (a2 : Int).toNat * 7 + 4, none⟩ = false := hfr13 4; have hf13_5 : ak.frozen? ⟨a3, (a2 : Int).toNat * 7 + 5, none⟩ = false := hfr13 5; have hf13_6 : ak.frozen? ⟨a3, (a2 : Int).toNat * 7 + 6, none⟩ = false := hfr13 6; (try clear hM13); clear hcl13 hcc13 hfr13; replace p13 := eq_true p13; replace q13 := eq_true q13; have aP := Aside0.mk (show Kd.R k125 125 ak w0.heap.size (fun k_ => (P0_ k_ ∨ w.heap.size ≤ k_)) (.slice (some ⟨a3, 0, none⟩) a8.length am) a5 from (kr ab.out)); obtain ⟨ce29, hcl29, hM29, hcc29, hfr29⟩ := Kd.R_elem aP.out z125 (a2 : Int) (oda) (by have h_ : (a2 : Int) < ((a8.length : Int) : Int) := oda; first | exact h_ | (have e_ := (Kd.R_reads' ab.out).1; omega) | simpa using h_); obtain rfl := k125_openM hM29; have aG := Kd.R_seg aP.out (a2 : Int) (oda) (by have h_ : (a2 : Int) < ((a8.length : Int) : Int) := oda; first | exact h_ | (have e_ := (Kd.R_reads' ab.out).1; omega) | simpa using h_) (seg := [.string ad]) (j := 5) hcl29 hcc29 (show 6 ≤ 7 from by decide) (x' := (⟨(rd_T125 a5 a2).f0, (⟨(rd_T125 a5 a2).f1.f0, (rd_T125 a5 a2).f1.f1, (rd_T125 a5 a2).f1.f2⟩ : S122), (⟨(rd_T125 a5 a2).f2.f0, ad, (rd_T125 a5 a2).f2.f2⟩ : S122)⟩ : S125)) (k125_mkM _ _ _ (⟨(rd_T125 a5 a2).f0, (⟨(rd_T125 a5 a2).f1.f0, (rd_T125 a5 a2).f1.f1, (rd_T125 a5 a2).f1.f2⟩ : S122), (⟨(rd_T125 a5 a2).f2.f0, ad, (rd_T125 a5 a2).f2.f2⟩ : S122)⟩ : S125) ) (fun _ hk => hk); have b5 := hcc29 5 _ rfl; (try simp only [show (k125).sz = 7 from rfl, Nat.mul_one, Nat.add_zero] at b5); have hf29_5 := hfr29 5; (try simp only [show (k125).sz = 7 from rfl, Nat.mul_one, Nat.add_zero] at hf29_5); (try clear hM29); clear hcl29 hcc29 hfr29) | ((with_reducible refine gate_store (t := 9) (p := 65) rfl ?_); refine store_event (t := 9) (p := 65) (v := ?vo_w30) (w1 := (ak.setCell ⟨a3, (a2 : Int).toNat * 7 + 5, none⟩ (.string ad))) ?hg ?ho ?hn ?hr ?_; (case ho => rfl); (case hg => rfl); (case hn => rfl); (case hr => first | (go_simp; done) | (go_simp; rfl)); intro ah hw; have hg : ak.grownBy ah (some a3) := (by rw [hw]; exact aG.2); have hp_ : Kd.R k125 125 ah w0.heap.size (fun k_ => (P0_ k_ ∨ w.heap.size ≤ k_)) (.slice (some ⟨a3, 0, none⟩) a8.length am) a4 := (by rw [hw, aX.out]; exact aG.1); clear aG; refine Ya3 (hp_) ((by rw [hw]; exact below_set (HB.out) ao.out : Below w0.heap.size w0 ah)) (Kept.of_grown (S := (fun k_ => P0_ k_)) hg (by repeat (first | (with_reducible first | exact HK.out | apply Kept.alloc | apply Kept.drewN | apply Kept.drew) | exact HK.out)) (fun k_ e_ => (ab.out.1 k_ e_))) ?_; clear ab HB HK; intro ab HB HK; clear hg hw hp_; have p14 : 0 ≤ (a2 : Int) := oda; have q14 : (a2 : Int) < ((a8.length : Int) : Int) := oda; obtain ⟨ce14, hcl14, hM14, hcc14, hfr14⟩ := Kd.R_elem ab.out z125 (a2 : Int) p14 q14; obtain rfl := k125_openM hM14; have bF : ah.cell? ⟨a3, (a2 : Int).toNat * 7, none⟩ = some (.string ((rd_T125 a4 a2).f0)) := hcc14 0 _ rfl; have bG : ah.cell? ⟨a3, (a2 : Int).toNat * 7 + 1, none⟩ = some (.bool ((rd_T125 a4 a2).f1.f0)) := hcc14 1 _ rfl; have bH : ah.cell? ⟨a3, (a2 : Int).toNat * 7 + 2, none⟩ = some (.string ((rd_T125 a4 a2).f1.f1)) := hcc14 2 _ rfl; have bI : ah.cell? ⟨a3, (a2 : Int).toNat * 7 + 3, none⟩ = some (.bool ((rd_T125 a4 a2).f1.f2)) := hcc14 3 _ rfl; have bJ : ah.cell? ⟨a3, (a2 : Int).toNat * 7 + 4, none⟩ = some (.bool ((rd_T125 a4 a2).f2.f0)) := hcc14 4 _ rfl; have bK : ah.cell? ⟨a3, (a2 : Int).toNat * 7 + 5, none⟩ = some (.string ((rd_T125 a4 a2).f2.f1)) := hcc14 5 _ rfl; have bL : ah.cell? ⟨a3, (a2 : Int).toNat * 7 + 6, none⟩ = some (.bool ((rd_T125 a4 a2).f2.f2)) := hcc14 6 _ rfl; have hf14_0 : ah.frozen? ⟨a3, (a2 : Int).toNat * 7, none⟩ = false := hfr14 0; have hf14_1 : ah.frozen? ⟨a3, (a2 : Int).toNat * 7 + 1, none⟩ = false := hfr14 1; have hf14_2 : ah.frozen? ⟨a3, (a2 : Int).toNat * 7 + 2, none⟩ = false := hfr14 2; have hf14_3 : ah.frozen? ⟨a3, (a2 : Int).toNat * 7 + 3, none⟩ = false := hfr14 3; have hf14_4 : ah.frozen? ⟨a3, (a2 : Int).toNat * 7 + 4, none⟩ = false := hfr14 4; have hf14_5 : ah.frozen? ⟨a3, (a2 : Int).toNat * 7 + 5, none⟩ = false := hfr14 5; have hf14_6 : ah.frozen? ⟨a3, (a2 : Int).toNat * 7 + 6, none⟩ = false := hfr14 6; (try clear hM14); clear hcl14 hcc14 hfr14; replace p14 := eq_true p14; replace q14 := eq_true q14; have aQ := Aside0.mk (show Kd.R k125 125 ah w0.heap.size (fun k_ => (P0_ k_ ∨ w.heap.size ≤ k_)) (.slice (some ⟨a3, 0, none⟩) a8.length am) a4 from (kr ab.out)); obtain ⟨ce31, hcl31, hM31, hcc31, hfr31⟩ := Kd.R_elem aQ.out z125 (a2 : Int) (oda) (by have h_ : (a2 : Int) < ((a8.length : Int) : Int) := oda; first | exact h_ | (have e_ := (Kd.R_reads' ab.out).1; omega) | simpa using h_); obtain rfl := k125_openM hM31; have aH := Kd.R_seg aQ.out (a2 : Int) (oda) (by have h_ : (a2 : Int) < ((a8.length : Int) : Int) := oda; first | exact h_ | (have e_ := (Kd.R_reads' ab.out).1; omega) | simpa using h_) (seg := [.bool ((Int.tmod (wrap64 ((wrap64 ((wrap64 ((wrap64 ((wrap64 ((wrap64 (a9 + 1)) + 1)) + 1)) + 1)) + 1)) + 1)) 3) == 0)]) (j := 6) hcl31 hcc31 (show 7 ≤ 7 from by decide) (x' := (⟨(rd_T125 a4 a2).f0, (⟨(rd_T125 a4 a2).f1.f0, (rd_T125 a4 a2).f1.f1, (rd_T125 a4 a2).f1.f2⟩ : S122), (⟨(rd_T125 a4 a2).f2.f0, (rd_T125 a4 a2).f2.f1, ((Int.tmod (wrap64 ((wrap64 ((wrap64 ((wrap64 ((wrap64 ((wrap64 (a9 + 1)) + 1)) + 1)) + 1)) + 1)) + 1)) 3) == 0)⟩ : S122)⟩ : S125)) (k125_mkM _ _ _ (⟨(rd_T125 a4 a2).f0, (⟨(rd_T125 a4 a2).f1.f0, (rd_T125 a4 a2).f1.f1, (rd_T125 a4 a2).f1.f2⟩ : S122), (⟨(rd_T125 a4 a2).f2.f0, (rd_T125 a4 a2).f2.f1, ((Int.tmod (wrap64 ((wrap64 ((wrap64 ((wrap64 ((wrap64 ((wrap64 (a9 + 1)) + 1)) + 1)) + 1)) + 1)) + 1)) 3) == 0)⟩ : S122)⟩ : S125) ) (fun _ hk => hk); have b6 := hcc31 6 _ rfl; (try simp only [show (k125).sz = 7 from rfl, Nat.mul_one, Nat.add_zero] at b6); have hf31_6 := hfr31 6; (try simp only [show (k125).sz = 7 from rfl, Nat.mul_one, Nat.add_zero] at hf31_6); (try clear hM31); clear hcl31 hcc31 hfr31) | ((with_reducible refine gate_store (t := 4) (p := 75) rfl ?_); refine store_event (t := 4) (p := 75) (v := ?vo_w32) (w1 := (ah.setCell ⟨a3, (a2 : Int).toNat * 7 + 6, none⟩ (.bool ((Int.tmod (wrap64 ((wrap64 ((wrap64 ((wrap64 ((wrap64 ((wrap64 (a9 + 1)) + 1)) + 1)) + 1)) + 1)) + 1)) 3) == 0)))) ?hg ?ho ?hn ?hr ?_; (case ho => rfl); (case hg => rfl); (case hn => rfl); (case hr => first | (go_simp; done) | (go_simp; rfl)); intro aI hw; have hg : ah.grownBy aI (some a3) := (by rw [hw]; exact aH.2); have hp_ : Kd.R k125 125 aI w0.heap.size (fun k_ => (P0_ k_ ∨ w.heap.size ≤ k_)) (.slice (some ⟨a3, 0, none⟩) a8.length am) ay := (by rw [hw, aY.out]; exact aH.1); clear aH; refine Ya3 (hp_) ((by rw [hw]; exact below_set (HB.out) ao.out : Below w0.heap.size w0 aI)) (Kept.of_grown (S := (fun k_ => P0_ k_)) hg (by repeat (first | (with_reducible first | exact HK.out | apply Kept.alloc | apply Kept.drewN | apply Kept.drew) | exact HK.out)) (fun k_ e_ => (ab.out.1 k_ e_))) ?_; clear ab HB HK; intro ab HB HK; clear hg hw hp_))
     go_roundg k1
     case measure => have := HK1.out; omega
     case rel => exact ⟨(ay), (wrap64 ((wrap64 ((wrap64 ((wrap64 ((wrap64 ((wrap64 ((wrap64 (a9 + 1)) + 1)) + 1)) + 1)) + 1)) + 1)) + 1)), (wrap64 (a2 + 1)), Ye1, Ye1, H', ⟨by have := HK1.out; omega⟩, ⟨kr ab.out⟩, ⟨by repeat (first | (with_reducible first | exact HK.out | apply Kept.alloc | apply Kept.drewN | apply Kept.drew) | exact HK.out)⟩, ⟨be HB.out⟩⟩
    ·rw [if_neg c5] at H
     exact absurd H (by simp)
   ·rw [if_neg c3] at H
    have aR : decide (a2 < (a8.length : Int)) = false := decide_eq_false c3; clear c3; simp only [Option.some.injEq, Prod.mk.injEq] at H; obtain ⟨rfl, rfl⟩ := H; obtain ⟨Ao33, co33, b7⟩ := Kd.R_slice ab.out; subst b7
    go_wp2
    go_ret
    exact ⟨Ye2, kr ab.out, be HB.out, by repeat (first | (with_reducible first | exact HK.out | apply Kept.alloc | apply Kept.drewN | apply Kept.drew) | exact HK.out)⟩

end Go.Proofs.YtgnmledjkamojaaDoor.P


namespace Go.Proofs.YtgnmledjkamojaaDoor.P
open Go.RowKit Go.Proofs.YtgnmledjkamojaaDoorW.PrintWords Go.Proofs.YtgnmledjkamojaaDoorW.PrintLast Go.Proofs.YtgnmledjkamojaaDoorW.PrintMore
attribute [local go_sem] max2_int min2_int max_two min_two max_three min_three max_four min_four
set_option linter.unusedVariables false
set_option linter.unusedSimpArgs false

/-! ### laws_markPatch: function 38 -/
def laws_markPatch.f (k : Nat) (a2 : List (S125)) (a1 : Int) : Option (Int × (List (S125))) := (laws_markChangeS.f k a2 a1).bind fun bt971 => (some (bt971.1, bt971.2))
theorem laws_markPatch.mono : ∀ a0 a1 k, LeO (laws_markPatch.f k a0 a1) (laws_markPatch.f (k + 1) a0 a1) := by
 intro a0 a1 k
 unfold laws_markPatch.f
 repeat' first
   | (with_reducible exact laws_markChangeS.mono _ _ _)
   | (with_reducible exact LeO.refl _)
   | (with_reducible exact LeO.none _)
   | (with_reducible refine LeO.ite ?_ ?_)
   | (with_reducible refine LeO.bind ?_ (fun _ => ?_))
   | exact laws_markChangeS.mono _ _ _
   | exact LeO.none _
   | refine LeO.ite ?_ ?_
   | refine LeO.bind ?_ (fun _ => ?_)
set_option maxHeartbeats 8000000 in
set_option maxRecDepth 100000 in
theorem laws_markPatch.calls (k : Nat) (P0_0_ : Nat → Prop) (u9000_ : Value) (a2 : List (S125)) (a1 : Int) (r1 : Int) (r2 : List (S125)) (w0 w : World) (hB : Below w0.heap.size w0 w) (ho0_0 : Kd.R k125 125 w w0.heap.size P0_0_ u9000_ a2) (h : laws_markPatch.f k a2 a1 = some (r1, r2)) :
  Calls Tryd.prog 38 #[.agg #[u9000_], .int .i64 a1] w fun e w' => e = .returned (.int .i64 r1) ∧ Kd.R k125 125 w' w0.heap.size (fun k_ => (P0_0_ k_ ∨ w.heap.size ≤ k_)) u9000_ r2 ∧ Below w0.heap.size w0 w' ∧ Kept w w' (fun k_ => P0_0_ k_) := by
 have hu56 := Tryd.underlying56; have a3 := Aside0.mk (show Kd.R k125 125 w w0.heap.size (fun k_ => (P0_0_ k_ ∨ w.heap.size ≤ k_)) u9000_ a2 from Kd.R_mono ho0_0 (fun k_ hk => (.inl hk))); have HK := Aside0.mk (Kept.refl w (fun k_ => P0_0_ k_)); have HW0 := Aside0.mk hB.size; have HB := Aside0.mk hB; clear hB; have H : ((laws_markChangeS.f k a2 a1).bind fun bt971 => (some (bt971.1, bt971.2))) = some (r1, r2) := h; clear h; replace H := Option.bind_eq_some_iff.mp H; obtain ⟨⟨a7, a8⟩, A30, H⟩ := H; replace H : (some (a7, a8)) = some (r1, r2) := H; have A3 := Aside0.mk A30; clear A30; simp only [Option.some.injEq, Prod.mk.injEq] at H; obtain ⟨rfl, rfl⟩ := H; obtain ⟨a5, a6, eo4⟩ := Kd.R_slice a3.out; subst eo4
 go_enter Tryd.func38, Tryd.ntmps38
 go_wp2_with (first | ((with_reducible refine gd 2 rfl ?_); refine bx 2 56 (#[.slice a5 a2.length a6]) ?_; intro a9 hg w5 hbox hb; refine Ya6 (Kd.R_below (kr a3.out) hb) (Kept.below (S := (fun k_ => P0_0_ k_)) (by repeat (first | (with_reducible first | exact HK.out | apply Kept.alloc | apply Kept.drewN | apply Kept.drew) | exact HK.out)) hb) (below_step (be HB.out) hb) (hbox) ((by rw [hg]; exact (by first | exact HK.out.1 | exact (show Kept w _ (fun k_ => P0_0_ k_) from by repeat (first | (with_reducible first | exact HK.out | apply Kept.alloc | apply Kept.drewN | apply Kept.drew) | exact HK.out)).1) : w.heap.size ≤ a9)) ((by rw [hg]; exact (below_size (be HB.out)) : w0.heap.size ≤ a9)) ?_; clear a3 HK HB; intro a3 HK HB a4 aa GE970; clear hb hbox hg; have ⟨ab, ac⟩ := Yc1 a4.out) | ((with_reducible refine gc 101 rfl ?_); refine gl (some 8) _ (#[.slice a5 a2.length a6, .int .i64 a1]) Tryd.func101 ?_; (with_reducible refine (laws_markChangeS.calls k (fun k_ => some k_ = (.slice a5 a2.length a6 : Value).ownBlock) (.slice a5 a2.length a6) a2 a1 a7 a8 w0 _ ?side1 ?side2 A3.out).mono ?_); (case side1 => exact bf HB.out); (case side2 => exact Kd.R_tight rfl a3.out); rintro e w7 ⟨rfl, hy0, hb, hkp⟩; refine ⟨_, rfl, ?_⟩; refine Ya4 (Kd.R_reok rfl hy0 (fun k_ e_ => a3.out.1 k_ e_)) (blk_kept (bk a4.out) hkp (fun hs_ => (fun e_ => (Kd.R_ne a3.out a4.out (by decide)) e_) hs_)) (Kept.then_ (S := (fun k_ => P0_0_ k_)) (by repeat (first | (with_reducible first | exact HK.out | apply Kept.alloc | apply Kept.drewN | apply Kept.drew | refine Kept.setCell ?_ (.inr aa.out) _) | exact HK.out)) hkp (fun k_ hs_ => (fun e_ => (a3.out.1 k_ e_.symm)) hs_)) (hb) ?_; clear a3 a4 HK HB; intro a3 a4 HK HB; (try clear hb); (try clear hkp); (try clear hy0)))
 go_ret
 exact ⟨Ye2, kr a3.out, (bf HB.out), by repeat (first | (with_reducible first | exact HK.out | apply Kept.alloc | apply Kept.drewN | apply Kept.drew | refine Kept.setCell ?_ (.inr aa.out) _) | exact HK.out)⟩

end Go.Proofs.YtgnmledjkamojaaDoor.P

