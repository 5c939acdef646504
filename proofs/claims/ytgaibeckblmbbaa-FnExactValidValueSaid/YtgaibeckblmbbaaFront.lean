/- What stands at the front of some bytes, in the reference and in the program. Conditions: sizes and the width. -/
import Derived.Test.YtgaibeckblmbbaaPImplFront
import Derived.Test.YtgaibeckblmbbaaPImplShort
import Derived.Test.YtgaibeckblmbbaaPSpecL3Front
import Derived.Test.YtgaibeckblmbbaaSum
import Derived.Test.YtgaibeckblmbbaaShort
import Derived.Lib.Strings
namespace Go.Proofs.Ytgaibeckblmbbaa.Pure
open Go Go.RowKit Go.Proofs.Ytgaibeckblmbbaa.P Go.Proofs.YtgaibeckblmbbaaW.PrintWords Go.Proofs.YtgaibeckblmbbaaW.PrintLast
set_option linter.unusedVariables false
set_option linter.unusedSimpArgs false

/-- A frame whose number is n and has h bytes. -/
def body (s : ByteArray) (w n h : Int) : Int × ByteArray × Int :=
  if 1 ≤ n ∧ n ≤ 1000 then
    if (s.size : Int) < h + n + w then (0, ⟨#[]⟩, 0)
    else if (sumOf (s.extract h.toNat (h + n).toNat) w).toList = (s.extract (h + n).toNat (h + n + w).toNat).toList then (1, s.extract h.toNat (h + n).toNat, h + n + w) else (2, ⟨#[]⟩, 0)
  else (2, ⟨#[]⟩, 0)
def front (s : ByteArray) (w : Int) : Int × ByteArray × Int :=
  if s.size = 0 then (0, ⟨#[]⟩, 0)
  else if bt s 0 < 128 then body s w (bt s 0) 1
  else if s.size = 1 then (0, ⟨#[]⟩, 0)
  else if bt s 1 = 0 ∨ bt s 1 ≥ 128 then (2, ⟨#[]⟩, 0)
  else body s w (bt s 0 - 128 + 128 * bt s 1) 2

theorem extract_size (s : ByteArray) (i j : Nat) (h : j ≤ s.size) : (s.extract i j).size = j - i := by
  rw [ByteArray.size_extract]
  omega
theorem impl_body_ev (s : ByteArray) (hs : s.size ≤ 140737488351232) (w n h : Int) (hw : 1 ≤ w ∧ w ≤ 8) (hn : -1000 ≤ n ∧ n ≤ 100000) (hh : 0 ≤ h ∧ h ≤ 2) : Ev (fun k => impl_front.j0 k s w n h) (body s w n h) := by
  refine Ev.step (fun k => impl_front.j0.eq_2 ..) ?_
  rw [impl_in_eq]
  unfold body
  refine Ev.sb ?_
  by_cases h1 : 1 ≤ n ∧ n ≤ 1000
  · rw [w64 (n := h + n) (by omega) (by omega), w64 (n := h + n + w) (by omega) (by omega)]
    refine Ev.pos (decide_eq_true h1) ?_
    rw [if_pos h1]
    by_cases h2 : (s.size : Int) < h + n + w
    · rw [if_pos h2]
      exact Ev.pos h2 (Ev.now _)
    · rw [if_neg h2]
      refine Ev.neg h2 (Ev.pos (by omega) (Ev.pos (by omega) (Ev.pos (by omega) ?_)))
      refine Ev.bind (ev_of _ (fun k hk => impl_Sum_eq (s.extract h.toNat (h + n).toNat) (by rw [extract_size _ _ _ (by omega)]; omega) w k hk)) ?_
      refine Ev.pos (by omega) (Ev.pos (by omega) (Ev.pos (by omega) ?_))
      exact Ev.both (fun _ => Ev.now _) (fun _ => Ev.now _)
  · rw [if_neg h1]
    exact Ev.neg (by simpa using h1) (Ev.now _)
theorem toList_nil {s : ByteArray} : s.toList = ([] : List UInt8) ↔ s.size = 0 := by
  rw [Lib.toList_data]
  constructor
  · intro h
    rw [← size_toList, h]
    rfl
  · intro h
    rw [← size_toList] at h
    exact List.eq_nil_of_length_eq_zero h
theorem and127 {x : Int} (h0 : 0 ≤ x) (h1 : x ≤ 255) : Go.bits .and .u8 x 127 = x % 128 := by
  rw [u8_and _ _ h0 (by omega) (by omega) (by omega), show (127 : Int).toNat = 2 ^ 7 - 1 from rfl, Nat.and_two_pow_sub_one_eq_mod]
  omega
theorem impl_front_ev (s : ByteArray) (hs : s.size ≤ 140737488351232) (w : Int) (hw : 1 ≤ w ∧ w ≤ 8) : Ev (fun k => impl_front.f k s w) (front s w) := by
  have b0 := bt_range s 0
  have b1 := bt_range s 1
  unfold impl_front.f front
  by_cases h0 : s.size = 0
  · rw [if_pos h0]
    exact Ev.pos (toList_nil.2 h0) (Ev.now _)
  · rw [if_neg h0]
    refine Ev.neg (fun h => h0 (toList_nil.1 h)) (Ev.pos (by omega) ?_)
    by_cases h1 : bt s 0 < 128
    · rw [if_pos h1, w64 (n := bt s 0) (by omega) (by omega)]
      exact Ev.neg (by omega) (impl_body_ev s hs w _ 1 hw (by omega) (by omega))
    · rw [if_neg h1]
      refine Ev.pos (by omega) ?_
      by_cases h2 : s.size = 1
      · rw [if_pos h2]
        exact Ev.pos (by omega) (Ev.now _)
      · rw [if_neg h2]
        refine Ev.neg (by omega) (Ev.pos (by omega) ?_)
        by_cases h3 : bt s 1 = 0
        · rw [if_pos (.inl h3)]
          exact Ev.pos h3 (Ev.now _)
        · refine Ev.neg h3 ?_
          by_cases h4 : bt s 1 ≥ 128
          · rw [if_pos (.inr h4)]
            exact Ev.pos h4 (Ev.now _)
          · rw [if_neg (by omega), and127 b0.1 b0.2, w64 (n := bt s 1) (by omega) (by omega), w64 (n := 128 * bt s 1) (by omega) (by omega), w64 (n := bt s 0 % 128) (by omega) (by omega), w64 (n := bt s 0 % 128 + 128 * bt s 1) (by omega) (by omega), show bt s 0 % 128 = bt s 0 - 128 from by omega]
            exact Ev.neg h4 (impl_body_ev s hs w _ 2 hw (by omega) (by omega))

/-! ### the reference's -/
theorem spec_body_ev (s : ByteArray) (hs : s.size ≤ 140737488351232) (w n h : Int) (hw : 1 ≤ w ∧ w ≤ 8) (hn : 1 ≤ n ∧ n ≤ 1000) (hh : 0 ≤ h ∧ h ≤ 2) : Ev (fun k => spec_l3Front.j1 k s w n h false) (body s w n h) := by
  refine Ev.step (fun k => spec_l3Front.j1.eq_2 ..) (Ev.neg (by simp) ?_)
  unfold body
  rw [w64 (n := h + n) (by omega) (by omega), w64 (n := h + n + w) (by omega) (by omega), if_pos hn]
  by_cases h2 : (s.size : Int) < h + n + w
  · rw [if_pos h2]
    exact Ev.pos h2 (Ev.now _)
  · rw [if_neg h2]
    refine Ev.neg h2 (Ev.pos (by omega) (Ev.pos (by omega) (Ev.pos (by omega) ?_)))
    refine Ev.bind (ev_of _ (fun k hk => spec_Sum_eq (s.extract h.toNat (h + n).toNat) (by rw [extract_size _ _ _ (by omega)]; omega) w k hk)) ?_
    refine Ev.pos (by omega) (Ev.pos (by omega) (Ev.pos (by omega) ?_))
    exact Ev.both (fun _ => Ev.now _) (fun _ => Ev.now _)
theorem spec_bad_ev (s : ByteArray) (w n h : Int) : Ev (fun k => spec_l3Front.j1 k s w n h true) (2, (⟨#[]⟩ : ByteArray), 0) :=
  Ev.step (fun k => spec_l3Front.j1.eq_2 ..) (Ev.pos rfl (Ev.now _))
theorem extract_data_take (s : ByteArray) (j : Nat) : (s.extract 0 j).data.toList = s.data.toList.take j := by
  simp [ByteArray.data_extract]
theorem bt_byte (s : ByteArray) (i : Nat) (h : i < s.size) : s.data.toList[i]? = some (UInt8.ofNat (bt s (i : Int)).toNat) := by
  rw [bt_getD, Int.toNat_natCast, List.getD_eq_getElem?_getD, List.getElem?_eq_getElem (by exact h)]
  simp
theorem take_one {α : Type} {l : List α} {a : α} (h0 : l[0]? = some a) : l.take 1 = [a] := by
  match l, h0 with
  | x :: r, h0 =>
    simp at h0
    simp [h0]
/-- The text of a short number of one byte, of two. -/
theorem short_one (s : ByteArray) (h : 0 < s.size) (hb : bt s 0 < 128) : shortS (bt s 0).toNat = s.extract 0 1 := by
  apply ba_ext
  have b0 := bt_range s 0
  rw [extract_data_take, shortS, shortN_small (by omega), son_data]
  have := bt_byte s 0 h
  rw [take_one this]
  simp only [List.map_cons, List.map_nil, Int.toNat_natCast]
  rfl
theorem take_two {α : Type} {l : List α} {a b : α} (h0 : l[0]? = some a) (h1 : l[1]? = some b) : l.take 2 = [a, b] := by
  match l, h0, h1 with
  | x :: y :: r, h0, h1 =>
    simp at h0 h1
    simp [h0, h1]
theorem short_two (s : ByteArray) (h : 1 < s.size) (h0 : 128 ≤ bt s 0) (h1 : 1 ≤ bt s 1) (h2 : bt s 1 < 128) : shortS (bt s 0 - 128 + 128 * bt s 1).toNat = s.extract 0 2 := by
  apply ba_ext
  have b0 := bt_range s 0
  have e0 := bt_byte s 0 (by omega)
  have e1 := bt_byte s 1 h
  rw [extract_data_take, shortS, shortN_more (by omega), shortN_small (by omega), son_data, take_two e0 e1]
  simp only [List.map_cons, List.map_nil, Int.toNat_natCast]
  congr 2
  · congr 1
    have : ((0 : Nat) : Int) = 0 := rfl
    rw [this]
    omega
  · congr 2
    have : ((1 : Nat) : Int) = 1 := rfl
    rw [this]
    omega
theorem short_not (s : ByteArray) (n : Nat) (h : 1 < s.size) (hn : n < 128) : ¬ (shortS n).toList = (s.extract 0 2).toList := by
  rw [Lib.toList_data, Lib.toList_data, extract_data_take, shortS, shortN_small hn, son_data]
  intro he
  have := congrArg List.length he
  rw [List.length_take, size_toList] at this
  simp at this
  omega
theorem spec_front_ev (s : ByteArray) (hs : s.size ≤ 140737488351232) (w : Int) (hw : 1 ≤ w ∧ w ≤ 8) : Ev (fun k => spec_l3Front.f k s w) (front s w) := by
  have b0 := bt_range s 0
  have b1 := bt_range s 1
  unfold spec_l3Front.f front
  refine Ev.step (fun k => spec_l3Front.l0.eq_2 ..) ?_
  by_cases h0 : s.size = 0
  · rw [if_pos h0]
    exact Ev.pos (by omega) (Ev.neg (by omega) (Ev.now _))
  · rw [if_neg h0, w64 (n := bt s 0) (by omega) (by omega), Int.tmod_eq_emod_of_nonneg b0.1, Int.mul_one, w64 (n := bt s 0 % 128) (by omega) (by omega), Int.zero_add, w64 (n := bt s 0 % 128) (by omega) (by omega), Int.zero_add, w64 (n := 1) (by omega) (by omega)]
    refine Ev.neg (by omega) (Ev.pos (by omega) (Ev.pos (by omega) ?_))
    by_cases h1 : bt s 0 < 128
    · rw [if_pos h1, show bt s 0 % 128 = bt s 0 from by omega, in_eq]
      refine Ev.pos h1 (Ev.sb ?_)
      by_cases hin : 1 ≤ bt s 0 ∧ bt s 0 ≤ 1000
      · refine Ev.pos (decide_eq_true hin) ?_
        rw [u64_in (n := bt s 0) (by omega) (by omega)]
        have hsh := spec_short_ev (bt s 0).toNat (by omega)
        rw [show (((bt s 0).toNat : Nat) : Int) = bt s 0 from by omega] at hsh
        refine Ev.bind hsh (Ev.pos (by omega) (Ev.pos (by omega) ?_))
        rw [short_one s (by omega) h1, show ((1 : Int).toNat) = 1 from rfl, bne_self_eq_false]
        exact spec_body_ev s hs w _ 1 hw hin (by omega)
      · refine Ev.neg (by simpa using hin) ?_
        unfold body
        rw [if_neg hin]
        exact spec_bad_ev ..
    · rw [if_neg h1]
      refine Ev.neg h1 (Ev.neg (by omega) ?_)
      rw [show bt s 0 % 128 = bt s 0 - 128 from by omega, Int.one_mul, w64 (n := 128) (by omega) (by omega)]
      refine Ev.step (fun k => spec_l3Front.l0.eq_2 ..) ?_
      by_cases h2 : s.size = 1
      · rw [if_pos h2]
        exact Ev.pos (by omega) (Ev.neg (by omega) (Ev.now _))
      · rw [if_neg h2, w64 (n := bt s 1) (by omega) (by omega), Int.tmod_eq_emod_of_nonneg b1.1, w64 (n := bt s 1 % 128 * 128) (by omega) (by omega), w64 (n := bt s 0 - 128 + bt s 1 % 128 * 128) (by omega) (by omega), show (1 : Int) + 1 = 2 from rfl, w64 (n := 2) (by omega) (by omega)]
        refine Ev.neg (by omega) (Ev.pos (by omega) (Ev.pos (by omega) ?_))
        by_cases h4 : bt s 1 ≥ 128
        · rw [if_pos (.inr h4)]
          exact Ev.neg (by omega) (Ev.pos (by omega) (Ev.now _))
        · rw [in_eq, show bt s 1 % 128 = bt s 1 from by omega]
          refine Ev.pos (by omega) (Ev.sb ?_)
          by_cases hin : 1 ≤ bt s 0 - 128 + bt s 1 * 128 ∧ bt s 0 - 128 + bt s 1 * 128 ≤ 1000
          · refine Ev.pos (decide_eq_true hin) ?_
            rw [u64_in (n := bt s 0 - 128 + bt s 1 * 128) (by omega) (by omega)]
            have hsh := spec_short_ev (bt s 0 - 128 + bt s 1 * 128).toNat (by omega)
            rw [show (((bt s 0 - 128 + bt s 1 * 128).toNat : Nat) : Int) = bt s 0 - 128 + bt s 1 * 128 from by omega] at hsh
            refine Ev.bind hsh (Ev.pos (by omega) (Ev.pos (by omega) ?_))
            rw [show ((2 : Int).toNat) = 2 from rfl]
            by_cases h3 : bt s 1 = 0
            · rw [if_pos (.inl h3), bne_iff_ne.2 (short_not s _ (by omega) (by omega))]
              exact spec_bad_ev ..
            · have := short_two s (by omega) (by omega) (by omega) (by omega)
              rw [if_neg (by omega), show bt s 0 - 128 + bt s 1 * 128 = bt s 0 - 128 + 128 * bt s 1 from by omega, this, bne_self_eq_false]
              exact spec_body_ev s hs w _ 2 hw (by omega) (by omega)
          · refine Ev.neg (by simpa using hin) ?_
            by_cases h3 : bt s 1 = 0
            · rw [if_pos (.inl h3)]
              exact spec_bad_ev ..
            · rw [if_neg (by omega)]
              unfold body
              rw [if_neg (by omega)]
              exact spec_bad_ev ..

end Go.Proofs.Ytgaibeckblmbbaa.Pure
