/- What Sum computes: the last bytes of the 64 bits' sum; the reference's Sum and the program's compute it alike. No condition beside the argument's own size. -/
import Derived.Test.YtgaibeckblmbbaaPImplSum
import Derived.Test.YtgaibeckblmbbaaPSpecSum
import Derived.Test.YtgaibeckblmbbaaBase
namespace Go.Proofs.Ytgaibeckblmbbaa.Pure
open Go Go.RowKit Go.Proofs.Ytgaibeckblmbbaa.P Go.Proofs.YtgaibeckblmbbaaW.PrintWords Go.Proofs.YtgaibeckblmbbaaW.PrintLast
set_option linter.unusedVariables false
set_option linter.unusedSimpArgs false

def hstep (h b : Int) : Int := IntKind.u64.wrap ((Go.bits .xor .u64 h (IntKind.u64.wrap b)) * 1099511628211)
def hashN (s : ByteArray) : Nat → Int
  | 0 => 14695981039346656037
  | n + 1 => hstep (hashN s n) (bt s n)
def hash (s : ByteArray) : Int := hashN s s.size
theorem hashN_range (s : ByteArray) : ∀ n, 0 ≤ hashN s n ∧ hashN s n < 18446744073709551616
  | 0 => by simp [hashN]
  | n + 1 => u64_range _
theorem hash_range (s : ByteArray) : 0 ≤ hash s ∧ hash s < 18446744073709551616 := hashN_range s s.size

/-- The last w bytes of a number, the highest first. -/
def low (h : Int) : Nat → List Int
  | 0 => []
  | w + 1 => low (h / 256) w ++ [h % 256]
theorem low_length : ∀ (w : Nat) (h : Int), (low h w).length = w
  | 0, _ => rfl
  | w + 1, h => by rw [low, List.length_append, low_length w]; rfl
theorem low_more : ∀ (b a : Nat) (h : Int), ∃ l, l.length = a ∧ low h (a + b) = l ++ low h b
  | 0, a, h => ⟨low h a, low_length a h, by simp [low]⟩
  | b + 1, a, h => by
    obtain ⟨l, hl, e⟩ := low_more b a (h / 256)
    exact ⟨l, hl, by rw [← Nat.add_assoc, low, low, e, List.append_assoc]⟩
theorem low_drop {a w : Nat} (hw : w ≤ a) (h : Int) : (low h a).drop (a - w) = low h w := by
  obtain ⟨l, hl, e⟩ := low_more w (a - w) h
  rw [show a - w + w = a from by omega] at e
  rw [e, List.drop_left' hl]
def sumOf (s : ByteArray) (w : Int) : ByteArray := if 1 ≤ w ∧ w ≤ 8 then strOfNums (low (hash s) w.toNat) else ⟨#[]⟩
theorem sumOf_size (s : ByteArray) (w : Int) : (sumOf s w).size ≤ 8 := by
  unfold sumOf
  split
  · rw [son_size, low_length]
    omega
  · simp [ByteArray.size]
theorem sumOf_size_eq (s : ByteArray) {w : Int} (h : 1 ≤ w ∧ w ≤ 8) : ((sumOf s w).size : Int) = w := by
  unfold sumOf
  rw [if_pos h, son_size, low_length]
  omega

/-! ### the reference's -/
theorem spec_l1 (w : Nat) (hw : w ≤ 8) : ∀ (d k : Nat) (v : Int) (out : ByteArray) (i : Nat), i + d = w → out.size = i → d < k → 0 ≤ v → v < 18446744073709551616 →
    spec_Sum.l1 k (w : Int) v out (i : Int) = some (strOfNums (low v d) ++ out)
  | 0, k + 1, v, out, i, hd, ho, _, _, _ => by
    simp only [spec_Sum.l1]
    rw [if_neg (by omega), low, show strOfNums [] = (⟨#[]⟩ : ByteArray) from rfl, ba_empty_append]
  | d + 1, k + 1, v, out, i, hd, ho, hk, h0, h1 => by
    simp only [spec_Sum.l1]
    rw [if_pos (by omega), Option.bind_some, Int.tmod_eq_emod_of_nonneg h0, Int.tdiv_eq_ediv_of_nonneg h0, son_size, if_pos (by simp; omega), u64_in (by omega) (by omega), w64 (by omega) (by omega)]
    rw [show (i : Int) + 1 = ((i + 1 : Nat) : Int) from by omega, spec_l1 w hw d k (v / 256) _ (i + 1) (by omega) (by rw [ByteArray.size_append, son_size, ho]; simp; omega) (by omega) (by omega) (by omega), low, son_append]
    congr 1
    apply ba_ext
    simp only [data_append, List.append_assoc]
    congr 2
    rw [Int.emod_emod_of_dvd _ (by decide)]
theorem spec_l0 (s : ByteArray) (hs : s.size ≤ 140737488351232) (w : Nat) (hw : w ≤ 8) : ∀ (d k i : Nat), i + d = s.size → d + 9 < k →
    spec_Sum.l0 k s (w : Int) (hashN s i) (i : Int) = some (strOfNums (low (hash s) w))
  | 0, k + 1, i, hd, hk => by
    simp only [spec_Sum.l0]
    rw [if_neg (by omega), show hashN s i = hash s from by unfold hash; congr 1]
    have := spec_l1 w hw w k (hash s) ⟨#[]⟩ 0 (by omega) rfl (by omega) (hash_range s).1 (hash_range s).2
    rw [ba_append_empty] at this
    exact this
  | d + 1, k + 1, i, hd, hk => by
    simp only [spec_Sum.l0]
    rw [if_pos (by omega), if_pos (by omega), w64 (by omega) (by omega), show (i : Int) + 1 = ((i + 1 : Nat) : Int) from by omega]
    exact spec_l0 s hs w hw d k (i + 1) (by omega) (by omega)
theorem in_eq (a b c : Int) : spec_l1In.f a b c = some (decide (b ≤ a ∧ a ≤ c)) := by
  unfold spec_l1In.f
  split
  · simp_all
  · rename_i h
    simp only [ge_iff_le, Int.not_le] at h
    simp [Int.not_le.2 h]
theorem impl_in_eq (a b c : Int) : impl_in.f a b c = some (decide (b ≤ a ∧ a ≤ c)) := by
  unfold impl_in.f
  split
  · simp_all
  · rename_i h
    simp only [ge_iff_le, Int.not_le] at h
    simp [Int.not_le.2 h]
theorem spec_Sum_eq (s : ByteArray) (hs : s.size ≤ 140737488351232) (w : Int) (k : Nat) (hk : s.size + 9 < k) : spec_Sum.f k s w = some (sumOf s w) := by
  unfold spec_Sum.f
  rw [in_eq, Option.bind_some]
  by_cases h : 1 ≤ w ∧ w ≤ 8
  · rw [if_pos (decide_eq_true h)]
    obtain ⟨n, rfl⟩ := Int.eq_ofNat_of_zero_le (show 0 ≤ w by omega)
    have := spec_l0 s hs n (by omega) s.size k 0 (by omega) hk
    unfold sumOf
    rw [if_pos h, Int.toNat_natCast]
    exact this
  · rw [if_neg (by simpa using h)]
    unfold sumOf
    rw [if_neg h]

/-! ### the program's -/
theorem impl_l1 (w : Nat) (hw : w ≤ 8) : ∀ (d k : Nat) (v h : Int) (l : List Int), d ≤ 8 → l.length = 8 → d < k → 0 ≤ v → low h 8 = low v d ++ l.drop d →
    impl_Sum.l1 k (w : Int) v l ((d : Int) - 1) = some (strOfNums (low h w))
  | 0, k + 1, v, h, l, _, hl, _, _, he => by
    simp only [impl_Sum.l1]
    rw [if_neg (by omega), w64 (by omega) (by omega), if_pos (by omega), if_pos (by omega)]
    rw [low, List.nil_append, List.drop_zero] at he
    rw [← he, show ((8 : Int) - (w : Int)).toNat = 8 - w from by omega, low_drop hw]
  | d + 1, k + 1, v, h, l, hd, hl, hk, h0, he => by
    simp only [impl_Sum.l1]
    rw [if_pos (by omega), if_pos (by omega), if_pos (by omega), w64 (by omega) (by omega), show ((d + 1 : Nat) : Int) - 1 - 1 = (d : Int) - 1 from by omega]
    refine impl_l1 w hw d k (v / 256) h _ (by omega) (by rw [List.length_set, hl]) (by omega) (by omega) ?_
    rw [he, low, List.append_assoc, show (((d + 1 : Nat) : Int) - 1).toNat = d from by omega]
    congr 1
    rw [List.drop_set, if_neg (by omega), Nat.sub_self]
    have : l.drop d = l[d]'(by omega) :: l.drop (d + 1) := List.drop_eq_getElem_cons (by omega)
    rw [this]
    rfl
theorem impl_l0 (s : ByteArray) (hs : s.size ≤ 140737488351232) (w : Nat) (hw : w ≤ 8) : ∀ (d k i : Nat), i + d = s.size → d + 9 < k →
    impl_Sum.l0 k s (w : Int) (hashN s i) (i : Int) = some (strOfNums (low (hash s) w))
  | 0, k + 1, i, hd, hk => by
    simp only [impl_Sum.l0]
    rw [if_neg (by omega), if_pos (by omega), show hashN s i = hash s from by unfold hash; congr 1]
    exact impl_l1 w hw 8 k (hash s) (hash s) _ (by omega) (by simp) (by omega) (hash_range s).1 (by rw [List.drop_of_length_le (by simp), List.append_nil])
  | d + 1, k + 1, i, hd, hk => by
    simp only [impl_Sum.l0]
    rw [if_pos (by omega), if_pos (by omega), w64 (by omega) (by omega), show (i : Int) + 1 = ((i + 1 : Nat) : Int) from by omega]
    exact impl_l0 s hs w hw d k (i + 1) (by omega) (by omega)
theorem impl_Sum_eq (s : ByteArray) (hs : s.size ≤ 140737488351232) (w : Int) (k : Nat) (hk : s.size + 9 < k) : impl_Sum.f k s w = some (sumOf s w) := by
  unfold impl_Sum.f
  rw [impl_in_eq, Option.bind_some]
  by_cases h : 1 ≤ w ∧ w ≤ 8
  · rw [if_pos (decide_eq_true h)]
    obtain ⟨n, rfl⟩ := Int.eq_ofNat_of_zero_le (show 0 ≤ w by omega)
    have := impl_l0 s hs n (by omega) s.size k 0 (by omega) hk
    unfold sumOf
    rw [if_pos h, Int.toNat_natCast]
    exact this
  · rw [if_neg (by simpa using h)]
    unfold sumOf
    rw [if_neg h]

end Go.Proofs.Ytgaibeckblmbbaa.Pure
