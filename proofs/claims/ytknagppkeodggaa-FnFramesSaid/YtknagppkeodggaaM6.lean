/- Several texts of this claim in one file: YtknagppkeodggaaSq62, YtknagppkeodggaaSum, YtknagppkeodggaaShort, YtknagppkeodggaaFront, YtknagppkeodggaaDecoder, YtknagppkeodggaaFeed, YtknagppkeodggaaFeedAll, YtknagppkeodggaaEncode, YtknagppkeodggaaFrameLaws. -/
import Derived.Test.YtknagppkeodggaaM3
import Derived.Test.YtknagppkeodggaaM4
import Derived.Laws.BitsAllLaws
import Derived.Lib.Strings
import Derived.Test.YtknagppkeodggaaM5
namespace Go.Proofs.Ytknagppkeodggaa.P
open Go.RowKit Go.Proofs.YtknagppkeodggaaW.PrintWords Go.Proofs.YtknagppkeodggaaW.PrintLast Go.Proofs.YtknagppkeodggaaW.PrintMore
attribute [local go_sem] max2_int min2_int max_two min_two max_three min_three max_four min_four
set_option linter.unusedVariables false
set_option linter.unusedSimpArgs false

theorem isf62_ {w0 W : World} {g : Nat} {f0 : List Int} {f1 : Int} {p : Addr} {u : Value} (zz1_ : IsS62 w0 W g f0 f1) (zz2_ : g ≠ p.block) : IsS62 w0 (W.setCell p u) g f0 f1 := IsS62.far zz1_ zz2_ u
theorem iq62 {p q : Prop} (h : q) (f : q → p := by intro h_; repeat' (first | (with_reducible exact h_) | (with_reducible first | apply IsS62.alloc | apply IsS62.drewN | apply IsS62.drew | apply IsS62.set_1 | apply isf62_) | (with_reducible exact Aside0.out (by assumption)) | exact h_)) : p := f h
theorem bq62 {p q z : Prop} (h : q) (hi : z) (f : q → z → p := by intro h_ i_; repeat' (first | (with_reducible exact h_) | (with_reducible first | apply below_alloc | apply pw_below_drewN | apply below_drew1 | apply bsq_) | (with_reducible exact Aside0.out (by assumption)) | (with_reducible exact IsS62.ge i_) | exact h_)) : p := f h hi
theorem ra62 {w0 W : World} {g : Nat} {f0 : List Int} {f1 : Int} {W1 : World} {α : Type} {d : Kd α} {e base : Nat} {ok : Nat → Prop} {v : Value} {xs : List α} (h : IsS62 w0 W g f0 f1) (ho : d.R e W base ok v xs) (hk : KeepBut W W1 g none) (ht : ∀ q, q ∈ e :: d.E → q ≠ 62 := by decide) : d.R e W1 base ok v xs := Kd.R_mono (Kd.R_keep (IsS62.apart h ho ht) hk (fun _ h => h.2)) (fun _ h => h.1)

end Go.Proofs.Ytknagppkeodggaa.P


namespace Go.Proofs.Ytknagppkeodggaa.Pure
open Go Go.RowKit Go.Proofs.Ytknagppkeodggaa.P Go.Proofs.YtknagppkeodggaaW.PrintWords Go.Proofs.YtknagppkeodggaaW.PrintLast
set_option linter.unusedVariables false
set_option linter.unusedSimpArgs false

def hstep (h b : Int) : Int := IntKind.u64.wrap ((Go.bits .xor .u64 h (IntKind.u64.wrap b)) * 1099511628211)
def hashN (s : ByteArray) : Nat → Int
  | 0 => 14695981039346656037
  | n + 1 => hstep (hashN s n) (bt s n)
def hash (s : ByteArray) : Int := hashN s s.size
theorem hashN_range (s : ByteArray) : ∀ n, 0 ≤ hashN s n ∧ hashN s n < 18446744073709551616
  | 0 => by simp [hashN]
  | n + 1 => u64_range _
theorem hash_range (s : ByteArray) : 0 ≤ hash s ∧ hash s < 18446744073709551616 := hashN_range s s.size

/-- The last w bytes of a number, the highest first. -/
def low (h : Int) : Nat → List Int
  | 0 => []
  | w + 1 => low (h / 256) w ++ [h % 256]
theorem low_length : ∀ (w : Nat) (h : Int), (low h w).length = w
  | 0, _ => rfl
  | w + 1, h => by rw [low, List.length_append, low_length w]; rfl
theorem low_more : ∀ (b a : Nat) (h : Int), ∃ l, l.length = a ∧ low h (a + b) = l ++ low h b
  | 0, a, h => ⟨low h a, low_length a h, by simp [low]⟩
  | b + 1, a, h => by
    obtain ⟨l, hl, e⟩ := low_more b a (h / 256)
    exact ⟨l, hl, by rw [← Nat.add_assoc, low, low, e, List.append_assoc]⟩
theorem low_drop {a w : Nat} (hw : w ≤ a) (h : Int) : (low h a).drop (a - w) = low h w := by
  obtain ⟨l, hl, e⟩ := low_more w (a - w) h
  rw [show a - w + w = a from by omega] at e
  rw [e, List.drop_left' hl]
def sumOf (s : ByteArray) (w : Int) : ByteArray := if 1 ≤ w ∧ w ≤ 8 then strOfNums (low (hash s) w.toNat) else ⟨#[]⟩
theorem sumOf_size (s : ByteArray) (w : Int) : (sumOf s w).size ≤ 8 := by
  unfold sumOf
  split
  · rw [son_size, low_length]
    omega
  · simp [ByteArray.size]
theorem sumOf_size_eq (s : ByteArray) {w : Int} (h : 1 ≤ w ∧ w ≤ 8) : ((sumOf s w).size : Int) = w := by
  unfold sumOf
  rw [if_pos h, son_size, low_length]
  omega

/-! ### the reference's -/
theorem spec_l1 (w : Nat) (hw : w ≤ 8) : ∀ (d k : Nat) (v : Int) (out : ByteArray) (i : Nat), i + d = w → out.size = i → d < k → 0 ≤ v → v < 18446744073709551616 →
    spec_Sum.l1 k (w : Int) v out (i : Int) = some (strOfNums (low v d) ++ out)
  | 0, k + 1, v, out, i, hd, ho, _, _, _ => by
    simp only [spec_Sum.l1]
    rw [if_neg (by omega), low, show strOfNums [] = (⟨#[]⟩ : ByteArray) from rfl, ba_empty_append]
  | d + 1, k + 1, v, out, i, hd, ho, hk, h0, h1 => by
    simp only [spec_Sum.l1]
    rw [if_pos (by omega), Option.bind_some, Int.tmod_eq_emod_of_nonneg h0, Int.tdiv_eq_ediv_of_nonneg h0, son_size, if_pos (by simp; omega), u64_in (by omega) (by omega), w64 (by omega) (by omega)]
    rw [show (i : Int) + 1 = ((i + 1 : Nat) : Int) from by omega, spec_l1 w hw d k (v / 256) _ (i + 1) (by omega) (by rw [ByteArray.size_append, son_size, ho]; simp; omega) (by omega) (by omega) (by omega), low, son_append]
    congr 1
    apply ba_ext
    simp only [data_append, List.append_assoc]
    congr 2
    rw [Int.emod_emod_of_dvd _ (by decide)]
theorem spec_l0 (s : ByteArray) (hs : s.size ≤ 140737488351232) (w : Nat) (hw : w ≤ 8) : ∀ (d k i : Nat), i + d = s.size → d + 9 < k →
    spec_Sum.l0 k s (w : Int) (hashN s i) (i : Int) = some (strOfNums (low (hash s) w))
  | 0, k + 1, i, hd, hk => by
    simp only [spec_Sum.l0]
    rw [if_neg (by omega), show hashN s i = hash s from by unfold hash; congr 1]
    have := spec_l1 w hw w k (hash s) ⟨#[]⟩ 0 (by omega) rfl (by omega) (hash_range s).1 (hash_range s).2
    rw [ba_append_empty] at this
    exact this
  | d + 1, k + 1, i, hd, hk => by
    simp only [spec_Sum.l0]
    rw [if_pos (by omega), if_pos (by omega), w64 (by omega) (by omega), show (i : Int) + 1 = ((i + 1 : Nat) : Int) from by omega]
    exact spec_l0 s hs w hw d k (i + 1) (by omega) (by omega)
theorem in_eq (a b c : Int) : spec_l1In.f a b c = some (decide (b ≤ a ∧ a ≤ c)) := by
  unfold spec_l1In.f
  split
  · simp_all
  · rename_i h
    simp only [ge_iff_le, Int.not_le] at h
    simp [Int.not_le.2 h]
theorem impl_in_eq (a b c : Int) : impl_in.f a b c = some (decide (b ≤ a ∧ a ≤ c)) := by
  unfold impl_in.f
  split
  · simp_all
  · rename_i h
    simp only [ge_iff_le, Int.not_le] at h
    simp [Int.not_le.2 h]
theorem spec_Sum_eq (s : ByteArray) (hs : s.size ≤ 140737488351232) (w : Int) (k : Nat) (hk : s.size + 9 < k) : spec_Sum.f k s w = some (sumOf s w) := by
  unfold spec_Sum.f
  rw [in_eq, Option.bind_some]
  by_cases h : 1 ≤ w ∧ w ≤ 8
  · rw [if_pos (decide_eq_true h)]
    obtain ⟨n, rfl⟩ := Int.eq_ofNat_of_zero_le (show 0 ≤ w by omega)
    have := spec_l0 s hs n (by omega) s.size k 0 (by omega) hk
    unfold sumOf
    rw [if_pos h, Int.toNat_natCast]
    exact this
  · rw [if_neg (by simpa using h)]
    unfold sumOf
    rw [if_neg h]

/-! ### the program's -/
theorem impl_l1 (w : Nat) (hw : w ≤ 8) : ∀ (d k : Nat) (v h : Int) (l : List Int), d ≤ 8 → l.length = 8 → d < k → 0 ≤ v → low h 8 = low v d ++ l.drop d →
    impl_Sum.l1 k (w : Int) v l ((d : Int) - 1) = some (strOfNums (low h w))
  | 0, k + 1, v, h, l, _, hl, _, _, he => by
    simp only [impl_Sum.l1]
    rw [if_neg (by omega), w64 (by omega) (by omega), if_pos (by omega), if_pos (by omega)]
    rw [low, List.nil_append, List.drop_zero] at he
    rw [← he, show ((8 : Int) - (w : Int)).toNat = 8 - w from by omega, low_drop hw]
  | d + 1, k + 1, v, h, l, hd, hl, hk, h0, he => by
    simp only [impl_Sum.l1]
    rw [if_pos (by omega), if_pos (by omega), if_pos (by omega), w64 (by omega) (by omega), show ((d + 1 : Nat) : Int) - 1 - 1 = (d : Int) - 1 from by omega]
    refine impl_l1 w hw d k (v / 256) h _ (by omega) (by rw [List.length_set, hl]) (by omega) (by omega) ?_
    rw [he, low, List.append_assoc, show (((d + 1 : Nat) : Int) - 1).toNat = d from by omega]
    congr 1
    rw [List.drop_set, if_neg (by omega), Nat.sub_self]
    have : l.drop d = l[d]'(by omega) :: l.drop (d + 1) := List.drop_eq_getElem_cons (by omega)
    rw [this]
    rfl
theorem impl_l0 (s : ByteArray) (hs : s.size ≤ 140737488351232) (w : Nat) (hw : w ≤ 8) : ∀ (d k i : Nat), i + d = s.size → d + 9 < k →
    impl_Sum.l0 k s (w : Int) (hashN s i) (i : Int) = some (strOfNums (low (hash s) w))
  | 0, k + 1, i, hd, hk => by
    simp only [impl_Sum.l0]
    rw [if_neg (by omega), if_pos (by omega), show hashN s i = hash s from by unfold hash; congr 1]
    exact impl_l1 w hw 8 k (hash s) (hash s) _ (by omega) (by simp) (by omega) (hash_range s).1 (by rw [List.drop_of_length_le (by simp), List.append_nil])
  | d + 1, k + 1, i, hd, hk => by
    simp only [impl_Sum.l0]
    rw [if_pos (by omega), if_pos (by omega), w64 (by omega) (by omega), show (i : Int) + 1 = ((i + 1 : Nat) : Int) from by omega]
    exact impl_l0 s hs w hw d k (i + 1) (by omega) (by omega)
theorem impl_Sum_eq (s : ByteArray) (hs : s.size ≤ 140737488351232) (w : Int) (k : Nat) (hk : s.size + 9 < k) : impl_Sum.f k s w = some (sumOf s w) := by
  unfold impl_Sum.f
  rw [impl_in_eq, Option.bind_some]
  by_cases h : 1 ≤ w ∧ w ≤ 8
  · rw [if_pos (decide_eq_true h)]
    obtain ⟨n, rfl⟩ := Int.eq_ofNat_of_zero_le (show 0 ≤ w by omega)
    have := impl_l0 s hs n (by omega) s.size k 0 (by omega) hk
    unfold sumOf
    rw [if_pos h, Int.toNat_natCast]
    exact this
  · rw [if_neg (by simpa using h)]
    unfold sumOf
    rw [if_neg h]

end Go.Proofs.Ytknagppkeodggaa.Pure


namespace Go.Proofs.Ytknagppkeodggaa.Pure
open Go Go.RowKit Go.Proofs.Ytknagppkeodggaa.P Go.Proofs.YtknagppkeodggaaW.PrintWords Go.Proofs.YtknagppkeodggaaW.PrintLast
set_option linter.unusedVariables false
set_option linter.unusedSimpArgs false

/-- The short number of n: its bytes of seven bits. -/
def shortN (n : Nat) : List Int := if h : n < 128 then [(n : Int)] else ((n % 128 + 128 : Nat) : Int) :: shortN (n / 128)
termination_by n
decreasing_by omega
theorem shortN_small {n : Nat} (h : n < 128) : shortN n = [(n : Int)] := by rw [shortN, dif_pos h]
theorem shortN_more {n : Nat} (h : 128 ≤ n) : shortN n = ((n % 128 + 128 : Nat) : Int) :: shortN (n / 128) := by rw [shortN, dif_neg (by omega)]
theorem or128 : ∀ m : Fin 256, (m.val ||| 128) = m.val % 128 + 128 := by decide +kernel
theorem spec_short_l0 : ∀ (d n : Nat) (acc : List Int), n < 128 ^ d → n < 18446744073709551616 → acc.length + d ≤ 100 → Ev (fun k => spec_l2Short.l0 k (n : Int) acc) (strOfNums (acc ++ shortN n))
  | 0, n, acc, hn, _, _ => by
    obtain rfl : n = 0 := by simpa using hn
    refine Ev.step (fun k => spec_l2Short.l0.eq_2 ..) (Ev.neg (by omega) (Ev.pos (by omega) ?_))
    rw [shortN_small (by omega)]
    exact Ev.now _
  | d + 1, n, acc, hn, h64, hl => by
    by_cases h : n < 128
    · refine Ev.step (fun k => spec_l2Short.l0.eq_2 ..) (Ev.neg (by omega) (Ev.pos (by omega) ?_))
      rw [shortN_small h, show (n : Int) % 256 = (n : Int) from by omega]
      exact Ev.now _
    · refine Ev.step (fun k => spec_l2Short.l0.eq_2 ..) (Ev.pos (by omega) (Ev.pos (by omega) ?_))
      rw [Int.tdiv_eq_ediv_of_nonneg (by omega), Int.tmod_eq_emod_of_nonneg (by omega), u64_in (n := (n : Int) / 128) (by omega) (by omega), u64_in (n := (n : Int) % 128 + 128) (by omega) (by omega), show (n : Int) / 128 = ((n / 128 : Nat) : Int) from by omega]
      have := spec_short_l0 d (n / 128) (acc ++ [((n : Int) % 128 + 128) % 256]) (by rw [Nat.pow_succ] at hn; omega) (by omega) (by rw [List.length_append]; simp; omega)
      rw [shortN_more (by omega)]
      rw [List.append_assoc, show ((n : Int) % 128 + 128) % 256 = ((n % 128 + 128 : Nat) : Int) from by omega] at this
      rw [show ((n : Int) % 128 + 128) % 256 = ((n % 128 + 128 : Nat) : Int) from by omega]
      exact this
theorem impl_short_l0 : ∀ (d n : Nat) (acc : List Int), n < 128 ^ d → acc.length + d ≤ 100 → Ev (fun k => impl_short.l0 k (n : Int) acc) (strOfNums (acc ++ shortN n))
  | 0, n, acc, hn, _ => by
    obtain rfl : n = 0 := by simpa using hn
    refine Ev.step (fun k => impl_short.l0.eq_2 ..) (Ev.neg (by omega) (Ev.pos (by omega) ?_))
    rw [shortN_small (by omega)]
    exact Ev.now _
  | d + 1, n, acc, hn, hl => by
    by_cases h : n < 128
    · refine Ev.step (fun k => impl_short.l0.eq_2 ..) (Ev.neg (by omega) (Ev.pos (by omega) ?_))
      rw [shortN_small h, show (n : Int) % 256 = (n : Int) from by omega]
      exact Ev.now _
    · refine Ev.step (fun k => impl_short.l0.eq_2 ..) (Ev.pos (by omega) (Ev.pos (by omega) ?_))
      have e : Go.bits .or .u8 ((n : Int) % 256) 128 = ((n % 128 + 128 : Nat) : Int) := by
        rw [u8_or _ _ (by omega) (by omega) (by omega) (by omega)]
        have := or128 ⟨n % 256, by omega⟩
        dsimp only at this
        rw [show ((n : Int) % 256).toNat = n % 256 from by omega, show (128 : Int).toNat = 128 from rfl, this, Nat.mod_mod_of_dvd _ (by decide)]
      rw [e, show (n : Int) / 128 = ((n / 128 : Nat) : Int) from by omega, shortN_more (by omega)]
      have := impl_short_l0 d (n / 128) (acc ++ [((n % 128 + 128 : Nat) : Int)]) (by rw [Nat.pow_succ] at hn; omega) (by rw [List.length_append]; simp; omega)
      rw [List.append_assoc] at this
      exact this
def shortS (n : Nat) : ByteArray := strOfNums (shortN n)
theorem spec_short_ev (n : Nat) (h : n < 18446744073709551616) : Ev (fun k => spec_l2Short.f k (n : Int)) (shortS n) := by
  have := spec_short_l0 20 n [] (Nat.lt_of_lt_of_le h (by decide)) h (by simp)
  exact this
theorem impl_short_ev (n : Nat) (h : n < 18446744073709551616) : Ev (fun k => impl_short.f k (n : Int)) (shortS n) := by
  have := impl_short_l0 20 n [] (Nat.lt_of_lt_of_le h (by decide)) (by simp)
  exact this
theorem shortN_len : ∀ (d n : Nat), n < 128 ^ (d + 1) → (shortN n).length ≤ d + 1
  | 0, n, h => by rw [shortN_small (by simpa using h)]; simp
  | d + 1, n, h => by
    by_cases hn : n < 128
    · rw [shortN_small hn]; simp
    · rw [shortN_more (by omega), List.length_cons]
      have := shortN_len d (n / 128) (by rw [Nat.pow_succ] at h; omega)
      omega
theorem shortS_size (n : Nat) (h : n < 18446744073709551616) : (shortS n).size ≤ 10 := by
  unfold shortS
  rw [son_size]
  exact shortN_len 9 n (Nat.lt_of_lt_of_le h (by decide))

end Go.Proofs.Ytknagppkeodggaa.Pure


namespace Go.Proofs.Ytknagppkeodggaa.Pure
open Go Go.RowKit Go.Proofs.Ytknagppkeodggaa.P Go.Proofs.YtknagppkeodggaaW.PrintWords Go.Proofs.YtknagppkeodggaaW.PrintLast
set_option linter.unusedVariables false
set_option linter.unusedSimpArgs false

/-- A frame whose number is n and has h bytes. -/
def body (s : ByteArray) (w n h : Int) : Int × ByteArray × Int :=
  if 1 ≤ n ∧ n ≤ 1000 then
    if (s.size : Int) < h + n + w then (0, ⟨#[]⟩, 0)
    else if (sumOf (s.extract h.toNat (h + n).toNat) w).toList = (s.extract (h + n).toNat (h + n + w).toNat).toList then (1, s.extract h.toNat (h + n).toNat, h + n + w) else (2, ⟨#[]⟩, 0)
  else (2, ⟨#[]⟩, 0)
def front (s : ByteArray) (w : Int) : Int × ByteArray × Int :=
  if s.size = 0 then (0, ⟨#[]⟩, 0)
  else if bt s 0 < 128 then body s w (bt s 0) 1
  else if s.size = 1 then (0, ⟨#[]⟩, 0)
  else if bt s 1 = 0 ∨ bt s 1 ≥ 128 then (2, ⟨#[]⟩, 0)
  else body s w (bt s 0 - 128 + 128 * bt s 1) 2

theorem extract_size (s : ByteArray) (i j : Nat) (h : j ≤ s.size) : (s.extract i j).size = j - i := by
  rw [ByteArray.size_extract]
  omega
theorem impl_body_ev (s : ByteArray) (hs : s.size ≤ 140737488351232) (w n h : Int) (hw : 1 ≤ w ∧ w ≤ 8) (hn : -1000 ≤ n ∧ n ≤ 100000) (hh : 0 ≤ h ∧ h ≤ 2) : Ev (fun k => impl_front.j0 k s w n h) (body s w n h) := by
  refine Ev.step (fun k => impl_front.j0.eq_2 ..) ?_
  rw [impl_in_eq]
  unfold body
  refine Ev.sb ?_
  by_cases h1 : 1 ≤ n ∧ n ≤ 1000
  · rw [w64 (n := h + n) (by omega) (by omega), w64 (n := h + n + w) (by omega) (by omega)]
    refine Ev.pos (decide_eq_true h1) ?_
    rw [if_pos h1]
    by_cases h2 : (s.size : Int) < h + n + w
    · rw [if_pos h2]
      exact Ev.pos h2 (Ev.now _)
    · rw [if_neg h2]
      refine Ev.neg h2 (Ev.pos (by omega) (Ev.pos (by omega) (Ev.pos (by omega) ?_)))
      refine Ev.bind (ev_of _ (fun k hk => impl_Sum_eq (s.extract h.toNat (h + n).toNat) (by rw [extract_size _ _ _ (by omega)]; omega) w k hk)) ?_
      refine Ev.pos (by omega) (Ev.pos (by omega) (Ev.pos (by omega) ?_))
      exact Ev.both (fun _ => Ev.now _) (fun _ => Ev.now _)
  · rw [if_neg h1]
    exact Ev.neg (by simpa using h1) (Ev.now _)
theorem toList_nil {s : ByteArray} : s.toList = ([] : List UInt8) ↔ s.size = 0 := by
  rw [Lib.toList_data]
  constructor
  · intro h
    rw [← size_toList, h]
    rfl
  · intro h
    rw [← size_toList] at h
    exact List.eq_nil_of_length_eq_zero h
theorem and127 {x : Int} (h0 : 0 ≤ x) (h1 : x ≤ 255) : Go.bits .and .u8 x 127 = x % 128 := by
  rw [u8_and _ _ h0 (by omega) (by omega) (by omega), show (127 : Int).toNat = 2 ^ 7 - 1 from rfl, Nat.and_two_pow_sub_one_eq_mod]
  omega
theorem impl_front_ev (s : ByteArray) (hs : s.size ≤ 140737488351232) (w : Int) (hw : 1 ≤ w ∧ w ≤ 8) : Ev (fun k => impl_front.f k s w) (front s w) := by
  have b0 := bt_range s 0
  have b1 := bt_range s 1
  unfold impl_front.f front
  by_cases h0 : s.size = 0
  · rw [if_pos h0]
    exact Ev.pos (toList_nil.2 h0) (Ev.now _)
  · rw [if_neg h0]
    refine Ev.neg (fun h => h0 (toList_nil.1 h)) (Ev.pos (by omega) ?_)
    by_cases h1 : bt s 0 < 128
    · rw [if_pos h1, w64 (n := bt s 0) (by omega) (by omega)]
      exact Ev.neg (by omega) (impl_body_ev s hs w _ 1 hw (by omega) (by omega))
    · rw [if_neg h1]
      refine Ev.pos (by omega) ?_
      by_cases h2 : s.size = 1
      · rw [if_pos h2]
        exact Ev.pos (by omega) (Ev.now _)
      · rw [if_neg h2]
        refine Ev.neg (by omega) (Ev.pos (by omega) ?_)
        by_cases h3 : bt s 1 = 0
        · rw [if_pos (.inl h3)]
          exact Ev.pos h3 (Ev.now _)
        · refine Ev.neg h3 ?_
          by_cases h4 : bt s 1 ≥ 128
          · rw [if_pos (.inr h4)]
            exact Ev.pos h4 (Ev.now _)
          · rw [if_neg (by omega), and127 b0.1 b0.2, w64 (n := bt s 1) (by omega) (by omega), w64 (n := 128 * bt s 1) (by omega) (by omega), w64 (n := bt s 0 % 128) (by omega) (by omega), w64 (n := bt s 0 % 128 + 128 * bt s 1) (by omega) (by omega), show bt s 0 % 128 = bt s 0 - 128 from by omega]
            exact Ev.neg h4 (impl_body_ev s hs w _ 2 hw (by omega) (by omega))

/-! ### the reference's -/
theorem spec_body_ev (s : ByteArray) (hs : s.size ≤ 140737488351232) (w n h : Int) (hw : 1 ≤ w ∧ w ≤ 8) (hn : 1 ≤ n ∧ n ≤ 1000) (hh : 0 ≤ h ∧ h ≤ 2) : Ev (fun k => spec_l3Front.j1 k s w n h false) (body s w n h) := by
  refine Ev.step (fun k => spec_l3Front.j1.eq_2 ..) (Ev.neg (by simp) ?_)
  unfold body
  rw [w64 (n := h + n) (by omega) (by omega), w64 (n := h + n + w) (by omega) (by omega), if_pos hn]
  by_cases h2 : (s.size : Int) < h + n + w
  · rw [if_pos h2]
    exact Ev.pos h2 (Ev.now _)
  · rw [if_neg h2]
    refine Ev.neg h2 (Ev.pos (by omega) (Ev.pos (by omega) (Ev.pos (by omega) ?_)))
    refine Ev.bind (ev_of _ (fun k hk => spec_Sum_eq (s.extract h.toNat (h + n).toNat) (by rw [extract_size _ _ _ (by omega)]; omega) w k hk)) ?_
    refine Ev.pos (by omega) (Ev.pos (by omega) (Ev.pos (by omega) ?_))
    exact Ev.both (fun _ => Ev.now _) (fun _ => Ev.now _)
theorem spec_bad_ev (s : ByteArray) (w n h : Int) : Ev (fun k => spec_l3Front.j1 k s w n h true) (2, (⟨#[]⟩ : ByteArray), 0) :=
  Ev.step (fun k => spec_l3Front.j1.eq_2 ..) (Ev.pos rfl (Ev.now _))
theorem extract_data_take (s : ByteArray) (j : Nat) : (s.extract 0 j).data.toList = s.data.toList.take j := by
  simp [ByteArray.data_extract]
theorem bt_byte (s : ByteArray) (i : Nat) (h : i < s.size) : s.data.toList[i]? = some (UInt8.ofNat (bt s (i : Int)).toNat) := by
  rw [bt_getD, Int.toNat_natCast, List.getD_eq_getElem?_getD, List.getElem?_eq_getElem (by exact h)]
  simp
theorem take_one {α : Type} {l : List α} {a : α} (h0 : l[0]? = some a) : l.take 1 = [a] := by
  match l, h0 with
  | x :: r, h0 =>
    simp at h0
    simp [h0]
/-- The text of a short number of one byte, of two. -/
theorem short_one (s : ByteArray) (h : 0 < s.size) (hb : bt s 0 < 128) : shortS (bt s 0).toNat = s.extract 0 1 := by
  apply ba_ext
  have b0 := bt_range s 0
  rw [extract_data_take, shortS, shortN_small (by omega), son_data]
  have := bt_byte s 0 h
  rw [take_one this]
  simp only [List.map_cons, List.map_nil, Int.toNat_natCast]
  rfl
theorem take_two {α : Type} {l : List α} {a b : α} (h0 : l[0]? = some a) (h1 : l[1]? = some b) : l.take 2 = [a, b] := by
  match l, h0, h1 with
  | x :: y :: r, h0, h1 =>
    simp at h0 h1
    simp [h0, h1]
theorem short_two (s : ByteArray) (h : 1 < s.size) (h0 : 128 ≤ bt s 0) (h1 : 1 ≤ bt s 1) (h2 : bt s 1 < 128) : shortS (bt s 0 - 128 + 128 * bt s 1).toNat = s.extract 0 2 := by
  apply ba_ext
  have b0 := bt_range s 0
  have e0 := bt_byte s 0 (by omega)
  have e1 := bt_byte s 1 h
  rw [extract_data_take, shortS, shortN_more (by omega), shortN_small (by omega), son_data, take_two e0 e1]
  simp only [List.map_cons, List.map_nil, Int.toNat_natCast]
  congr 2
  · congr 1
    have : ((0 : Nat) : Int) = 0 := rfl
    rw [this]
    omega
  · congr 2
    have : ((1 : Nat) : Int) = 1 := rfl
    rw [this]
    omega
theorem short_not (s : ByteArray) (n : Nat) (h : 1 < s.size) (hn : n < 128) : ¬ (shortS n).toList = (s.extract 0 2).toList := by
  rw [Lib.toList_data, Lib.toList_data, extract_data_take, shortS, shortN_small hn, son_data]
  intro he
  have := congrArg List.length he
  rw [List.length_take, size_toList] at this
  simp at this
  omega
theorem spec_front_ev (s : ByteArray) (hs : s.size ≤ 140737488351232) (w : Int) (hw : 1 ≤ w ∧ w ≤ 8) : Ev (fun k => spec_l3Front.f k s w) (front s w) := by
  have b0 := bt_range s 0
  have b1 := bt_range s 1
  unfold spec_l3Front.f front
  refine Ev.step (fun k => spec_l3Front.l0.eq_2 ..) ?_
  by_cases h0 : s.size = 0
  · rw [if_pos h0]
    exact Ev.pos (by omega) (Ev.neg (by omega) (Ev.now _))
  · rw [if_neg h0, w64 (n := bt s 0) (by omega) (by omega), Int.tmod_eq_emod_of_nonneg b0.1, Int.mul_one, w64 (n := bt s 0 % 128) (by omega) (by omega), Int.zero_add, w64 (n := bt s 0 % 128) (by omega) (by omega), Int.zero_add, w64 (n := 1) (by omega) (by omega)]
    refine Ev.neg (by omega) (Ev.pos (by omega) (Ev.pos (by omega) ?_))
    by_cases h1 : bt s 0 < 128
    · rw [if_pos h1, show bt s 0 % 128 = bt s 0 from by omega, in_eq]
      refine Ev.pos h1 (Ev.sb ?_)
      by_cases hin : 1 ≤ bt s 0 ∧ bt s 0 ≤ 1000
      · refine Ev.pos (decide_eq_true hin) ?_
        rw [u64_in (n := bt s 0) (by omega) (by omega)]
        have hsh := spec_short_ev (bt s 0).toNat (by omega)
        rw [show (((bt s 0).toNat : Nat) : Int) = bt s 0 from by omega] at hsh
        refine Ev.bind hsh (Ev.pos (by omega) (Ev.pos (by omega) ?_))
        rw [short_one s (by omega) h1, show ((1 : Int).toNat) = 1 from rfl, bne_self_eq_false]
        exact spec_body_ev s hs w _ 1 hw hin (by omega)
      · refine Ev.neg (by simpa using hin) ?_
        unfold body
        rw [if_neg hin]
        exact spec_bad_ev ..
    · rw [if_neg h1]
      refine Ev.neg h1 (Ev.neg (by omega) ?_)
      rw [show bt s 0 % 128 = bt s 0 - 128 from by omega, Int.one_mul, w64 (n := 128) (by omega) (by omega)]
      refine Ev.step (fun k => spec_l3Front.l0.eq_2 ..) ?_
      by_cases h2 : s.size = 1
      · rw [if_pos h2]
        exact Ev.pos (by omega) (Ev.neg (by omega) (Ev.now _))
      · rw [if_neg h2, w64 (n := bt s 1) (by omega) (by omega), Int.tmod_eq_emod_of_nonneg b1.1, w64 (n := bt s 1 % 128 * 128) (by omega) (by omega), w64 (n := bt s 0 - 128 + bt s 1 % 128 * 128) (by omega) (by omega), show (1 : Int) + 1 = 2 from rfl, w64 (n := 2) (by omega) (by omega)]
        refine Ev.neg (by omega) (Ev.pos (by omega) (Ev.pos (by omega) ?_))
        by_cases h4 : bt s 1 ≥ 128
        · rw [if_pos (.inr h4)]
          exact Ev.neg (by omega) (Ev.pos (by omega) (Ev.now _))
        · rw [in_eq, show bt s 1 % 128 = bt s 1 from by omega]
          refine Ev.pos (by omega) (Ev.sb ?_)
          by_cases hin : 1 ≤ bt s 0 - 128 + bt s 1 * 128 ∧ bt s 0 - 128 + bt s 1 * 128 ≤ 1000
          · refine Ev.pos (decide_eq_true hin) ?_
            rw [u64_in (n := bt s 0 - 128 + bt s 1 * 128) (by omega) (by omega)]
            have hsh := spec_short_ev (bt s 0 - 128 + bt s 1 * 128).toNat (by omega)
            rw [show (((bt s 0 - 128 + bt s 1 * 128).toNat : Nat) : Int) = bt s 0 - 128 + bt s 1 * 128 from by omega] at hsh
            refine Ev.bind hsh (Ev.pos (by omega) (Ev.pos (by omega) ?_))
            rw [show ((2 : Int).toNat) = 2 from rfl]
            by_cases h3 : bt s 1 = 0
            · rw [if_pos (.inl h3), bne_iff_ne.2 (short_not s _ (by omega) (by omega))]
              exact spec_bad_ev ..
            · have := short_two s (by omega) (by omega) (by omega) (by omega)
              rw [if_neg (by omega), show bt s 0 - 128 + bt s 1 * 128 = bt s 0 - 128 + 128 * bt s 1 from by omega, this, bne_self_eq_false]
              exact spec_body_ev s hs w _ 2 hw (by omega) (by omega)
          · refine Ev.neg (by simpa using hin) ?_
            by_cases h3 : bt s 1 = 0
            · rw [if_pos (.inl h3)]
              exact spec_bad_ev ..
            · rw [if_neg (by omega)]
              unfold body
              rw [if_neg (by omega)]
              exact spec_bad_ev ..

end Go.Proofs.Ytknagppkeodggaa.Pure


namespace Go.Proofs.Ytknagppkeodggaa.Pure
open Go Go.RowKit Go.Proofs.Ytknagppkeodggaa.P Go.Proofs.YtknagppkeodggaaW.PrintWords Go.Proofs.YtknagppkeodggaaW.PrintLast
set_option linter.unusedVariables false
set_option linter.unusedSimpArgs false

def framesOk : List ByteArray → Bool
  | [] => true
  | f :: r => if 1 ≤ (f.size : Int) ∧ (f.size : Int) ≤ 1000 then framesOk r else false
def restOk (w : Int) (rest : ByteArray) (bad : Bool) : Bool := if bad = true then rest.toList == ([] : List UInt8) else (front rest w).1 == 0
def validDec (w : Int) (rest : ByteArray) (fr : List ByteArray) (bad : Bool) : Bool :=
  if (1 ≤ w ∧ w ≤ 8) ∧ fr.length ≤ 500 then (if framesOk fr = true then restOk w rest bad else false) else false

theorem spec_VD0 (w : Int) (hw : 1 ≤ w ∧ w ≤ 8) (rest : ByteArray) (hr : rest.size ≤ 140737488351232) (fr : List ByteArray) (bad : Bool) (hl : fr.length ≤ 500) : ∀ (d i : Nat), i + d = fr.length →
    Ev (fun k => spec_ValidDecoder.l0 k (i : Int) w rest fr bad) (if framesOk (fr.drop i) = true then restOk w rest bad else false)
  | 0, i, hd => by
    refine Ev.step (fun k => spec_ValidDecoder.l0.eq_2 ..) (Ev.neg (by omega) ?_)
    rw [List.drop_of_length_le (by omega), framesOk, if_pos rfl]
    unfold restOk
    refine Ev.both (fun _ => Ev.now _) (fun _ => ?_)
    exact Ev.bind (spec_front_ev rest hr w hw) (Ev.now _)
  | d + 1, i, hd => by
    have hi : i < fr.length := by omega
    refine Ev.step (fun k => spec_ValidDecoder.l0.eq_2 ..) (Ev.pos (by omega) (Ev.pos (by omega) ?_))
    rw [rd_eq _ hi, in_eq, List.drop_eq_getElem_cons hi, framesOk]
    refine Ev.sb ?_
    by_cases h : 1 ≤ (fr[i].size : Int) ∧ (fr[i].size : Int) ≤ 1000
    · rw [if_pos h, w64 (by omega) (by omega), show (i : Int) + 1 = ((i + 1 : Nat) : Int) from by omega]
      exact Ev.pos (decide_eq_true h) (spec_VD0 w hw rest hr fr bad hl d (i + 1) (by omega))
    · rw [if_neg h, if_neg (by simp)]
      exact Ev.neg (by simpa using h) (Ev.now _)
theorem spec_ValidDecoder_ev (w : Int) (rest : ByteArray) (hr : rest.size ≤ 140737488351232) (fr : List ByteArray) (bad : Bool) : Ev (fun k => spec_ValidDecoder.f k w rest fr bad) (validDec w rest fr bad) := by
  unfold spec_ValidDecoder.f validDec
  rw [in_eq]
  refine Ev.sb ?_
  by_cases hw : 1 ≤ w ∧ w ≤ 8
  · refine Ev.pos (decide_eq_true hw) (Ev.step (fun k => spec_ValidDecoder.j0.eq_2 ..) ?_)
    by_cases hl : fr.length ≤ 500
    · rw [if_pos ⟨hw, hl⟩]
      exact Ev.neg (by simp; omega) (spec_VD0 w hw rest hr fr bad hl fr.length 0 (by omega))
    · rw [if_neg (fun h => hl h.2)]
      exact Ev.pos (by simp; omega) (Ev.now _)
  · rw [if_neg (fun h => hw h.1)]
    exact Ev.neg (by simpa using hw) (Ev.step (fun k => spec_ValidDecoder.j0.eq_2 ..) (Ev.pos rfl (Ev.now _)))
theorem impl_VD0 (w : Int) (hw : 1 ≤ w ∧ w ≤ 8) (rest : ByteArray) (hr : rest.size ≤ 140737488351232) (fr : List ByteArray) (bad : Bool) (hl : fr.length ≤ 500) : ∀ (d i : Nat), i + d = fr.length →
    Ev (fun k => impl_ValidDecoder.l0 k fr (fr.length : Int) (i : Int) w rest fr bad) (if framesOk (fr.drop i) = true then restOk w rest bad else false)
  | 0, i, hd => by
    refine Ev.step (fun k => impl_ValidDecoder.l0.eq_2 ..) (Ev.neg (by omega) ?_)
    rw [List.drop_of_length_le (by omega), framesOk, if_pos rfl]
    unfold restOk
    refine Ev.both (fun _ => Ev.now _) (fun _ => ?_)
    exact Ev.bind (impl_front_ev rest hr w hw) (Ev.now _)
  | d + 1, i, hd => by
    have hi : i < fr.length := by omega
    refine Ev.step (fun k => impl_ValidDecoder.l0.eq_2 ..) (Ev.pos (by omega) (Ev.pos (by omega) (Ev.pos (by omega) ?_)))
    rw [rd_eq _ hi, impl_in_eq, List.drop_eq_getElem_cons hi, framesOk]
    refine Ev.sb ?_
    by_cases h : 1 ≤ (fr[i].size : Int) ∧ (fr[i].size : Int) ≤ 1000
    · rw [if_pos h, w64 (by omega) (by omega), show (i : Int) + 1 = ((i + 1 : Nat) : Int) from by omega]
      exact Ev.pos (decide_eq_true h) (impl_VD0 w hw rest hr fr bad hl d (i + 1) (by omega))
    · rw [if_neg h, if_neg (by simp)]
      exact Ev.neg (by simpa using h) (Ev.now _)
theorem impl_ValidDecoder_ev (w : Int) (rest : ByteArray) (hr : rest.size ≤ 140737488351232) (fr : List ByteArray) (bad : Bool) : Ev (fun k => impl_ValidDecoder.f k w rest fr bad) (validDec w rest fr bad) := by
  unfold impl_ValidDecoder.f validDec
  rw [impl_in_eq]
  refine Ev.sb ?_
  by_cases hw : 1 ≤ w ∧ w ≤ 8
  · refine Ev.pos (decide_eq_true hw) (Ev.step (fun k => impl_ValidDecoder.j0.eq_2 ..) ?_)
    by_cases hl : fr.length ≤ 500
    · rw [if_pos ⟨hw, hl⟩]
      exact Ev.neg (by simp; omega) (impl_VD0 w hw rest hr fr bad hl fr.length 0 (by omega))
    · rw [if_neg (fun h => hl h.2)]
      exact Ev.pos (by simp; omega) (Ev.now _)
  · rw [if_neg (fun h => hw h.1)]
    exact Ev.neg (by simpa using hw) (Ev.step (fun k => impl_ValidDecoder.j0.eq_2 ..) (Ev.pos rfl (Ev.now _)))

end Go.Proofs.Ytknagppkeodggaa.Pure


namespace Go.Proofs.Ytknagppkeodggaa.Pure
open Go Go.RowKit Go.Proofs.Ytknagppkeodggaa.P Go.Proofs.YtknagppkeodggaaW.PrintWords Go.Proofs.YtknagppkeodggaaW.PrintLast
set_option linter.unusedVariables false
set_option linter.unusedSimpArgs false

theorem body_one {s : ByteArray} {w n h : Int} (hw : 1 ≤ w) (hh : 1 ≤ h) (h0 : (body s w n h).1 ≠ 0) (h2 : (body s w n h).1 ≠ 2) : 1 ≤ (body s w n h).2.2 ∧ (body s w n h).2.2 ≤ (s.size : Int) := by
  unfold body at h0 h2 ⊢
  split at h0
  · rename_i hn
    rw [if_pos hn] at h2 ⊢
    split at h0
    · exact absurd rfl h0
    · rename_i hz
      rw [if_neg hz] at h2 ⊢
      split at h0
      · rename_i he
        rw [if_pos he]
        dsimp only
        omega
      · rename_i he
        rw [if_neg he] at h2
        exact absurd rfl h2
  · rename_i hn
    rw [if_neg hn] at h2
    exact absurd rfl h2
theorem front_one {s : ByteArray} {w : Int} (hw : 1 ≤ w) (h0 : (front s w).1 ≠ 0) (h2 : (front s w).1 ≠ 2) : 1 ≤ (front s w).2.2 ∧ (front s w).2.2 ≤ (s.size : Int) := by
  unfold front at h0 h2 ⊢
  by_cases a : s.size = 0
  · rw [if_pos a] at h0
    exact absurd rfl h0
  rw [if_neg a] at h0 h2 ⊢
  by_cases b : bt s 0 < 128
  · rw [if_pos b] at h0 h2 ⊢
    exact body_one hw (by omega) h0 h2
  rw [if_neg b] at h0 h2 ⊢
  by_cases c : s.size = 1
  · rw [if_pos c] at h0
    exact absurd rfl h0
  rw [if_neg c] at h0 h2 ⊢
  by_cases d : bt s 1 = 0 ∨ bt s 1 ≥ 128
  · rw [if_pos d] at h2
    exact absurd rfl h2
  rw [if_neg d] at h0 h2 ⊢
  exact body_one hw (by omega) h0 h2
def feedFrom (w : Int) : Nat → ByteArray → List ByteArray → ByteArray × List ByteArray × Bool
  | 0, s, fr => (s, fr, false)
  | m + 1, s, fr =>
    if (front s w).1 = 0 then (s, fr, false)
    else if (front s w).1 = 2 then (⟨#[]⟩, fr, true)
    else if fr.length ≥ 500 then (⟨#[]⟩, fr, true)
    else feedFrom w m (s.extract (front s w).2.2.toNat s.size) (fr ++ [(front s w).2.1])
theorem spec_Fd0 (w : Int) (hw : 1 ≤ w ∧ w ≤ 8) (a1 : ByteArray) (a2 : List ByteArray) (a3 : Bool) : ∀ (m : Nat) (s : ByteArray) (fr : List ByteArray), s.size < m → s.size ≤ 140737488351232 → fr.length ≤ 500 →
    Ev (fun k => spec_Feed.l0 k s w a1 a2 a3 w ⟨#[]⟩ fr false) (w, (feedFrom w m s fr).1, (feedFrom w m s fr).2.1, (feedFrom w m s fr).2.2)
  | 0, s, fr, h, _, _ => by omega
  | m + 1, s, fr, h, hs, hf => by
    refine Ev.step (fun k => spec_Feed.l0.eq_2 ..) (Ev.bind (spec_front_ev s hs w hw) ?_)
    rw [feedFrom]
    by_cases h0 : (front s w).1 = 0
    · rw [if_pos h0]
      exact Ev.pos h0 (Ev.now _)
    rw [if_neg h0]
    refine Ev.neg h0 ?_
    by_cases h2 : (front s w).1 = 2
    · rw [if_pos h2]
      exact Ev.pos h2 (Ev.now _)
    rw [if_neg h2]
    refine Ev.neg h2 ?_
    by_cases h5 : fr.length ≥ 500
    · rw [if_pos h5]
      exact Ev.pos (by omega) (Ev.now _)
    rw [if_neg h5]
    obtain ⟨f0, f1⟩ := front_one hw.1 h0 h2
    refine Ev.neg (by omega) (Ev.pos (by omega) (Ev.pos (by omega) (Ev.pos f1 ?_)))
    have e : (s.extract (front s w).2.2.toNat s.size).size = s.size - (front s w).2.2.toNat := extract_size _ _ _ (Nat.le_refl _)
    exact spec_Fd0 w hw a1 a2 a3 m _ _ (by omega) (by omega) (by simp; omega)
theorem impl_Fd0 (w : Int) (hw : 1 ≤ w ∧ w ≤ 8) (a1 : ByteArray) : ∀ (m : Nat) (s : ByteArray) (fr : List ByteArray), s.size < m → s.size ≤ 140737488351232 → fr.length ≤ 500 →
    Ev (fun k => impl_Feed.l0 k s w a1 fr false) (w, (feedFrom w m s fr).1, (feedFrom w m s fr).2.1, (feedFrom w m s fr).2.2)
  | 0, s, fr, h, _, _ => by omega
  | m + 1, s, fr, h, hs, hf => by
    refine Ev.step (fun k => impl_Feed.l0.eq_2 ..) (Ev.bind (impl_front_ev s hs w hw) ?_)
    rw [feedFrom]
    by_cases h0 : (front s w).1 = 0
    · rw [if_pos h0]
      exact Ev.pos h0 (Ev.now _)
    rw [if_neg h0]
    refine Ev.neg h0 ?_
    by_cases h2 : (front s w).1 = 2
    · rw [if_pos h2]
      exact Ev.pos h2 (Ev.now _)
    rw [if_neg h2]
    refine Ev.neg h2 ?_
    by_cases h5 : fr.length ≥ 500
    · rw [if_pos h5]
      exact Ev.pos (by omega) (Ev.now _)
    rw [if_neg h5]
    obtain ⟨f0, f1⟩ := front_one hw.1 h0 h2
    refine Ev.neg (by omega) (Ev.pos (by omega) (Ev.pos (by omega) (Ev.pos f1 ?_)))
    have e : (s.extract (front s w).2.2.toNat s.size).size = s.size - (front s w).2.2.toNat := extract_size _ _ _ (Nat.le_refl _)
    exact impl_Fd0 w hw a1 m _ _ (by omega) (by omega) (by simp; omega)

end Go.Proofs.Ytknagppkeodggaa.Pure


namespace Go.Proofs.Ytknagppkeodggaa.Pure
open Go Go.RowKit Go.Proofs.Ytknagppkeodggaa.P Go.Proofs.YtknagppkeodggaaW.PrintWords Go.Proofs.YtknagppkeodggaaW.PrintLast
set_option linter.unusedVariables false
set_option linter.unusedSimpArgs false

def feed (w : Int) (rest : ByteArray) (fr : List ByteArray) (bad : Bool) (b : ByteArray) : Int × ByteArray × List ByteArray × Bool :=
  if validDec w rest fr bad = true then
    (if bad = true then (w, ⟨#[]⟩, fr, true)
    else (w, (feedFrom w ((rest ++ b).size + 1) (rest ++ b) fr).1, (feedFrom w ((rest ++ b).size + 1) (rest ++ b) fr).2.1, (feedFrom w ((rest ++ b).size + 1) (rest ++ b) fr).2.2))
  else (0, ⟨#[]⟩, [], false)
theorem validDec_parts {w : Int} {rest : ByteArray} {fr : List ByteArray} {bad : Bool} (h : validDec w rest fr bad = true) : (1 ≤ w ∧ w ≤ 8) ∧ fr.length ≤ 500 ∧ (bad = true → rest = ⟨#[]⟩) := by
  unfold validDec at h
  by_cases h1 : (1 ≤ w ∧ w ≤ 8) ∧ fr.length ≤ 500
  · rw [if_pos h1] at h
    by_cases h2 : framesOk fr = true
    · rw [if_pos h2] at h
      refine ⟨h1.1, h1.2, fun hb => ?_⟩
      unfold restOk at h
      rw [if_pos hb] at h
      apply ba_ext
      rw [← Lib.toList_data, beq_iff_eq.1 h]
    · rw [if_neg h2] at h
      cases h
  · rw [if_neg h1] at h
    cases h
theorem spec_Feed_ev (w : Int) (rest : ByteArray) (fr : List ByteArray) (bad : Bool) (b : ByteArray) (hr : rest.size ≤ 10000000) (hb : b.size ≤ 10000000) : Ev (fun k => spec_Feed.f k w rest fr bad b) (feed w rest fr bad b) := by
  unfold spec_Feed.f feed
  refine Ev.bind (spec_ValidDecoder_ev w rest (by omega) fr bad) ?_
  by_cases h : validDec w rest fr bad = true
  · obtain ⟨hw, hl, _⟩ := validDec_parts h
    rw [if_pos h]
    refine Ev.pos h (Ev.sb (Ev.pos (by simp; omega) (Ev.sb ?_)))
    rw [List.nil_append]
    by_cases hbad : bad = true
    · subst hbad
      rw [if_pos rfl]
      exact Ev.pos rfl (Ev.now _)
    · rw [if_neg hbad]
      obtain rfl : bad = false := Bool.eq_false_iff.2 hbad
      have e : (rest ++ b).size = rest.size + b.size := ByteArray.size_append
      exact Ev.neg hbad (Ev.pos (by omega) (spec_Fd0 w hw rest fr false _ _ fr (Nat.lt_succ_self _) (by omega) hl))
  · rw [if_neg h]
    exact Ev.neg h (Ev.now _)
theorem impl_Feed_ev (w : Int) (rest : ByteArray) (fr : List ByteArray) (bad : Bool) (b : ByteArray) (hr : rest.size ≤ 10000000) (hb : b.size ≤ 10000000) : Ev (fun k => impl_Feed.f k w rest fr bad b) (feed w rest fr bad b) := by
  unfold impl_Feed.f feed
  refine Ev.bind (impl_ValidDecoder_ev w rest (by omega) fr bad) ?_
  by_cases h : validDec w rest fr bad = true
  · obtain ⟨hw, hl, hre⟩ := validDec_parts h
    have hc : slices_Clone_string_string.f fr = some fr := by
      unfold slices_Clone_string_string.f
      rw [if_pos (by omega)]
    rw [if_pos h, hc]
    refine Ev.pos h (Ev.sb ?_)
    by_cases hbad : bad = true
    · rw [if_pos hbad, hre hbad]
      subst hbad
      exact Ev.pos rfl (Ev.now _)
    · rw [if_neg hbad]
      obtain rfl : bad = false := Bool.eq_false_iff.2 hbad
      have e : (rest ++ b).size = rest.size + b.size := ByteArray.size_append
      exact Ev.neg hbad (Ev.pos (by omega) (impl_Fd0 w hw rest _ _ fr (Nat.lt_succ_self _) (by omega) hl))
  · rw [if_neg h]
    exact Ev.neg h (Ev.now _)

end Go.Proofs.Ytknagppkeodggaa.Pure


namespace Go.Proofs.Ytknagppkeodggaa.Pure
open Go Go.RowKit Go.Proofs.Ytknagppkeodggaa.P Go.Proofs.YtknagppkeodggaaW.PrintWords Go.Proofs.YtknagppkeodggaaW.PrintLast
set_option linter.unusedVariables false
set_option linter.unusedSimpArgs false

def frame (p : ByteArray) (w : Int) : ByteArray := shortS p.size ++ p ++ sumOf p w
def encFrom (w : Int) : List ByteArray → ByteArray → ByteArray
  | [], acc => acc
  | p :: r, acc => if 1 ≤ (p.size : Int) ∧ (p.size : Int) ≤ 1000 then encFrom w r (acc ++ frame p w) else ⟨#[]⟩
def encode (l : List ByteArray) (w : Int) : ByteArray := if (1 ≤ w ∧ w ≤ 8) ∧ l.length ≤ 500 then encFrom w l ⟨#[]⟩ else ⟨#[]⟩
theorem frame_size (p : ByteArray) (w : Int) (hp : p.size ≤ 1000) : (frame p w).size ≤ 1018 := by
  unfold frame
  rw [ByteArray.size_append, ByteArray.size_append]
  have := shortS_size p.size (by omega)
  have := sumOf_size p w
  omega
theorem l2Text_ev (p : ByteArray) (hp : p.size ≤ 140737488351232) : Ev (fun k => spec_l2Text.f k p) (shortS p.size ++ p) := by
  unfold spec_l2Text.f
  rw [u64_in (by omega) (by omega)]
  have := shortS_size p.size (by omega)
  exact Ev.bind (spec_short_ev p.size (by omega)) (Ev.pos (by omega) (Ev.now _))
theorem spec_En0 (l : List ByteArray) (hz : ∀ s ∈ l, s.size ≤ 140737488351232) (w : Int) (hl : l.length ≤ 500) : ∀ (d i : Nat) (x5 : List Int), i + d = l.length → x5.length ≤ 1018 * i →
    Ev (fun k => spec_Encode.l0 k l w x5 (i : Int)) (encFrom w (l.drop i) (strOfNums x5))
  | 0, i, x5, hd, hx => by
    refine Ev.step (fun k => spec_Encode.l0.eq_2 ..) (Ev.neg (by omega) ?_)
    rw [List.drop_of_length_le (by omega), encFrom]
    exact Ev.now _
  | d + 1, i, x5, hd, hx => by
    have hi : i < l.length := by omega
    refine Ev.step (fun k => spec_Encode.l0.eq_2 ..) (Ev.pos (by omega) (Ev.pos (by omega) ?_))
    rw [rd_eq _ hi, in_eq, List.drop_eq_getElem_cons hi, encFrom]
    have hz1 := hz l[i] (List.getElem_mem hi)
    refine Ev.sb ?_
    by_cases h : 1 ≤ (l[i].size : Int) ∧ (l[i].size : Int) ≤ 1000
    · rw [if_pos h]
      have s1 := shortS_size l[i].size (by omega)
      have s2 := sumOf_size l[i] w
      refine Ev.pos (decide_eq_true h) (Ev.bind (l2Text_ev l[i] hz1) (Ev.pos (by rw [ByteArray.size_append]; omega) (Ev.sb (Ev.bind (ev_of _ (fun k hk => spec_Sum_eq l[i] hz1 w k hk)) (Ev.pos (by rw [List.length_append, bytesOf_len, ByteArray.size_append]; omega) ?_)))))
      rw [w64 (by omega) (by omega), show (i : Int) + 1 = ((i + 1 : Nat) : Int) from by omega]
      have := spec_En0 l hz w hl d (i + 1) (x5 ++ bytesOf (shortS l[i].size ++ l[i]) ++ bytesOf (sumOf l[i] w)) (by omega) (by rw [List.length_append, List.length_append, bytesOf_len, bytesOf_len, ByteArray.size_append]; omega)
      rw [son_append, son_append, son_bytesOf, son_bytesOf, ba_assoc] at this
      exact this
    · rw [if_neg h]
      exact Ev.neg (by simpa using h) (Ev.now _)
theorem spec_Encode_ev (l : List ByteArray) (hz : ∀ s ∈ l, s.size ≤ 140737488351232) (w : Int) : Ev (fun k => spec_Encode.f k l w) (encode l w) := by
  unfold spec_Encode.f encode
  rw [in_eq]
  refine Ev.sb ?_
  by_cases hw : 1 ≤ w ∧ w ≤ 8
  · refine Ev.pos (decide_eq_true hw) (Ev.step (fun k => spec_Encode.j0.eq_2 ..) ?_)
    by_cases hl : l.length ≤ 500
    · rw [if_pos ⟨hw, hl⟩]
      exact Ev.neg (by simp; omega) (spec_En0 l hz w hl l.length 0 [] (by omega) (by simp))
    · rw [if_neg (fun h => hl h.2)]
      exact Ev.pos (by simp; omega) (Ev.now _)
  · rw [if_neg (fun h => hw h.1)]
    exact Ev.neg (by simpa using hw) (Ev.step (fun k => spec_Encode.j0.eq_2 ..) (Ev.pos rfl (Ev.now _)))

theorem impl_En0 (w : Int) : ∀ (l : List ByteArray) (_ : ∀ s ∈ l, s.size ≤ 140737488351232) (acc : ByteArray), acc.size + 1018 * l.length ≤ 1000000 → Ev (fun k => impl_Encode.l0 k w l acc) (encFrom w l acc)
  | [], _, acc, _ => Ev.now _
  | p :: r, hz, acc, ha => by
    have hz1 := hz p (List.mem_cons_self ..)
    have s1 := shortS_size p.size (by omega)
    have s2 := sumOf_size p w
    have e : ∀ k, impl_Encode.l0 k w (p :: r) acc = ((impl_in.f (p.size : Int) 1 1000).bind fun t => if t = true then (impl_short.f k (IntKind.u64.wrap (p.size : Int))).bind fun s => (impl_Sum.f k p w).bind fun u => if acc.size + ((s ++ p) ++ u).size ≤ 140737488355328 then impl_Encode.l0 k w r (acc ++ ((s ++ p) ++ u)) else none else some ⟨#[]⟩) := fun k => rfl
    refine Ev.congr e ?_
    rw [impl_in_eq, encFrom, u64_in (by omega) (by omega)]
    refine Ev.sb ?_
    rw [List.length_cons] at ha
    by_cases h : 1 ≤ (p.size : Int) ∧ (p.size : Int) ≤ 1000
    · rw [if_pos h]
      refine Ev.pos (decide_eq_true h) (Ev.bind (impl_short_ev p.size (by omega)) (Ev.bind (ev_of _ (fun k hk => impl_Sum_eq p hz1 w k hk)) (Ev.pos (by rw [ByteArray.size_append, ByteArray.size_append]; omega) ?_)))
      refine impl_En0 w r (fun s hs => hz s (List.mem_cons_of_mem _ hs)) _ ?_
      rw [ByteArray.size_append, ByteArray.size_append, ByteArray.size_append]
      omega
    · rw [if_neg h]
      exact Ev.neg (by simpa using h) (Ev.now _)
theorem impl_Encode_ev (l : List ByteArray) (hz : ∀ s ∈ l, s.size ≤ 140737488351232) (w : Int) : Ev (fun k => impl_Encode.f k l w) (encode l w) := by
  unfold impl_Encode.f encode
  rw [impl_in_eq]
  refine Ev.sb ?_
  by_cases hw : 1 ≤ w ∧ w ≤ 8
  · refine Ev.pos (decide_eq_true hw) ?_
    by_cases hl : l.length ≤ 500
    · rw [if_pos ⟨hw, hl⟩]
      exact Ev.neg (by omega) (impl_En0 w l hz _ (by have : (⟨#[]⟩ : ByteArray).size = 0 := rfl; omega))
    · rw [if_neg (fun h => hl h.2)]
      exact Ev.pos (by omega) (Ev.now _)
  · rw [if_neg (fun h => hw h.1)]
    exact Ev.neg (by simpa using hw) (Ev.now _)

end Go.Proofs.Ytknagppkeodggaa.Pure


namespace Go.Proofs.Ytknagppkeodggaa.Pure
open Go Go.RowKit Go.Proofs.Ytknagppkeodggaa.P Go.Proofs.YtknagppkeodggaaW.PrintWords Go.Proofs.YtknagppkeodggaaW.PrintLast
set_option linter.unusedVariables false
set_option linter.unusedSimpArgs false

theorem ext_data (s : ByteArray) (i j : Nat) : (s.extract i j).data.toList = (s.data.toList.take j).drop i := by
  rw [ByteArray.data_extract, Array.toList_extract]
  simp [List.extract, List.drop_take]
theorem ext_app {s t : ByteArray} {i j : Nat} (h : j ≤ s.size) : (s ++ t).extract i j = s.extract i j := by
  apply ba_ext
  rw [ext_data, ext_data, data_append, List.take_append_of_le_length (by rw [size_toList]; exact h)]
theorem ext_rest {s t : ByteArray} {i : Nat} (h : i ≤ s.size) : (s ++ t).extract i (s ++ t).size = s.extract i s.size ++ t := by
  apply ba_ext
  rw [ext_data, data_append, data_append, ext_data, ByteArray.size_append, List.take_of_length_le (by rw [List.length_append, size_toList, size_toList]; omega), List.take_of_length_le (by rw [size_toList]; omega), List.drop_append_of_le_length (by rw [size_toList]; exact h)]
theorem bt_app {s t : ByteArray} {i : Nat} (h : i < s.size) : bt (s ++ t) (i : Int) = bt s (i : Int) := by
  rw [bt_getD, bt_getD, data_append, List.getD_eq_getElem?_getD, List.getD_eq_getElem?_getD, List.getElem?_append_left (by rw [size_toList]; exact h)]
theorem front_empty (w : Int) : front (⟨#[]⟩ : ByteArray) w = (0, ⟨#[]⟩, 0) := by
  unfold front
  rw [if_pos (show (⟨#[]⟩ : ByteArray).size = 0 from rfl)]
theorem body_app {s t : ByteArray} {w n h : Int} (h0 : (body s w n h).1 ≠ 0) (hh : 0 ≤ h) (hw : 0 ≤ w) : body (s ++ t) w n h = body s w n h := by
  unfold body at h0 ⊢
  by_cases c1 : 1 ≤ n ∧ n ≤ 1000
  · rw [if_pos c1] at h0 ⊢
    rw [if_pos c1]
    by_cases c2 : (s.size : Int) < h + n + w
    · rw [if_pos c2] at h0
      exact absurd rfl h0
    · rw [if_neg c2]
      have e : (s ++ t).size = s.size + t.size := ByteArray.size_append
      rw [if_neg (by rw [e]; omega), ext_app (by omega), ext_app (by omega)]
  · rw [if_neg c1, if_neg c1]
theorem front_app {s t : ByteArray} {w : Int} (hw : 0 ≤ w) (h0 : (front s w).1 ≠ 0) : front (s ++ t) w = front s w := by
  have e : (s ++ t).size = s.size + t.size := ByteArray.size_append
  unfold front at h0
  by_cases a : s.size = 0
  · rw [if_pos a] at h0
    exact absurd rfl h0
  rw [if_neg a] at h0
  have b0 : bt (s ++ t) 0 = bt s 0 := bt_app (i := 0) (by omega)
  unfold front
  rw [if_neg a, if_neg (show ¬ (s ++ t).size = 0 by omega), b0]
  by_cases b : bt s 0 < 128
  · rw [if_pos b] at h0 ⊢
    rw [if_pos b]
    exact body_app h0 (by omega) hw
  rw [if_neg b] at h0 ⊢
  rw [if_neg b]
  by_cases c : s.size = 1
  · rw [if_pos c] at h0
    exact absurd rfl h0
  rw [if_neg c] at h0 ⊢
  have b1 : bt (s ++ t) 1 = bt s 1 := bt_app (i := 1) (by omega)
  rw [if_neg (show ¬ (s ++ t).size = 1 by omega), b1]
  by_cases d : bt s 1 = 0 ∨ bt s 1 ≥ 128
  · rw [if_pos d, if_pos d]
  rw [if_neg d] at h0 ⊢
  rw [if_neg d]
  exact body_app h0 (by omega) hw
theorem body_pay {s : ByteArray} {w n h : Int} (hh : 0 ≤ h) (hw : 0 ≤ w) (h1 : (body s w n h).1 ≠ 0) (h2 : (body s w n h).1 ≠ 2) : 1 ≤ ((body s w n h).2.1.size : Int) ∧ ((body s w n h).2.1.size : Int) ≤ 1000 := by
  unfold body at h1 h2 ⊢
  by_cases c1 : 1 ≤ n ∧ n ≤ 1000
  · rw [if_pos c1] at h1 h2 ⊢
    by_cases c2 : (s.size : Int) < h + n + w
    · rw [if_pos c2] at h1
      exact absurd rfl h1
    · rw [if_neg c2] at h1 h2 ⊢
      split at h2
      · rename_i c3
        rw [if_pos c3]
        show 1 ≤ ((s.extract h.toNat (h + n).toNat).size : Int) ∧ ((s.extract h.toNat (h + n).toNat).size : Int) ≤ 1000
        rw [extract_size _ _ _ (by omega)]
        omega
      · exact absurd rfl h2
  · rw [if_neg c1] at h2
    exact absurd rfl h2
theorem front_pay {s : ByteArray} {w : Int} (hw : 0 ≤ w) (h1 : (front s w).1 ≠ 0) (h2 : (front s w).1 ≠ 2) : 1 ≤ ((front s w).2.1.size : Int) ∧ ((front s w).2.1.size : Int) ≤ 1000 := by
  unfold front at h1 h2 ⊢
  by_cases a : s.size = 0
  · rw [if_pos a] at h1
    exact absurd rfl h1
  rw [if_neg a] at h1 h2 ⊢
  by_cases b : bt s 0 < 128
  · rw [if_pos b] at h1 h2 ⊢
    exact body_pay (by omega) hw h1 h2
  rw [if_neg b] at h1 h2 ⊢
  by_cases c : s.size = 1
  · rw [if_pos c] at h1
    exact absurd rfl h1
  rw [if_neg c] at h1 h2 ⊢
  by_cases d : bt s 1 = 0 ∨ bt s 1 ≥ 128
  · rw [if_pos d] at h2
    exact absurd rfl h2
  rw [if_neg d] at h1 h2 ⊢
  exact body_pay (by omega) hw h1 h2
theorem framesOk_iff : ∀ l : List ByteArray, framesOk l = true ↔ ∀ p ∈ l, 1 ≤ (p.size : Int) ∧ (p.size : Int) ≤ 1000
  | [] => by simp [framesOk]
  | f :: r => by
    unfold framesOk
    by_cases c : 1 ≤ (f.size : Int) ∧ (f.size : Int) ≤ 1000
    · rw [if_pos c, framesOk_iff r]
      constructor
      · intro h p hp
        rcases List.mem_cons.1 hp with rfl | hp
        · exact c
        · exact h p hp
      · exact fun h p hp => h p (List.mem_cons_of_mem _ hp)
    · rw [if_neg c]
      constructor
      · intro h
        cases h
      · exact fun h => absurd (h f List.mem_cons_self) c
/-- What a feeding leaves. -/
theorem feedFrom_ok {w : Int} (hw : 1 ≤ w) : ∀ (m : Nat) (s : ByteArray) (fr : List ByteArray), s.size < m → fr.length ≤ 500 → framesOk fr = true →
    (feedFrom w m s fr).2.1.length ≤ 500 ∧ framesOk (feedFrom w m s fr).2.1 = true ∧ ((feedFrom w m s fr).2.2 = true → (feedFrom w m s fr).1 = ⟨#[]⟩) ∧ ((feedFrom w m s fr).2.2 = false → (front (feedFrom w m s fr).1 w).1 = 0) ∧ (feedFrom w m s fr).1.size ≤ s.size
  | 0, s, fr, h, _, _ => by omega
  | m + 1, s, fr, h, hl, hf => by
    rw [feedFrom]
    by_cases a : (front s w).1 = 0
    · rw [if_pos a]
      exact ⟨hl, hf, (fun h => by cases h), fun _ => a, Nat.le_refl _⟩
    rw [if_neg a]
    by_cases b : (front s w).1 = 2
    · rw [if_pos b]
      exact ⟨hl, hf, fun _ => rfl, (fun h => by cases h), Nat.zero_le _⟩
    rw [if_neg b]
    by_cases c : fr.length ≥ 500
    · rw [if_pos c]
      exact ⟨hl, hf, fun _ => rfl, (fun h => by cases h), Nat.zero_le _⟩
    rw [if_neg c]
    have h1 := front_one hw a b
    have hz : (s.extract (front s w).2.2.toNat s.size).size = s.size - (front s w).2.2.toNat := extract_size _ _ _ (Nat.le_refl _)
    have ih := feedFrom_ok hw m (s.extract (front s w).2.2.toNat s.size) (fr ++ [(front s w).2.1]) (by omega) (by rw [List.length_append, List.length_singleton]; omega) (by
      rw [framesOk_iff] at hf ⊢
      intro p hp
      rcases List.mem_append.1 hp with hp | hp
      · exact hf p hp
      · rw [List.mem_singleton.1 hp]
        exact front_pay (by omega) a b)
    exact ⟨ih.1, ih.2.1, ih.2.2.1, ih.2.2.2.1, by omega⟩
/-- Fed on: what the first feeding left, and the rest. -/
theorem feedFrom_on {w : Int} (hw : 1 ≤ w) (t : ByteArray) : ∀ (m M : Nat) (s : ByteArray) (fr : List ByteArray), s.size < m → (s ++ t).size < M → fr.length ≤ 500 →
    feedFrom w M (s ++ t) fr = if (feedFrom w m s fr).2.2 = true then (⟨#[]⟩, (feedFrom w m s fr).2.1, true) else feedFrom w (((feedFrom w m s fr).1 ++ t).size + 1) ((feedFrom w m s fr).1 ++ t) (feedFrom w m s fr).2.1
  | 0, M, s, fr, h, _, _ => by omega
  | m + 1, 0, s, fr, _, h, _ => by omega
  | m + 1, M + 1, s, fr, h, hM, hl => by
    have es : (s ++ t).size = s.size + t.size := ByteArray.size_append
    by_cases a : (front s w).1 = 0
    · have e : feedFrom w (m + 1) s fr = (s, fr, false) := by rw [feedFrom, if_pos a]
      rw [e]
      exact feedFrom_fuel hw (M + 1) ((s ++ t).size + 1) (s ++ t) fr hM (by omega)
    have ef := front_app (t := t) (by omega) a
    by_cases b : (front s w).1 = 2
    · have e : feedFrom w (m + 1) s fr = (⟨#[]⟩, fr, true) := by rw [feedFrom, if_neg a, if_pos b]
      rw [e, feedFrom, ef, if_neg a, if_pos b]
      rfl
    by_cases c : fr.length ≥ 500
    · have e : feedFrom w (m + 1) s fr = (⟨#[]⟩, fr, true) := by rw [feedFrom, if_neg a, if_neg b, if_pos c]
      rw [e, feedFrom, ef, if_neg a, if_neg b, if_pos c]
      rfl
    have h1 := front_one hw a b
    have hz : (s.extract (front s w).2.2.toNat s.size).size = s.size - (front s w).2.2.toNat := extract_size _ _ _ (Nat.le_refl _)
    have e : feedFrom w (m + 1) s fr = feedFrom w m (s.extract (front s w).2.2.toNat s.size) (fr ++ [(front s w).2.1]) := by rw [feedFrom, if_neg a, if_neg b, if_neg c]
    rw [e, feedFrom, ef, if_neg a, if_neg b, if_neg c, ext_rest (by omega)]
    refine feedFrom_on hw t m M _ _ (by omega) ?_ (by rw [List.length_append, List.length_singleton]; omega)
    have : (s.extract (front s w).2.2.toNat s.size ++ t).size = (s.extract (front s w).2.2.toNat s.size).size + t.size := ByteArray.size_append
    omega
where
  feedFrom_fuel {w : Int} (hw : 1 ≤ w) : ∀ (m M : Nat) (s : ByteArray) (fr : List ByteArray), s.size < m → s.size < M → feedFrom w m s fr = feedFrom w M s fr
    | 0, M, s, fr, h, _ => by omega
    | m + 1, 0, s, fr, _, h => by omega
    | m + 1, M + 1, s, fr, h, hM => by
      rw [feedFrom, feedFrom]
      by_cases a : (front s w).1 = 0
      · rw [if_pos a, if_pos a]
      rw [if_neg a, if_neg a]
      by_cases b : (front s w).1 = 2
      · rw [if_pos b, if_pos b]
      rw [if_neg b, if_neg b]
      by_cases c : fr.length ≥ 500
      · rw [if_pos c, if_pos c]
      rw [if_neg c, if_neg c]
      have h1 := front_one hw a b
      have hz : (s.extract (front s w).2.2.toNat s.size).size = s.size - (front s w).2.2.toNat := extract_size _ _ _ (Nat.le_refl _)
      exact feedFrom_fuel hw m M _ _ (by omega) (by omega)
theorem validDec_mk {w : Int} {rest : ByteArray} {fr : List ByteArray} {bad : Bool} (h1 : 1 ≤ w ∧ w ≤ 8) (h2 : fr.length ≤ 500) (h3 : framesOk fr = true) (h4 : bad = true → rest = ⟨#[]⟩) (h5 : bad = false → (front rest w).1 = 0) : validDec w rest fr bad = true := by
  unfold validDec
  rw [if_pos ⟨h1, h2⟩, if_pos h3]
  unfold restOk
  cases bad with
  | true =>
    rw [if_pos rfl, h4 rfl, Lib.toList_data]
    rfl
  | false =>
    rw [if_neg (by simp), h5 rfl]
    rfl
theorem validDec_all {w : Int} {rest : ByteArray} {fr : List ByteArray} {bad : Bool} (h : validDec w rest fr bad = true) : (1 ≤ w ∧ w ≤ 8) ∧ fr.length ≤ 500 ∧ framesOk fr = true ∧ (bad = true → rest = ⟨#[]⟩) ∧ (bad = false → (front rest w).1 = 0) := by
  have hp := validDec_parts h
  refine ⟨hp.1, hp.2.1, ?_, hp.2.2, ?_⟩
  · unfold validDec at h
    rw [if_pos ⟨hp.1, hp.2.1⟩] at h
    split at h
    · assumption
    · cases h
  · intro hb
    unfold validDec at h
    rw [if_pos ⟨hp.1, hp.2.1⟩] at h
    split at h
    · unfold restOk at h
      rw [if_neg (by rw [hb]; simp)] at h
      exact beq_iff_eq.1 h
    · cases h
abbrev Dec := Int × ByteArray × List ByteArray × Bool
def feedD (d : Dec) (b : ByteArray) : Dec := feed d.1 d.2.1 d.2.2.1 d.2.2.2 b
def okD (d : Dec) : Prop := validDec d.1 d.2.1 d.2.2.1 d.2.2.2 = true
theorem feedD_ok {d : Dec} (h : okD d) (b : ByteArray) : okD (feedD d b) ∧ (feedD d b).2.1.size ≤ d.2.1.size + b.size := by
  obtain ⟨w, rest, fr, bad⟩ := d
  have ha := validDec_all h
  obtain ⟨h1, h2, h3, h4, h5⟩ := ha
  dsimp only at h1 h2 h3 h4 h5
  unfold okD feedD feed
  dsimp only
  have hv : validDec w rest fr bad = true := h
  rw [if_pos hv]
  by_cases hb : bad = true
  · rw [if_pos hb]
    exact ⟨validDec_mk h1 h2 h3 (fun _ => rfl) (fun h => by cases h), Nat.zero_le _⟩
  · rw [if_neg hb]
    have k := feedFrom_ok (w := w) h1.1 ((rest ++ b).size + 1) (rest ++ b) fr (Nat.lt_succ_self _) h2 h3
    have e : (rest ++ b).size = rest.size + b.size := ByteArray.size_append
    exact ⟨validDec_mk h1 k.1 k.2.1 k.2.2.1 k.2.2.2.1, Nat.le_trans k.2.2.2.2 (Nat.le_of_eq e)⟩
theorem feedD_none {d : Dec} (h : okD d) : feedD d ⟨#[]⟩ = d := by
  obtain ⟨w, rest, fr, bad⟩ := d
  obtain ⟨h1, h2, h3, h4, h5⟩ := validDec_all h
  dsimp only at h1 h2 h3 h4 h5
  have hv : validDec w rest fr bad = true := h
  unfold feedD feed
  dsimp only
  rw [if_pos hv]
  by_cases hb : bad = true
  · rw [if_pos hb, hb, h4 hb]
  · rw [if_neg hb, ba_append_empty, feedFrom, if_pos (h5 (by simpa using hb))]
    simp at hb
    rw [hb]
theorem feedD_two {d : Dec} (h : okD d) (a b : ByteArray) : feedD (feedD d a) b = feedD d (a ++ b) := by
  have hk := (feedD_ok h a).1
  obtain ⟨w, rest, fr, bad⟩ := d
  obtain ⟨h1, h2, h3, h4, h5⟩ := validDec_all h
  dsimp only at h1 h2 h3 h4 h5
  have hv : validDec w rest fr bad = true := h
  by_cases hb : bad = true
  · have e : ∀ x, feedD (w, rest, fr, bad) x = (w, ⟨#[]⟩, fr, true) := by
      intro x
      unfold feedD feed
      dsimp only
      rw [if_pos hv, if_pos hb]
    rw [e, e] at *
    have hk' : validDec w ⟨#[]⟩ fr true = true := hk
    unfold feedD feed
    dsimp only
    rw [if_pos hk', if_pos rfl]
  · have e : ∀ x, feedD (w, rest, fr, bad) x = (w, feedFrom w ((rest ++ x).size + 1) (rest ++ x) fr) := by
      intro x
      unfold feedD feed
      dsimp only
      rw [if_pos hv, if_neg hb]
    rw [e] at hk
    rw [e, e, ← ba_assoc, feedFrom_on h1.1 b ((rest ++ a).size + 1) _ (rest ++ a) fr (Nat.lt_succ_self _) (Nat.lt_succ_self _) h2]
    generalize feedFrom w ((rest ++ a).size + 1) (rest ++ a) fr = r at hk ⊢
    obtain ⟨r1, f1, b1⟩ := r
    have hk' : validDec w r1 f1 b1 = true := hk
    unfold feedD feed
    dsimp only
    rw [if_pos hk']
    cases b1 with
    | true => rw [if_pos rfl, if_pos rfl]
    | false => rw [if_neg (by simp), if_neg (by simp)]
/-! ### encoded payloads -/
theorem encFrom_acc (w : Int) : ∀ (l : List ByteArray) (acc : ByteArray), (∀ p ∈ l, 1 ≤ (p.size : Int) ∧ (p.size : Int) ≤ 1000) → encFrom w l acc = acc ++ encFrom w l ⟨#[]⟩
  | [], acc, _ => by
    unfold encFrom
    exact (ba_append_empty acc).symm
  | p :: r, acc, h => by
    unfold encFrom
    rw [if_pos (h p List.mem_cons_self), if_pos (h p List.mem_cons_self), encFrom_acc w r _ (fun q hq => h q (List.mem_cons_of_mem _ hq)), encFrom_acc w r (⟨#[]⟩ ++ frame p w) (fun q hq => h q (List.mem_cons_of_mem _ hq)), ba_empty_append, ba_assoc]
theorem encFrom_bad (w : Int) : ∀ (l : List ByteArray) (acc : ByteArray), ¬ (∀ p ∈ l, 1 ≤ (p.size : Int) ∧ (p.size : Int) ≤ 1000) → encFrom w l acc = ⟨#[]⟩
  | [], acc, h => absurd (fun p hp => by cases hp) h
  | p :: r, acc, h => by
    unfold encFrom
    by_cases c : 1 ≤ (p.size : Int) ∧ (p.size : Int) ≤ 1000
    · rw [if_pos c]
      refine encFrom_bad w r _ (fun k => h (fun q hq => ?_))
      rcases List.mem_cons.1 hq with rfl | hq
      · exact c
      · exact k q hq
    · rw [if_neg c]
theorem sum_beq (s : ByteArray) {w : Int} (hw : 1 ≤ w ∧ w ≤ 8) : (sumOf s w).size = w.toNat := by
  have := sumOf_size_eq s hw
  omega
theorem frame_at {h : ByteArray} {p t : ByteArray} {w : Int} (hw : 1 ≤ w ∧ w ≤ 8) (hp : 1 ≤ (p.size : Int) ∧ (p.size : Int) ≤ 1000) : body (h ++ p ++ sumOf p w ++ t) w (p.size : Int) (h.size : Int) = (1, p, (h.size : Int) + p.size + w) := by
  have hs := sum_beq p hw
  have e : (h ++ p ++ sumOf p w ++ t).size = h.size + p.size + w.toNat + t.size := by rw [ByteArray.size_append, ByteArray.size_append, ByteArray.size_append, hs]
  have e1 : (h ++ p ++ sumOf p w ++ t).extract h.size (h.size + p.size) = p := by
    apply ba_ext
    rw [ext_data, data_append, data_append, data_append, List.append_assoc, List.append_assoc, List.drop_take, show h.size = h.data.toList.length from rfl, List.drop_left, show h.data.toList.length + p.size - h.data.toList.length = p.data.toList.length from by rw [size_toList, size_toList]; omega, List.take_left]
  have e2 : (h ++ p ++ sumOf p w ++ t).extract (h.size + p.size) (h.size + p.size + w.toNat) = sumOf p w := by
    apply ba_ext
    rw [ext_data, data_append, data_append, data_append, List.append_assoc, List.drop_take, show h.size + p.size = (h.data.toList ++ p.data.toList).length from by rw [List.length_append]; rfl, List.drop_left, show (h.data.toList ++ p.data.toList).length + w.toNat - (h.data.toList ++ p.data.toList).length = (sumOf p w).data.toList.length from by rw [size_toList, hs]; omega, List.take_left]
  unfold body
  rw [if_pos hp, if_neg (by rw [e]; omega), show ((h.size : Int)).toNat = h.size from rfl, show ((h.size : Int) + (p.size : Int)).toNat = h.size + p.size from by omega, show ((h.size : Int) + (p.size : Int) + w).toNat = h.size + p.size + w.toNat from by omega, e1, e2, if_pos rfl]
theorem front_frame {p t : ByteArray} {w : Int} (hw : 1 ≤ w ∧ w ≤ 8) (hp : 1 ≤ (p.size : Int) ∧ (p.size : Int) ≤ 1000) : front (frame p w ++ t) w = (1, p, ((frame p w).size : Int)) := by
  have hs := sum_beq p hw
  have hb := frame_at (h := shortS p.size) (t := t) hw hp
  have ef : (frame p w).size = (shortS p.size).size + p.size + w.toNat := by unfold frame; rw [ByteArray.size_append, ByteArray.size_append, hs]
  have et : frame p w ++ t = shortS p.size ++ p ++ sumOf p w ++ t := rfl
  rw [et, ef]
  have ez : (shortS p.size ++ p ++ sumOf p w ++ t).size = (shortS p.size).size + p.size + w.toNat + t.size := by rw [ByteArray.size_append, ByteArray.size_append, ByteArray.size_append, hs]
  have el : ∀ i : Nat, i < (shortS p.size).size → bt (shortS p.size ++ p ++ sumOf p w ++ t) (i : Int) = bt (shortS p.size) (i : Int) := by
    intro i hi
    rw [ba_assoc, ba_assoc, bt_app hi]
  by_cases c : p.size < 128
  · have e1 : shortS p.size = strOfNums [(p.size : Int)] := by unfold shortS; rw [shortN_small c]
    have e2 : (shortS p.size).size = 1 := by rw [e1, son_size]; rfl
    have e3 : bt (shortS p.size) ((0 : Nat) : Int) = (p.size : Int) := by
      rw [bt_getD, e1, son_data]
      show (((UInt8.ofNat ((p.size : Int)).toNat)).toNat : Int) = _
      rw [Int.toNat_natCast, UInt8.toNat_ofNat']
      omega
    have e4 : bt (shortS p.size ++ p ++ sumOf p w ++ t) 0 = (p.size : Int) := (el 0 (by omega)).trans e3
    unfold front
    rw [if_neg (by omega), e4, if_pos (by omega)]
    rw [e2] at hb ⊢
    refine hb.trans ?_
    rw [show (((1 + p.size + w.toNat : Nat) : Int)) = ((1 : Nat) : Int) + (p.size : Int) + w from by omega]
  · have e1 : shortS p.size = strOfNums [((p.size % 128 + 128 : Nat) : Int), ((p.size / 128 : Nat) : Int)] := by unfold shortS; rw [shortN_more (by omega), shortN_small (by omega)]
    have e2 : (shortS p.size).size = 2 := by rw [e1, son_size]; rfl
    have e3 : bt (shortS p.size) ((0 : Nat) : Int) = ((p.size % 128 + 128 : Nat) : Int) := by
      rw [bt_getD, e1, son_data]
      show (((UInt8.ofNat (((p.size % 128 + 128 : Nat) : Int)).toNat)).toNat : Int) = _
      rw [Int.toNat_natCast, UInt8.toNat_ofNat']
      omega
    have e5 : bt (shortS p.size) ((1 : Nat) : Int) = ((p.size / 128 : Nat) : Int) := by
      rw [bt_getD, e1, son_data]
      show (((UInt8.ofNat (((p.size / 128 : Nat) : Int)).toNat)).toNat : Int) = _
      rw [Int.toNat_natCast, UInt8.toNat_ofNat']
      omega
    have e4 : bt (shortS p.size ++ p ++ sumOf p w ++ t) 0 = ((p.size % 128 + 128 : Nat) : Int) := (el 0 (by omega)).trans e3
    have e6 : bt (shortS p.size ++ p ++ sumOf p w ++ t) 1 = ((p.size / 128 : Nat) : Int) := (el 1 (by omega)).trans e5
    unfold front
    rw [if_neg (by omega), e4, if_neg (by omega), if_neg (by omega), e6, if_neg (by omega), show ((p.size % 128 + 128 : Nat) : Int) - 128 + 128 * ((p.size / 128 : Nat) : Int) = (p.size : Int) from by omega]
    rw [e2] at hb ⊢
    refine hb.trans ?_
    rw [show (((2 + p.size + w.toNat : Nat) : Int)) = ((2 : Nat) : Int) + (p.size : Int) + w from by omega]
theorem feed_enc {w : Int} (hw : 1 ≤ w ∧ w ≤ 8) : ∀ (l : List ByteArray) (m : Nat) (fr : List ByteArray), (∀ p ∈ l, 1 ≤ (p.size : Int) ∧ (p.size : Int) ≤ 1000) → (encFrom w l ⟨#[]⟩).size < m → fr.length + l.length ≤ 500 → feedFrom w m (encFrom w l ⟨#[]⟩) fr = (⟨#[]⟩, fr ++ l, false)
  | [], 0, fr, _, h, _ => by omega
  | [], m + 1, fr, _, h, _ => by
    unfold encFrom feedFrom
    rw [front_empty, if_pos rfl, List.append_nil]
  | p :: r, 0, fr, _, h, _ => by omega
  | p :: r, m + 1, fr, hl, h, hn => by
    have hp := hl p List.mem_cons_self
    have hr := fun q hq => hl q (List.mem_cons_of_mem p hq)
    have e : encFrom w (p :: r) ⟨#[]⟩ = frame p w ++ encFrom w r ⟨#[]⟩ := by
      rw [encFrom, if_pos hp, encFrom_acc w r _ hr, ba_empty_append]
    rw [List.length_cons] at hn
    rw [e] at h ⊢
    rw [ByteArray.size_append] at h
    have hz : 1 ≤ (frame p w).size := by
      unfold frame
      rw [ByteArray.size_append, ByteArray.size_append]
      omega
    rw [feedFrom, front_frame hw hp, if_neg (by simp), if_neg (by simp), if_neg (by omega)]
    have ed : (frame p w ++ encFrom w r ⟨#[]⟩).extract (((frame p w).size : Int)).toNat (frame p w ++ encFrom w r ⟨#[]⟩).size = encFrom w r ⟨#[]⟩ := by
      rw [Int.toNat_natCast, ext_rest (Nat.le_refl _)]
      apply ba_ext
      rw [data_append, ext_data, List.take_of_length_le (by rw [size_toList]; exact Nat.le_refl _), List.drop_of_length_le (by rw [size_toList]; exact Nat.le_refl _), List.nil_append]
    show feedFrom w m ((frame p w ++ encFrom w r ⟨#[]⟩).extract (((frame p w).size : Int)).toNat (frame p w ++ encFrom w r ⟨#[]⟩).size) (fr ++ [p]) = _
    rw [ed, feed_enc hw r m (fr ++ [p]) hr (by omega) (by rw [List.length_append, List.length_singleton]; omega), List.append_assoc]
    rfl
/-- What was encoded comes out. -/
theorem feed_encode (l : List ByteArray) (w : Int) (h : (encode l w).size ≠ 0) : feed w ⟨#[]⟩ [] false (encode l w) = (w, ⟨#[]⟩, l, false) := by
  unfold encode at h ⊢
  by_cases c : (1 ≤ w ∧ w ≤ 8) ∧ l.length ≤ 500
  · rw [if_pos c] at h ⊢
    by_cases a : ∀ p ∈ l, 1 ≤ (p.size : Int) ∧ (p.size : Int) ≤ 1000
    · unfold feed
      rw [if_pos (validDec_mk c.1 (by simp) rfl (fun h => by cases h) (fun _ => by rw [front_empty])), if_neg (by simp), ba_empty_append, feed_enc c.1 l _ [] a (Nat.lt_succ_self _) (by simpa using c.2)]
      rfl
    · rw [encFrom_bad w l _ a] at h
      exact absurd rfl h
  · rw [if_neg c] at h
    exact absurd rfl h

end Go.Proofs.Ytknagppkeodggaa.Pure

