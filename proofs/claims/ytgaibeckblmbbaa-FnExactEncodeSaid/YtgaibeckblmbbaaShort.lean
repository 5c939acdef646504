/- Short numbers: what both write. No condition but that the number is one of 64 bits. -/
import Derived.Test.YtgaibeckblmbbaaPImplShort
import Derived.Test.YtgaibeckblmbbaaPSpecL2Short
import Derived.Test.YtgaibeckblmbbaaBase
import Derived.Laws.BitsAllLaws
namespace Go.Proofs.Ytgaibeckblmbbaa.Pure
open Go Go.RowKit Go.Proofs.Ytgaibeckblmbbaa.P Go.Proofs.YtgaibeckblmbbaaW.PrintWords Go.Proofs.YtgaibeckblmbbaaW.PrintLast
set_option linter.unusedVariables false
set_option linter.unusedSimpArgs false

/-- The short number of n: its bytes of seven bits. -/
def shortN (n : Nat) : List Int := if h : n < 128 then [(n : Int)] else ((n % 128 + 128 : Nat) : Int) :: shortN (n / 128)
termination_by n
decreasing_by omega
theorem shortN_small {n : Nat} (h : n < 128) : shortN n = [(n : Int)] := by rw [shortN, dif_pos h]
theorem shortN_more {n : Nat} (h : 128 ≤ n) : shortN n = ((n % 128 + 128 : Nat) : Int) :: shortN (n / 128) := by rw [shortN, dif_neg (by omega)]
theorem or128 : ∀ m : Fin 256, (m.val ||| 128) = m.val % 128 + 128 := by decide +kernel
theorem spec_short_l0 : ∀ (d n : Nat) (acc : List Int), n < 128 ^ d → n < 18446744073709551616 → acc.length + d ≤ 100 → Ev (fun k => spec_l2Short.l0 k (n : Int) acc) (strOfNums (acc ++ shortN n))
  | 0, n, acc, hn, _, _ => by
    obtain rfl : n = 0 := by simpa using hn
    refine Ev.step (fun k => spec_l2Short.l0.eq_2 ..) (Ev.neg (by omega) (Ev.pos (by omega) ?_))
    rw [shortN_small (by omega)]
    exact Ev.now _
  | d + 1, n, acc, hn, h64, hl => by
    by_cases h : n < 128
    · refine Ev.step (fun k => spec_l2Short.l0.eq_2 ..) (Ev.neg (by omega) (Ev.pos (by omega) ?_))
      rw [shortN_small h, show (n : Int) % 256 = (n : Int) from by omega]
      exact Ev.now _
    · refine Ev.step (fun k => spec_l2Short.l0.eq_2 ..) (Ev.pos (by omega) (Ev.pos (by omega) ?_))
      rw [Int.tdiv_eq_ediv_of_nonneg (by omega), Int.tmod_eq_emod_of_nonneg (by omega), u64_in (n := (n : Int) / 128) (by omega) (by omega), u64_in (n := (n : Int) % 128 + 128) (by omega) (by omega), show (n : Int) / 128 = ((n / 128 : Nat) : Int) from by omega]
      have := spec_short_l0 d (n / 128) (acc ++ [((n : Int) % 128 + 128) % 256]) (by rw [Nat.pow_succ] at hn; omega) (by omega) (by rw [List.length_append]; simp; omega)
      rw [shortN_more (by omega)]
      rw [List.append_assoc, show ((n : Int) % 128 + 128) % 256 = ((n % 128 + 128 : Nat) : Int) from by omega] at this
      rw [show ((n : Int) % 128 + 128) % 256 = ((n % 128 + 128 : Nat) : Int) from by omega]
      exact this
theorem impl_short_l0 : ∀ (d n : Nat) (acc : List Int), n < 128 ^ d → acc.length + d ≤ 100 → Ev (fun k => impl_short.l0 k (n : Int) acc) (strOfNums (acc ++ shortN n))
  | 0, n, acc, hn, _ => by
    obtain rfl : n = 0 := by simpa using hn
    refine Ev.step (fun k => impl_short.l0.eq_2 ..) (Ev.neg (by omega) (Ev.pos (by omega) ?_))
    rw [shortN_small (by omega)]
    exact Ev.now _
  | d + 1, n, acc, hn, hl => by
    by_cases h : n < 128
    · refine Ev.step (fun k => impl_short.l0.eq_2 ..) (Ev.neg (by omega) (Ev.pos (by omega) ?_))
      rw [shortN_small h, show (n : Int) % 256 = (n : Int) from by omega]
      exact Ev.now _
    · refine Ev.step (fun k => impl_short.l0.eq_2 ..) (Ev.pos (by omega) (Ev.pos (by omega) ?_))
      have e : Go.bits .or .u8 ((n : Int) % 256) 128 = ((n % 128 + 128 : Nat) : Int) := by
        rw [u8_or _ _ (by omega) (by omega) (by omega) (by omega)]
        have := or128 ⟨n % 256, by omega⟩
        dsimp only at this
        rw [show ((n : Int) % 256).toNat = n % 256 from by omega, show (128 : Int).toNat = 128 from rfl, this, Nat.mod_mod_of_dvd _ (by decide)]
      rw [e, show (n : Int) / 128 = ((n / 128 : Nat) : Int) from by omega, shortN_more (by omega)]
      have := impl_short_l0 d (n / 128) (acc ++ [((n % 128 + 128 : Nat) : Int)]) (by rw [Nat.pow_succ] at hn; omega) (by rw [List.length_append]; simp; omega)
      rw [List.append_assoc] at this
      exact this
def shortS (n : Nat) : ByteArray := strOfNums (shortN n)
theorem spec_short_ev (n : Nat) (h : n < 18446744073709551616) : Ev (fun k => spec_l2Short.f k (n : Int)) (shortS n) := by
  have := spec_short_l0 20 n [] (Nat.lt_of_lt_of_le h (by decide)) h (by simp)
  exact this
theorem impl_short_ev (n : Nat) (h : n < 18446744073709551616) : Ev (fun k => impl_short.f k (n : Int)) (shortS n) := by
  have := impl_short_l0 20 n [] (Nat.lt_of_lt_of_le h (by decide)) (by simp)
  exact this
theorem shortN_len : ∀ (d n : Nat), n < 128 ^ (d + 1) → (shortN n).length ≤ d + 1
  | 0, n, h => by rw [shortN_small (by simpa using h)]; simp
  | d + 1, n, h => by
    by_cases hn : n < 128
    · rw [shortN_small hn]; simp
    · rw [shortN_more (by omega), List.length_cons]
      have := shortN_len d (n / 128) (by rw [Nat.pow_succ] at h; omega)
      omega
theorem shortS_size (n : Nat) (h : n < 18446744073709551616) : (shortS n).size ≤ 10 := by
  unfold shortS
  rw [son_size]
  exact shortN_len 9 n (Nat.lt_of_lt_of_le h (by decide))

end Go.Proofs.Ytgaibeckblmbbaa.Pure
