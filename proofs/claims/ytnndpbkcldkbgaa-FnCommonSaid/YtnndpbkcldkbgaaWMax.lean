/- laws.wMax: the longest list's length, by one row from the front. Conditions: sizes. -/
import Derived.Test.YtnndpbkcldkbgaaPLawsWMax
import Derived.Test.YtnndpbkcldkbgaaLcs
import Derived.Test.YtnndpbkcldkbgaaCommon
namespace Go.Proofs.Ytnndpbkcldkbgaa.Pure
open Go Go.RowKit Go.Proofs.Ytnndpbkcldkbgaa.P Go.Proofs.YtnndpbkcldkbgaaW.PrintWords Go.Proofs.YtnndpbkcldkbgaaW.PrintLast
set_option linter.unusedVariables false
set_option linter.unusedSimpArgs false

section
variable (a b : List ByteArray)
def rowF (i : Nat) : List Int := (List.range (b.length + 1)).map fun c => (pf a b i c : Int)
def rowAt (i j : Nat) : List Int := (List.range (b.length + 1)).map fun c => if c ≤ j then (pf a b (i + 1) c : Int) else (pf a b i c : Int)
theorem rowAt_len (i j : Nat) : (rowAt a b i j).length = b.length + 1 := by simp [rowAt]
theorem rowAt_zero (i : Nat) : rowAt a b i 0 = rowF a b i := by
  unfold rowAt rowF
  refine map_range_congr _ (fun c _ => ?_)
  split
  · rename_i h
    obtain rfl : c = 0 := by omega
    rw [pf_zero2, pf_zero2]
  · rfl
theorem rowAt_full (i : Nat) : rowAt a b i b.length = rowF a b (i + 1) := by
  unfold rowAt rowF
  exact map_range_congr _ (fun c hc => if_pos (by omega))
theorem rowAt_put {i j : Nat} {v : Int} (hv : (pf a b (i + 1) (j + 1) : Int) = v) : (rowAt a b i j).set (j + 1) v = rowAt a b i (j + 1) := by
  unfold rowAt
  rw [map_range_set]
  refine map_range_congr _ (fun c _ => ?_)
  by_cases h : c = j + 1
  · rw [if_pos h, if_pos (by omega), h, hv]
  · rw [if_neg h]
    by_cases h2 : c ≤ j
    · rw [if_pos h2, if_pos (by omega)]
    · rw [if_neg h2, if_neg (by omega)]
theorem rowAt_same {i j : Nat} (hv : pf a b (i + 1) (j + 1) = pf a b i (j + 1)) : rowAt a b i j = rowAt a b i (j + 1) := by
  unfold rowAt
  refine map_range_congr _ (fun c _ => ?_)
  by_cases h : c = j + 1
  · rw [h, if_neg (by omega), if_pos (by omega), hv]
  · by_cases h2 : c ≤ j
    · rw [if_pos h2, if_pos (by omega)]
    · rw [if_neg h2, if_neg (by omega)]
theorem rowAt_old {i j : Nat} (h : j < b.length) : rd (rowAt a b i j) ((j + 1 : Nat) : Int) = (pf a b i (j + 1) : Int) := by
  unfold rowAt
  rw [rd_map _ (by omega), if_neg (by omega)]
theorem rowAt_new {i j : Nat} (h : j ≤ b.length) : rd (rowAt a b i j) (j : Int) = (pf a b (i + 1) j : Int) := by
  unfold rowAt
  rw [rd_map _ (by omega), if_pos (by omega)]
variable (ha : a.length ≤ 1500) (hb : b.length ≤ 1500)
include ha hb
theorem wMax_l1 {i : Nat} (hi : i < a.length) (R : Int) (hn : Ev (fun k => laws_wMax.l0 k a b (rowF a b (i + 1)) ((i + 1 : Nat) : Int)) R) : ∀ (d j : Nat), j + d = b.length → Ev (fun k => laws_wMax.l1 k a b (rowAt a b i j) (i : Int) (pf a b i j : Int) (j : Int)) R
  | 0, j, hd => by
    obtain rfl : j = b.length := by omega
    rw [rowAt_full]
    refine Ev.step (fun k => laws_wMax.l1.eq_2 ..) (Ev.neg (by omega) ?_)
    rw [w64 (n := (i : Int) + 1) (by omega) (by omega)]
    exact hn
  | d + 1, j, hd => by
    have hj : j < b.length := by omega
    have hl := rowAt_len a b i j
    have hp := pf_le a b i j
    have hst := pf_step (a := a) (b := b) hi hj
    refine Ev.step (fun k => laws_wMax.l1.eq_2 ..) (Ev.pos (by omega) ?_)
    rw [w64 (n := (j : Int) + 1) (by omega) (by omega), show (j : Int) + 1 = ((j + 1 : Nat) : Int) from by omega, Int.toNat_natCast, rd_of hi, rd_of hj, rowAt_old a b hj, rowAt_new a b (by omega), w64 (n := (pf a b i j : Int) + 1) (by omega) (by omega)]
    refine Ev.pos (by omega) (Ev.pos (by omega) (Ev.pos (by omega) (Ev.pos (by omega) (Ev.pos (by omega) ?_))))
    by_cases h : a[i].toList = b[j].toList
    · refine Ev.pos h ?_
      rw [if_pos (tl_inj h)] at hst
      rw [rowAt_put a b (v := (pf a b i j : Int) + 1) (by omega)]
      exact wMax_l1 hi R hn d (j + 1) (by omega)
    · refine Ev.neg h (Ev.pos (by omega) ?_)
      rw [if_neg (fun e => h (by rw [e]))] at hst
      by_cases h2 : (pf a b (i + 1) j : Int) > (pf a b i (j + 1) : Int)
      · refine Ev.pos h2 ?_
        rw [rowAt_put a b (v := (pf a b (i + 1) j : Int)) (by omega)]
        exact wMax_l1 hi R hn d (j + 1) (by omega)
      · refine Ev.neg h2 ?_
        rw [rowAt_same a b (by omega)]
        exact wMax_l1 hi R hn d (j + 1) (by omega)
theorem wMax_l0 : ∀ (d i : Nat), i + d = a.length → Ev (fun k => laws_wMax.l0 k a b (rowF a b i) (i : Int)) (lc a b 0 0 : Int)
  | 0, i, hd => by
    obtain rfl : i = a.length := by omega
    have hl : (rowF a b a.length).length = b.length + 1 := by simp [rowF]
    refine Ev.step (fun k => laws_wMax.l0.eq_2 ..) (Ev.neg (by omega) (Ev.pos (by omega) (Ev.pos (by omega) ?_)))
    have e : rd (rowF a b a.length) (b.length : Int) = (lc a b 0 0 : Int) := by
      unfold rowF
      rw [rd_map _ (by omega), pf_full]
    rw [e]
    exact Ev.now _
  | d + 1, i, hd => by
    refine Ev.step (fun k => laws_wMax.l0.eq_2 ..) (Ev.pos (by omega) ?_)
    have := wMax_l1 a b ha hb (i := i) (by omega) _ (wMax_l0 d (i + 1) (by omega)) b.length 0 (by omega)
    rw [rowAt_zero, pf_zero2] at this
    exact this
theorem wMax_ev : Ev (fun k => laws_wMax.f k a b) (lc a b 0 0 : Int) := by
  unfold laws_wMax.f
  rw [w64 (n := (b.length : Int) + 1) (by omega) (by omega), show (b.length : Int) + 1 = ((b.length + 1 : Nat) : Int) from by omega, Int.toNat_natCast]
  refine Ev.pos (by omega) (Ev.pos (by omega) ?_)
  have e : List.replicate (b.length + 1) (0 : Int) = rowF a b 0 := by
    unfold rowF
    rw [replicate_range]
    exact map_range_congr _ (fun c _ => by rw [pf_zero1]; rfl)
  rw [e]
  exact wMax_l0 a b ha hb a.length 0 (by omega)
end

end Go.Proofs.Ytnndpbkcldkbgaa.Pure
