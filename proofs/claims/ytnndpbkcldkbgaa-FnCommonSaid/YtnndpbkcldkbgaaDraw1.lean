/- What the reader of codes draws: a number in range, one place further. Conditions: bytes, and a place that is not far out. -/
import Derived.Test.YtnndpbkcldkbgaaPSpecL1Open
import Derived.Test.YtnndpbkcldkbgaaPSpecL1RdPick
import Derived.Test.YtnndpbkcldkbgaaBase
import Derived.Laws.Bits64
namespace Go.Proofs.Ytnndpbkcldkbgaa.Pure
open Go Go.RowKit Go.Proofs.Ytnndpbkcldkbgaa.P Go.Proofs.YtnndpbkcldkbgaaW.PrintWords Go.Proofs.YtnndpbkcldkbgaaW.PrintLast
set_option linter.unusedVariables false
set_option linter.unusedSimpArgs false

/-- The bytes that a reader holds. -/
def Code (b : List Int) : Prop := b.length ≤ 2000 ∧ ∀ x ∈ b, 0 ≤ x ∧ x ≤ 255
theorem code_rd {b : List Int} (h : Code b) (i : Int) : 0 ≤ rd b i ∧ rd b i ≤ 255 := by
  unfold rd
  rw [List.getD_eq_getElem?_getD]
  cases hx : b[i.toNat]? with
  | none => simp
  | some x => exact h.2 x (List.mem_of_getElem? hx)
theorem bytes_of_wf {l : List Int} (h : ∀ x ∈ l, (Lit.int .u8 x).wf = true) : ∀ x ∈ l, 0 ≤ x ∧ x ≤ 255 := fun x hx => by
  have := h x hx
  simp [Lit.wf, IntKind.min, IntKind.max, IntKind.signed, IntKind.bits] at this
  omega
theorem open_ev (l : List Int) (h : ∀ x ∈ l, 0 ≤ x ∧ x ≤ 255) : ∃ b, Code b ∧ spec_l1Open.f l = some (b, 0) := by
  unfold spec_l1Open.f
  split
  · rename_i hl
    refine ⟨l.take 2000, ⟨by rw [List.length_take]; omega, fun x hx => h x (List.mem_of_mem_take hx)⟩, by rw [if_pos (by omega)]⟩
  · rename_i hl
    exact ⟨l, ⟨by omega, h⟩, rfl⟩

theorem xor_i64 (a b : Nat) (ha : a < 9223372036854775808) (hb : b < 9223372036854775808) : Go.bits .xor .i64 (a : Int) (b : Int) = ((a ^^^ b : Nat) : Int) := by
  have hx : a ^^^ b < 2 ^ 63 := Nat.xor_lt_two_pow (by omega) (by omega)
  have h1 : (BitVec.ofInt 64 (a : Int)).toNat = a := by
    rw [BitVec.ofInt_natCast, BitVec.toNat_ofNat]; exact Nat.mod_eq_of_lt (by omega)
  have h2 : (BitVec.ofInt 64 (b : Int)).toNat = b := by
    rw [BitVec.ofInt_natCast, BitVec.toNat_ofNat]; exact Nat.mod_eq_of_lt (by omega)
  show IntKind.i64.wrap ((BitVec.ofInt 64 (a : Int) ^^^ BitVec.ofInt 64 (b : Int)).toNat : Int) = _
  rw [BitVec.toNat_xor, h1, h2]
  generalize a ^^^ b = c at hx
  simp [IntKind.wrap, IntKind.bits, IntKind.signed]
  omega
theorem xor_range {x : Int} (h0 : 0 ≤ x) (h1 : x < 9223372036854775808) : 0 ≤ Go.bits .xor .i64 x (Int.tdiv x 64) := by
  obtain ⟨n, rfl⟩ := Int.eq_ofNat_of_zero_le h0
  rw [Int.tdiv_eq_ediv_of_nonneg h0, show ((n : Int) / 64) = ((n / 64 : Nat) : Int) from by omega, xor_i64 n _ (by omega) (by omega)]
  exact Int.natCast_nonneg _

/-- A draw: a number below n, the reader one place further. -/
def Drawn (n r : Int) : Prop := (1 ≤ n → 0 ≤ r ∧ r < n) ∧ (n < 1 → r = 0)
theorem drawn_tmod {n x : Int} (hn : 1 ≤ n) (h : 0 ≤ x) : Drawn n (Int.tmod x n) := by
  rw [Int.tmod_eq_emod_of_nonneg h]
  exact ⟨fun _ => ⟨Int.emod_nonneg _ (by omega), Int.emod_lt_of_pos _ (by omega)⟩, fun hh => by omega⟩
theorem pick_j0 (b : List Int) (hb : Code b) (n p : Int) (hn : 1 ≤ n) (h0 : 0 ≤ p) (h1 : p ≤ 1000000000000) (hne : (b.length : Int) ≠ 0) (k : Nat) :
    ∃ r, Drawn n r ∧ spec_l1Rd_pick.j0 (k + 1) n false b (p + 1) = some (r, p + 1) := by
  simp only [spec_l1Rd_pick.j0]
  rw [if_neg (by simp), w64 (by omega) (by omega), show p + 1 - 1 = p from by omega, if_pos h0, if_neg hne]
  split
  · have hr := code_rd hb p
    rw [if_neg (show ¬ n = 0 by omega), w64 (by omega) (by omega)]
    exact ⟨_, drawn_tmod hn hr.1, rfl⟩
  · have hpos : (0 : Int) < (b.length : Int) := by omega
    have hl := hb.1
    rw [w64 (n := p * 7) (by omega) (by omega), w64 (n := p * 7 + 3) (by omega) (by omega), Int.tmod_eq_emod_of_nonneg h0, Int.tmod_eq_emod_of_nonneg (show 0 ≤ p * 7 + 3 by omega)]
    have m1 := Int.emod_nonneg p (show (b.length : Int) ≠ 0 by omega)
    have m2 := Int.emod_lt_of_pos p hpos
    have m3 := Int.emod_nonneg (p * 7 + 3) (show (b.length : Int) ≠ 0 by omega)
    have m4 := Int.emod_lt_of_pos (p * 7 + 3) hpos
    rw [if_pos m1, if_pos m2, if_pos m3, if_pos m4, if_neg (by omega)]
    have a1 := code_rd hb (p % (b.length : Int))
    have a2 := code_rd hb ((p * 7 + 3) % (b.length : Int))
    have a3 : 0 ≤ Int.tdiv p (b.length : Int) ∧ Int.tdiv p (b.length : Int) ≤ p := by
      rw [Int.tdiv_eq_ediv_of_nonneg h0]
      exact ⟨Int.ediv_nonneg h0 (by omega), Int.ediv_le_self _ h0⟩
    generalize rd b (p % (b.length : Int)) = x1 at a1 ⊢
    generalize rd b ((p * 7 + 3) % (b.length : Int)) = x2 at a2 ⊢
    generalize Int.tdiv p (b.length : Int) = x3 at a3 ⊢
    rw [w64 (n := x1) (by omega) (by omega), w64 (n := x2) (by omega) (by omega), w64 (n := x1 * 131) (by omega) (by omega), w64 (n := x2 * 1117) (by omega) (by omega), w64 (n := x1 * 131 + x2 * 1117) (by omega) (by omega), w64 (n := p * 29) (by omega) (by omega), w64 (n := x1 * 131 + x2 * 1117 + p * 29) (by omega) (by omega), w64 (n := x3) (by omega) (by omega), w64 (n := x3 * 53) (by omega) (by omega), w64 (n := x1 * 131 + x2 * 1117 + p * 29 + x3 * 53) (by omega) (by omega)]
    have hx : 0 ≤ x1 * 131 + x2 * 1117 + p * 29 + x3 * 53 ∧ x1 * 131 + x2 * 1117 + p * 29 + x3 * 53 < 9223372036854775808 := by omega
    generalize x1 * 131 + x2 * 1117 + p * 29 + x3 * 53 = x at hx ⊢
    have hd : 0 ≤ Int.tdiv x 64 ∧ Int.tdiv x 64 ≤ x := by
      rw [Int.tdiv_eq_ediv_of_nonneg hx.1]
      omega
    rw [w64 (n := Int.tdiv x 64) (by omega) (by omega)]
    exact ⟨_, drawn_tmod hn (xor_range hx.1 hx.2), rfl⟩
theorem pick_ev (b : List Int) (hb : Code b) (p n : Int) (h0 : 0 ≤ p) (h1 : p ≤ 1000000000000) : ∃ r, Drawn n r ∧ Ev (fun k => spec_l1Rd_pick.f k b p n) (r, p + 1) := by
  unfold spec_l1Rd_pick.f
  rw [w64 (by omega) (by omega)]
  by_cases hn : n < 1
  · refine ⟨0, ⟨fun h => by omega, fun _ => rfl⟩, Ev.step (f := fun _ => some (0, p + 1)) (fun k => ?_) (Ev.now _)⟩
    rw [if_pos hn]
    simp only [spec_l1Rd_pick.j0]
    rfl
  · by_cases he : (b.length : Int) = 0
    · refine ⟨0, ⟨fun h => by omega, fun _ => rfl⟩, Ev.step (f := fun _ => some (0, p + 1)) (fun k => ?_) (Ev.now _)⟩
      rw [if_neg hn, beq_iff_eq.2 he]
      simp only [spec_l1Rd_pick.j0]
      rfl
    · obtain ⟨r, hr, hj⟩ := pick_j0 b hb n p (by omega) h0 h1 he 0
      refine ⟨r, hr, Ev.neg hn ?_⟩
      rw [beq_eq_false_iff_ne.2 he]
      refine Ev.step (f := fun _ => some (r, p + 1)) (fun k => ?_) (Ev.now _)
      rw [← hj]
      simp only [spec_l1Rd_pick.j0]
/-- A draw of a number from 0 to n - 1. -/
theorem pick_some (b : List Int) (hb : Code b) (p n : Int) (h0 : 0 ≤ p) (h1 : p ≤ 1000000000000) (hn : 1 ≤ n) : ∃ r, (0 ≤ r ∧ r < n) ∧ Ev (fun k => spec_l1Rd_pick.f k b p n) (r, p + 1) := by
  obtain ⟨r, hr, h⟩ := pick_ev b hb p n h0 h1
  exact ⟨r, hr.1 hn, h⟩

/-- A draw with its reader: r below n, the place one further. -/
theorem pick_evs (b : List Int) (hb : Code b) (p n : Int) (h0 : 0 ≤ p) (h1 : p ≤ 1000000000000) (hn : 1 ≤ n) : Evs (fun k => spec_l1Rd_pick.f k b p n) (fun x => (0 ≤ x.1 ∧ x.1 < n) ∧ x.2 = p + 1) := by
  obtain ⟨r, hr, h⟩ := pick_some b hb p n h0 h1 hn
  exact ⟨_, ⟨hr, rfl⟩, h⟩
theorem tmod_range {a n : Int} (h0 : 0 ≤ a) (hn : 1 ≤ n) : 0 ≤ Int.tmod a n ∧ Int.tmod a n < n := by
  rw [Int.tmod_eq_emod_of_nonneg h0]
  exact ⟨Int.emod_nonneg _ (by omega), Int.emod_lt_of_pos _ (by omega)⟩

end Go.Proofs.Ytnndpbkcldkbgaa.Pure
