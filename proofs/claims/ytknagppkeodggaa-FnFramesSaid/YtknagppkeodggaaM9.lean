/- Several texts of this claim in one file: YtknagppkeodggaaDraw1, YtknagppkeodggaaDrawText, YtknagppkeodggaaDrawFrames, YtknagppkeodggaaPureFnFrames. -/
import Derived.Test.YtknagppkeodggaaM4
import Derived.Test.YtknagppkeodggaaM7
import Derived.Test.YtknagppkeodggaaM3
import Derived.Laws.Bits64
import Derived.Test.YtknagppkeodggaaM8
import Derived.Test.YtknagppkeodggaaM6
namespace Go.Proofs.Ytknagppkeodggaa.Pure
open Go Go.RowKit Go.Proofs.Ytknagppkeodggaa.P Go.Proofs.YtknagppkeodggaaW.PrintWords Go.Proofs.YtknagppkeodggaaW.PrintLast
set_option linter.unusedVariables false
set_option linter.unusedSimpArgs false

/-- The bytes that a reader holds. -/
def Code (b : List Int) : Prop := b.length ≤ 2000 ∧ ∀ x ∈ b, 0 ≤ x ∧ x ≤ 255
theorem code_rd {b : List Int} (h : Code b) (i : Int) : 0 ≤ rd b i ∧ rd b i ≤ 255 := by
  unfold rd
  rw [List.getD_eq_getElem?_getD]
  cases hx : b[i.toNat]? with
  | none => simp
  | some x => exact h.2 x (List.mem_of_getElem? hx)
theorem bytes_of_wf {l : List Int} (h : ∀ x ∈ l, (Lit.int .u8 x).wf = true) : ∀ x ∈ l, 0 ≤ x ∧ x ≤ 255 := fun x hx => by
  have := h x hx
  simp [Lit.wf, IntKind.min, IntKind.max, IntKind.signed, IntKind.bits] at this
  omega
theorem open_ev (l : List Int) (h : ∀ x ∈ l, 0 ≤ x ∧ x ≤ 255) : ∃ b, Code b ∧ spec_l1Open.f l = some (b, 0) := by
  unfold spec_l1Open.f
  split
  · rename_i hl
    refine ⟨l.take 2000, ⟨by rw [List.length_take]; omega, fun x hx => h x (List.mem_of_mem_take hx)⟩, by rw [if_pos (by omega)]⟩
  · rename_i hl
    exact ⟨l, ⟨by omega, h⟩, rfl⟩

theorem xor_i64 (a b : Nat) (ha : a < 9223372036854775808) (hb : b < 9223372036854775808) : Go.bits .xor .i64 (a : Int) (b : Int) = ((a ^^^ b : Nat) : Int) := by
  have hx : a ^^^ b < 2 ^ 63 := Nat.xor_lt_two_pow (by omega) (by omega)
  have h1 : (BitVec.ofInt 64 (a : Int)).toNat = a := by
    rw [BitVec.ofInt_natCast, BitVec.toNat_ofNat]; exact Nat.mod_eq_of_lt (by omega)
  have h2 : (BitVec.ofInt 64 (b : Int)).toNat = b := by
    rw [BitVec.ofInt_natCast, BitVec.toNat_ofNat]; exact Nat.mod_eq_of_lt (by omega)
  show IntKind.i64.wrap ((BitVec.ofInt 64 (a : Int) ^^^ BitVec.ofInt 64 (b : Int)).toNat : Int) = _
  rw [BitVec.toNat_xor, h1, h2]
  generalize a ^^^ b = c at hx
  simp [IntKind.wrap, IntKind.bits, IntKind.signed]
  omega
theorem xor_range {x : Int} (h0 : 0 ≤ x) (h1 : x < 9223372036854775808) : 0 ≤ Go.bits .xor .i64 x (Int.tdiv x 64) := by
  obtain ⟨n, rfl⟩ := Int.eq_ofNat_of_zero_le h0
  rw [Int.tdiv_eq_ediv_of_nonneg h0, show ((n : Int) / 64) = ((n / 64 : Nat) : Int) from by omega, xor_i64 n _ (by omega) (by omega)]
  exact Int.natCast_nonneg _

/-- A draw: a number below n, the reader one place further. -/
def Drawn (n r : Int) : Prop := (1 ≤ n → 0 ≤ r ∧ r < n) ∧ (n < 1 → r = 0)
theorem drawn_tmod {n x : Int} (hn : 1 ≤ n) (h : 0 ≤ x) : Drawn n (Int.tmod x n) := by
  rw [Int.tmod_eq_emod_of_nonneg h]
  exact ⟨fun _ => ⟨Int.emod_nonneg _ (by omega), Int.emod_lt_of_pos _ (by omega)⟩, fun hh => by omega⟩
theorem pick_j0 (b : List Int) (hb : Code b) (n p : Int) (hn : 1 ≤ n) (h0 : 0 ≤ p) (h1 : p ≤ 1000000000000) (hne : (b.length : Int) ≠ 0) (k : Nat) :
    ∃ r, Drawn n r ∧ spec_l1Rd_pick.j0 (k + 1) n false b (p + 1) = some (r, p + 1) := by
  simp only [spec_l1Rd_pick.j0]
  rw [if_neg (by simp), w64 (by omega) (by omega), show p + 1 - 1 = p from by omega, if_pos h0, if_neg hne]
  split
  · have hr := code_rd hb p
    rw [if_neg (show ¬ n = 0 by omega), w64 (by omega) (by omega)]
    exact ⟨_, drawn_tmod hn hr.1, rfl⟩
  · have hpos : (0 : Int) < (b.length : Int) := by omega
    have hl := hb.1
    rw [w64 (n := p * 7) (by omega) (by omega), w64 (n := p * 7 + 3) (by omega) (by omega), Int.tmod_eq_emod_of_nonneg h0, Int.tmod_eq_emod_of_nonneg (show 0 ≤ p * 7 + 3 by omega)]
    have m1 := Int.emod_nonneg p (show (b.length : Int) ≠ 0 by omega)
    have m2 := Int.emod_lt_of_pos p hpos
    have m3 := Int.emod_nonneg (p * 7 + 3) (show (b.length : Int) ≠ 0 by omega)
    have m4 := Int.emod_lt_of_pos (p * 7 + 3) hpos
    rw [if_pos m1, if_pos m2, if_pos m3, if_pos m4, if_neg (by omega)]
    have a1 := code_rd hb (p % (b.length : Int))
    have a2 := code_rd hb ((p * 7 + 3) % (b.length : Int))
    have a3 : 0 ≤ Int.tdiv p (b.length : Int) ∧ Int.tdiv p (b.length : Int) ≤ p := by
      rw [Int.tdiv_eq_ediv_of_nonneg h0]
      exact ⟨Int.ediv_nonneg h0 (by omega), Int.ediv_le_self _ h0⟩
    generalize rd b (p % (b.length : Int)) = x1 at a1 ⊢
    generalize rd b ((p * 7 + 3) % (b.length : Int)) = x2 at a2 ⊢
    generalize Int.tdiv p (b.length : Int) = x3 at a3 ⊢
    rw [w64 (n := x1) (by omega) (by omega), w64 (n := x2) (by omega) (by omega), w64 (n := x1 * 131) (by omega) (by omega), w64 (n := x2 * 1117) (by omega) (by omega), w64 (n := x1 * 131 + x2 * 1117) (by omega) (by omega), w64 (n := p * 29) (by omega) (by omega), w64 (n := x1 * 131 + x2 * 1117 + p * 29) (by omega) (by omega), w64 (n := x3) (by omega) (by omega), w64 (n := x3 * 53) (by omega) (by omega), w64 (n := x1 * 131 + x2 * 1117 + p * 29 + x3 * 53) (by omega) (by omega)]
    have hx : 0 ≤ x1 * 131 + x2 * 1117 + p * 29 + x3 * 53 ∧ x1 * 131 + x2 * 1117 + p * 29 + x3 * 53 < 9223372036854775808 := by omega
    generalize x1 * 131 + x2 * 1117 + p * 29 + x3 * 53 = x at hx ⊢
    have hd : 0 ≤ Int.tdiv x 64 ∧ Int.tdiv x 64 ≤ x := by
      rw [Int.tdiv_eq_ediv_of_nonneg hx.1]
      omega
    rw [w64 (n := Int.tdiv x 64) (by omega) (by omega)]
    exact ⟨_, drawn_tmod hn (xor_range hx.1 hx.2), rfl⟩
theorem pick_ev (b : List Int) (hb : Code b) (p n : Int) (h0 : 0 ≤ p) (h1 : p ≤ 1000000000000) : ∃ r, Drawn n r ∧ Ev (fun k => spec_l1Rd_pick.f k b p n) (r, p + 1) := by
  unfold spec_l1Rd_pick.f
  rw [w64 (by omega) (by omega)]
  by_cases hn : n < 1
  · refine ⟨0, ⟨fun h => by omega, fun _ => rfl⟩, Ev.step (f := fun _ => some (0, p + 1)) (fun k => ?_) (Ev.now _)⟩
    rw [if_pos hn]
    simp only [spec_l1Rd_pick.j0]
    rfl
  · by_cases he : (b.length : Int) = 0
    · refine ⟨0, ⟨fun h => by omega, fun _ => rfl⟩, Ev.step (f := fun _ => some (0, p + 1)) (fun k => ?_) (Ev.now _)⟩
      rw [if_neg hn, beq_iff_eq.2 he]
      simp only [spec_l1Rd_pick.j0]
      rfl
    · obtain ⟨r, hr, hj⟩ := pick_j0 b hb n p (by omega) h0 h1 he 0
      refine ⟨r, hr, Ev.neg hn ?_⟩
      rw [beq_eq_false_iff_ne.2 he]
      refine Ev.step (f := fun _ => some (r, p + 1)) (fun k => ?_) (Ev.now _)
      rw [← hj]
      simp only [spec_l1Rd_pick.j0]
/-- A draw of a number from 0 to n - 1. -/
theorem pick_some (b : List Int) (hb : Code b) (p n : Int) (h0 : 0 ≤ p) (h1 : p ≤ 1000000000000) (hn : 1 ≤ n) : ∃ r, (0 ≤ r ∧ r < n) ∧ Ev (fun k => spec_l1Rd_pick.f k b p n) (r, p + 1) := by
  obtain ⟨r, hr, h⟩ := pick_ev b hb p n h0 h1
  exact ⟨r, hr.1 hn, h⟩

/-- A draw with its reader: r below n, the place one further. -/
theorem pick_evs (b : List Int) (hb : Code b) (p n : Int) (h0 : 0 ≤ p) (h1 : p ≤ 1000000000000) (hn : 1 ≤ n) : Evs (fun k => spec_l1Rd_pick.f k b p n) (fun x => (0 ≤ x.1 ∧ x.1 < n) ∧ x.2 = p + 1) := by
  obtain ⟨r, hr, h⟩ := pick_some b hb p n h0 h1 hn
  exact ⟨_, ⟨hr, rfl⟩, h⟩
theorem tmod_range {a n : Int} (h0 : 0 ≤ a) (hn : 1 ≤ n) : 0 ≤ Int.tmod a n ∧ Int.tmod a n < n := by
  rw [Int.tmod_eq_emod_of_nonneg h0]
  exact ⟨Int.emod_nonneg _ (by omega), Int.emod_lt_of_pos _ (by omega)⟩

end Go.Proofs.Ytknagppkeodggaa.Pure


namespace Go.Proofs.Ytknagppkeodggaa.Pure
open Go Go.RowKit Go.Proofs.Ytknagppkeodggaa.P Go.Proofs.YtknagppkeodggaaW.PrintWords Go.Proofs.YtknagppkeodggaaW.PrintLast
set_option linter.unusedVariables false
set_option linter.unusedSimpArgs false

theorem many_l0 : ∀ (d n : Nat) (s out : ByteArray), n < 2 ^ d → s.size * 2 ^ d ≤ 1000000000 → out.size + n * s.size ≤ 1000000000 → n ≤ 1000000000 → Evs (fun k => spec_l1Many.l0 k s (n : Int) out) (fun r => r.size = out.size + n * s.size)
  | 0, n, s, out, hn, _, _, _ => by
    obtain rfl : n = 0 := by simpa using hn
    exact Evs.step (fun k => spec_l1Many.l0.eq_2 ..) (Evs.neg (by omega) (Evs.ret (by omega)))
  | d + 1, n, s, out, hn, hs, ho, hb => by
    by_cases h0 : n = 0
    · subst h0
      exact Evs.step (fun k => spec_l1Many.l0.eq_2 ..) (Evs.neg (by omega) (Evs.ret (by omega)))
    have e1 : Int.tdiv (n : Int) 2 = ((n / 2 : Nat) : Int) := by rw [Int.tdiv_eq_ediv_of_nonneg (by omega)]; omega
    have e2 : Int.tmod (n : Int) 2 = ((n % 2 : Nat) : Int) := by rw [Int.tmod_eq_emod_of_nonneg (by omega)]; omega
    have es : (s ++ s).size = s.size + s.size := ByteArray.size_append
    have eo : (out ++ s).size = out.size + s.size := ByteArray.size_append
    have h2 : n / 2 < 2 ^ d := by rw [Nat.pow_succ] at hn; omega
    have h3 : (s ++ s).size * 2 ^ d ≤ 1000000000 := by
      rw [es, ← Nat.mul_two, Nat.mul_assoc, Nat.mul_comm 2, ← Nat.pow_succ]
      exact hs
    have hz : s.size ≤ 1000000000 := by
      have : 1 ≤ 2 ^ (d + 1) := Nat.one_le_two_pow
      exact Nat.le_trans (Nat.le_mul_of_pos_right _ this) hs
    have hm : n * s.size = (n / 2) * (s ++ s).size + (n % 2) * s.size := by
      rw [es, ← Nat.mul_two, Nat.mul_comm s.size 2, ← Nat.mul_assoc, ← Nat.add_mul]
      congr 1
      omega
    refine Evs.step (fun k => spec_l1Many.l0.eq_2 ..) (Evs.pos (by omega) ?_)
    rw [e1, e2, w64 (n := ((n / 2 : Nat) : Int)) (by omega) (by omega)]
    by_cases hp : n % 2 = 1
    · rw [hp, Nat.one_mul] at hm
      refine Evs.pos (by omega) (Evs.pos (by omega) (Evs.pos (by omega) ?_))
      exact (many_l0 d (n / 2) (s ++ s) (out ++ s) h2 h3 (by omega) (by omega)).mono (fun r hr => by omega)
    · rw [show n % 2 = 0 from by omega, Nat.zero_mul] at hm
      refine Evs.neg (by omega) (Evs.pos (by omega) ?_)
      exact (many_l0 d (n / 2) (s ++ s) out h2 h3 (by omega) (by omega)).mono (fun r hr => by omega)
theorem many_evs (s : ByteArray) (n : Nat) (hs : s.size ≤ 10000) (hn : n ≤ 10000) : Evs (fun k => spec_l1Many.f k s (n : Int)) (fun r => r.size = n * s.size) := by
  unfold spec_l1Many.f
  have hb : n * s.size ≤ 10000 * 10000 := Nat.mul_le_mul hn hs
  have hp : s.size * 2 ^ 14 ≤ 10000 * 2 ^ 14 := Nat.mul_le_mul_right _ hs
  have he : (10000 * 2 ^ 14 : Nat) = 163840000 := by decide
  have hz : (⟨#[]⟩ : ByteArray).size = 0 := rfl
  exact (many_l0 14 n s ⟨#[]⟩ (by have : (2 ^ 14 : Nat) = 16384 := by decide
                                  omega) (by omega) (by omega) (by omega)).mono (fun r hr => by omega)
theorem many_evs' (s : ByteArray) (n : Int) (hs : s.size ≤ 10000) (h0 : 0 ≤ n) (hn : n ≤ 10000) : Evs (fun k => spec_l1Many.f k s n) (fun r => r.size = n.toNat * s.size) := by
  have := many_evs s n.toNat hs (by omega)
  rwa [show (n.toNat : Int) = n from by omega] at this
/-- A text that is drawn, and the reader's place. -/
def TextAt (p : Int) (r : ByteArray × Int) : Prop := r.1.size ≤ 12 ∧ p ≤ r.2 ∧ r.2 ≤ p + 10
theorem abcd_size (t : Int) (h0 : 0 ≤ t) (h1 : t < 4) : 1 ≤ ((⟨#[97, 98, 99, 100]⟩ : ByteArray).extract t.toNat (⟨#[97, 98, 99, 100]⟩ : ByteArray).size).size := by
  rw [ByteArray.size_extract]
  have : (⟨#[97, 98, 99, 100]⟩ : ByteArray).size = 4 := rfl
  omega
theorem text_l0 (b : List Int) (hb : Code b) : ∀ (d : Nat) (out : ByteArray) (p : Int), out.size + 2 * d ≤ 1000 → d ≤ 100 → 0 ≤ p → p + d ≤ 100000000 → Evs (fun k => spec_l1Text.l0 k out (d : Int) b p) (fun r => r.1.size = out.size + 2 * d ∧ r.2 = p + d)
  | 0, out, p, _, _, _, _ => Evs.step (fun k => spec_l1Text.l0.eq_2 ..) (Evs.neg (by omega) (Evs.ret ⟨by show out.size = out.size + 2 * 0; omega, by simp⟩))
  | d + 1, out, p, h1, h2, h3, h4 => by
    refine Evs.step (fun k => spec_l1Text.l0.eq_2 ..) (Evs.pos (by omega) (Evs.bind (pick_evs b hb p 4 (by omega) (by omega) (by omega)) (fun t ht => ?_)))
    obtain ⟨⟨t0, t1⟩, t2⟩ := ht
    have hs := abcd_size t.1 t0 t1
    have hx : (((⟨#[97, 98, 99, 100]⟩ : ByteArray).extract t.1.toNat (⟨#[97, 98, 99, 100]⟩ : ByteArray).size).extract 0 1).size = 1 := by
      rw [ByteArray.size_extract]
      omega
    revert hx
    generalize ((⟨#[97, 98, 99, 100]⟩ : ByteArray).extract t.1.toNat (⟨#[97, 98, 99, 100]⟩ : ByteArray).size).extract 0 1 = x
    intro hx
    have e1 : (out ++ x).size = out.size + x.size := ByteArray.size_append
    have e2 : (out ++ x ++ (⟨#[10]⟩ : ByteArray)).size = (out ++ x).size + 1 := ByteArray.size_append
    refine Evs.pos t0 (Evs.pos (by omega) (Evs.pos (by omega) (Evs.pos (by omega) (Evs.pos (by omega) (Evs.pos (by omega) ?_)))))
    rw [w64 (n := ((d + 1 : Nat) : Int) - 1) (by omega) (by omega), show ((d + 1 : Nat) : Int) - 1 = (d : Int) from by omega, t2]
    exact (text_l0 b hb d _ (p + 1) (by omega) (by omega) (by omega) (by omega)).mono (fun r hr => ⟨by omega, by omega⟩)
theorem text_evs (b : List Int) (hb : Code b) (p : Int) (h0 : 0 ≤ p) (h1 : p ≤ 10000000) : Evs (fun k => spec_l1Text.f k b p) (TextAt p) := by
  unfold spec_l1Text.f
  refine Evs.bind (pick_evs b hb p 9 (by omega) (by omega) (by omega)) (fun t ht => ?_)
  obtain ⟨⟨t0, t1⟩, t2⟩ := ht
  refine Evs.ite (fun _ => Evs.ret ⟨by show (⟨#[]⟩ : ByteArray).size ≤ 12; decide, by show p ≤ t.2; omega, by show t.2 ≤ _; omega⟩) (fun _ => Evs.ite (fun _ => Evs.ret ⟨by show (⟨#[255, 0]⟩ : ByteArray).size ≤ 12; decide, by show p ≤ t.2; omega, by show t.2 ≤ _; omega⟩) (fun _ => Evs.ite (fun _ => Evs.ret ⟨by show (⟨#[110, 111, 32, 110, 101, 119, 108, 105, 110, 101]⟩ : ByteArray).size ≤ 12; decide, by show p ≤ t.2; omega, by show t.2 ≤ _; omega⟩) (fun _ => ?_)))
  refine Evs.bind (pick_evs b hb t.2 7 (by omega) (by omega) (by omega)) (fun u hu => ?_)
  obtain ⟨⟨u0, u1⟩, u2⟩ := hu
  obtain ⟨m, hm⟩ : ∃ m : Nat, u.1 = (m : Int) := ⟨u.1.toNat, by omega⟩
  rw [hm]
  have hz : (⟨#[]⟩ : ByteArray).size = 0 := rfl
  exact (text_l0 b hb m ⟨#[]⟩ u.2 (by omega) (by omega) (by omega) (by omega)).mono (fun r hr => ⟨by omega, by omega, by omega⟩)

end Go.Proofs.Ytknagppkeodggaa.Pure


namespace Go.Proofs.Ytknagppkeodggaa.Pure
open Go Go.RowKit Go.Proofs.Ytknagppkeodggaa.P Go.Proofs.YtknagppkeodggaaW.PrintWords Go.Proofs.YtknagppkeodggaaW.PrintLast
set_option linter.unusedVariables false
set_option linter.unusedSimpArgs false

theorem width_evs (b : List Int) (hb : Code b) (p : Int) (h0 : 0 ≤ p) (h1 : p ≤ 10000000) : Evs (fun k => spec_l1Width.f k b p) (fun r => (1 ≤ r.1 ∧ r.1 ≤ 8) ∧ r.2 = p + 1) := by
  unfold spec_l1Width.f
  refine Evs.sb (Evs.bind (pick_evs b hb p 6 (by omega) (by omega) (by omega)) (fun t ht => ?_))
  obtain ⟨⟨t0, t1⟩, t2⟩ := ht
  have hr : 1 ≤ rd [8, 8, 4, 2, 1, 1] t.1 ∧ rd [8, 8, 4, 2, 1, 1] t.1 ≤ 8 := by
    have : t.1 = 0 ∨ t.1 = 1 ∨ t.1 = 2 ∨ t.1 = 3 ∨ t.1 = 4 ∨ t.1 = 5 := by omega
    rcases this with h | h | h | h | h | h <;> rw [h] <;> decide
  exact Evs.pos t0 (Evs.pos (by simpa using t1) (Evs.ret ⟨hr, t2⟩))
def BentAt (n : Nat) (p : Int) (r : ByteArray × Int) : Prop := r.1.size ≤ 2 * n + 10 ∧ p ≤ r.2 ∧ r.2 ≤ p + 5
theorem bend_at (t : Int) (h0 : 0 ≤ t) (h1 : t < 256) (n : Nat) (hn : n ≤ 10000000) : 0 ≤ wrap64 (Int.tdiv (wrap64 (t * (wrap64 ((n : Int) + 1)))) 256) ∧ wrap64 (Int.tdiv (wrap64 (t * (wrap64 ((n : Int) + 1)))) 256) ≤ (n : Int) := by
  have hm : 0 ≤ t * ((n : Int) + 1) := Int.mul_nonneg h0 (by omega)
  have hM : t * ((n : Int) + 1) ≤ 255 * ((n : Int) + 1) := Int.mul_le_mul_of_nonneg_right (by omega) (by omega)
  rw [w64 (n := (n : Int) + 1) (by omega) (by omega), w64 (n := t * ((n : Int) + 1)) (by omega) (by omega)]
  generalize t * ((n : Int) + 1) = x at hm hM
  rw [Int.tdiv_eq_ediv_of_nonneg hm, w64 (n := x / 256) (by omega) (by omega)]
  omega
theorem bend_evs (b : List Int) (hb : Code b) (p : Int) (h0 : 0 ≤ p) (h1 : p ≤ 10000000) (a : ByteArray) (ha : a.size ≤ 10000000) : Evs (fun k => spec_l1Bend.f k b p a) (BentAt a.size p) := by
  unfold spec_l1Bend.f
  refine Evs.bind (pick_evs b hb p 256 (by omega) (by omega) (by omega)) (fun t ht => ?_)
  obtain ⟨⟨t0, t1⟩, t2⟩ := ht
  have hi := bend_at t.1 t0 t1 a.size ha
  generalize wrap64 (Int.tdiv (wrap64 (t.1 * (wrap64 ((a.size : Int) + 1)))) 256) = i at hi ⊢
  obtain ⟨i0, i1⟩ := hi
  have x0 : (a.extract 0 i.toNat).size = i.toNat := by rw [ByteArray.size_extract]; omega
  have x1 : (a.extract i.toNat a.size).size = a.size - i.toNat := by rw [ByteArray.size_extract]; omega
  have x2 : (a ++ a.extract i.toNat a.size).size = a.size + (a.extract i.toNat a.size).size := ByteArray.size_append
  have last : ∀ q : Int, p ≤ q → q ≤ p + 5 → Evs (fun _ => if 0 ≤ i then (if i ≤ (a.size : Int) then (if a.size + (a.extract i.toNat a.size).size ≤ 9223372036854775807 then (some (a ++ (a.extract i.toNat a.size), q)) else (none)) else (none)) else (none)) (BentAt a.size p) := fun q q0 q1 => Evs.pos i0 (Evs.pos i1 (Evs.pos (by omega) (Evs.ret ⟨by show (a ++ a.extract i.toNat a.size).size ≤ _; omega, q0, q1⟩)))
  refine Evs.bind (pick_evs b hb t.2 5 (by omega) (by omega) (by omega)) (fun u hu => ?_)
  obtain ⟨⟨u0, u1⟩, u2⟩ := hu
  refine Evs.ite (fun _ => Evs.pos i0 (Evs.pos i1 (Evs.ret ⟨by show (a.extract 0 i.toNat).size ≤ _; omega, by show p ≤ u.2; omega, by show u.2 ≤ _; omega⟩))) (fun _ => Evs.ite (fun _ => ?_) (fun _ => Evs.ite (fun _ => Evs.ite (fun c => ?_) (fun _ => last _ (by omega) (by omega))) (fun _ => Evs.ite (fun _ => Evs.ite (fun c => ?_) (fun _ => last _ (by omega) (by omega))) (fun _ => last _ (by omega) (by omega)))))
  · refine Evs.pos i0 (Evs.pos i1 (Evs.sb (Evs.bind (pick_evs b hb u.2 10 (by omega) (by omega) (by omega)) (fun v hv => ?_))))
    obtain ⟨⟨v0, v1⟩, v2⟩ := hv
    have hl : ∀ x ∈ ([(⟨#[32]⟩ : ByteArray), (⟨#[10]⟩ : ByteArray), (⟨#[34]⟩ : ByteArray), (⟨#[92]⟩ : ByteArray), (⟨#[48]⟩ : ByteArray), (⟨#[120]⟩ : ByteArray), (⟨#[47]⟩ : ByteArray), (⟨#[0]⟩ : ByteArray), (⟨#[128]⟩ : ByteArray), (⟨#[42]⟩ : ByteArray)] : List ByteArray), x.size = 1 := by decide
    have hlen : ([(⟨#[32]⟩ : ByteArray), (⟨#[10]⟩ : ByteArray), (⟨#[34]⟩ : ByteArray), (⟨#[92]⟩ : ByteArray), (⟨#[48]⟩ : ByteArray), (⟨#[120]⟩ : ByteArray), (⟨#[47]⟩ : ByteArray), (⟨#[0]⟩ : ByteArray), (⟨#[128]⟩ : ByteArray), (⟨#[42]⟩ : ByteArray)] : List ByteArray).length = 10 := rfl
    generalize ([(⟨#[32]⟩ : ByteArray), (⟨#[10]⟩ : ByteArray), (⟨#[34]⟩ : ByteArray), (⟨#[92]⟩ : ByteArray), (⟨#[48]⟩ : ByteArray), (⟨#[120]⟩ : ByteArray), (⟨#[47]⟩ : ByteArray), (⟨#[0]⟩ : ByteArray), (⟨#[128]⟩ : ByteArray), (⟨#[42]⟩ : ByteArray)] : List ByteArray) = L at hl hlen ⊢
    obtain ⟨m, hm⟩ : ∃ m : Nat, v.1 = (m : Int) := ⟨v.1.toNat, by omega⟩
    have hml : m < L.length := by omega
    rw [hm, rd_eq _ hml]
    have hx := hl L[m] (List.getElem_mem hml)
    have e1 : (a.extract 0 i.toNat ++ L[m]).size = (a.extract 0 i.toNat).size + L[m].size := ByteArray.size_append
    have e2 : (a.extract 0 i.toNat ++ L[m] ++ a.extract i.toNat a.size).size = (a.extract 0 i.toNat ++ L[m]).size + (a.extract i.toNat a.size).size := ByteArray.size_append
    exact Evs.pos (by omega) (Evs.pos (by omega) (Evs.pos (by omega) (Evs.pos (by omega) (Evs.ret ⟨by show (a.extract 0 i.toNat ++ L[m] ++ a.extract i.toNat a.size).size ≤ _; omega, by show p ≤ v.2; omega, by show v.2 ≤ _; omega⟩))))
  · rw [w64 (n := i + 1) (by omega) (by omega)]
    have x3 : (a.extract (i + 1).toNat a.size).size = a.size - (i + 1).toNat := by rw [ByteArray.size_extract]; omega
    have e1 : (a.extract 0 i.toNat ++ a.extract (i + 1).toNat a.size).size = (a.extract 0 i.toNat).size + (a.extract (i + 1).toNat a.size).size := ByteArray.size_append
    exact Evs.pos i0 (Evs.pos i1 (Evs.pos (by omega) (Evs.pos (by omega) (Evs.pos (by omega) (Evs.ret ⟨by show (a.extract 0 i.toNat ++ a.extract (i + 1).toNat a.size).size ≤ _; omega, by show p ≤ u.2; omega, by show u.2 ≤ _; omega⟩)))))
  · rw [w64 (n := i + 1) (by omega) (by omega)]
    have x3 : (a.extract (i + 1).toNat a.size).size = a.size - (i + 1).toNat := by rw [ByteArray.size_extract]; omega
    refine Evs.pos i0 (Evs.pos i1 (Evs.bind (pick_evs b hb u.2 8 (by omega) (by omega) (by omega)) (fun v hv => ?_)))
    obtain ⟨⟨v0, v1⟩, v2⟩ := hv
    refine Evs.pos (u64_range _).1 (Evs.sb ?_)
    generalize Go.bits .xor .i64 (wrap64 (bt a i)) (shl .i64 1 (IntKind.u64.wrap (v.1))) % 256 = z
    have hz : (strOfNums [z]).size = 1 := by rw [son_size]; rfl
    have e1 : (a.extract 0 i.toNat ++ strOfNums [z]).size = (a.extract 0 i.toNat).size + (strOfNums [z]).size := ByteArray.size_append
    have e2 : (a.extract 0 i.toNat ++ strOfNums [z] ++ a.extract (i + 1).toNat a.size).size = (a.extract 0 i.toNat ++ strOfNums [z]).size + (a.extract (i + 1).toNat a.size).size := ByteArray.size_append
    exact Evs.pos (by omega) (Evs.pos (by omega) (Evs.pos (by omega) (Evs.pos (by omega) (Evs.ret ⟨by show (a.extract 0 i.toNat ++ strOfNums [z] ++ a.extract (i + 1).toNat a.size).size ≤ _; omega, by show p ≤ v.2; omega, by show v.2 ≤ _; omega⟩))))
def PaysAt (c : Nat) (p : Int) (r : List ByteArray × Int) : Prop := r.1.length ≤ c ∧ (∀ s ∈ r.1, s.size ≤ 1000) ∧ p ≤ r.2 ∧ r.2 ≤ p + 20 * c
theorem pays_l0 (b : List Int) (hb : Code b) : ∀ (d : Nat) (out : List ByteArray) (p : Int), out.length + d ≤ 100 → (∀ s ∈ out, s.size ≤ 1000) → 0 ≤ p → p + 20 * d ≤ 1000000 → Evs (fun k => spec_l3Payloads.l0 k out (d : Int) b p) (fun r => r.1.length = out.length + d ∧ (∀ s ∈ r.1, s.size ≤ 1000) ∧ p ≤ r.2 ∧ r.2 ≤ p + 20 * d)
  | 0, out, p, _, ho, _, _ => Evs.step (fun k => spec_l3Payloads.l0.eq_2 ..) (Evs.neg (by omega) (Evs.ret ⟨rfl, ho, by simp, by simp⟩))
  | d + 1, out, p, h1, ho, h3, h4 => by
    have snoc : ∀ t : ByteArray, t.size ≤ 1000 → ∀ s ∈ out ++ [t], s.size ≤ 1000 := fun t ht s hs => by
      rcases List.mem_append.1 hs with hs | hs
      · exact ho s hs
      · rw [List.mem_singleton.1 hs]
        exact ht
    refine Evs.step (fun k => spec_l3Payloads.l0.eq_2 ..) (Evs.pos (by omega) (Evs.bind (pick_evs b hb p 8 (by omega) (by omega) (by omega)) (fun t ht => ?_)))
    obtain ⟨⟨t0, t1⟩, t2⟩ := ht
    refine Evs.ite (fun _ => Evs.sb (Evs.bind (pick_evs b hb t.2 3 (by omega) (by omega) (by omega)) (fun u hu => ?_))) (fun _ => Evs.bind (text_evs b hb t.2 (by omega) (by omega)) (fun u hu => ?_))
    · obtain ⟨⟨u0, u1⟩, u2⟩ := hu
      have hr : 0 ≤ rd [127, 128, 1000] u.1 ∧ rd [127, 128, 1000] u.1 ≤ 1000 := by
        have : u.1 = 0 ∨ u.1 = 1 ∨ u.1 = 2 := by omega
        rcases this with h | h | h <;> rw [h] <;> decide
      refine Evs.pos u0 (Evs.pos (by simpa using u1) (Evs.bind (many_evs' ⟨#[112]⟩ _ (by decide) hr.1 (by omega)) (fun x hx => Evs.pos (by omega) ?_)))
      have hz : (⟨#[112]⟩ : ByteArray).size = 1 := rfl
      rw [hz, Nat.mul_one] at hx
      rw [w64 (n := ((d + 1 : Nat) : Int) - 1) (by omega) (by omega), show ((d + 1 : Nat) : Int) - 1 = (d : Int) from by omega]
      refine (pays_l0 b hb d _ u.2 (by rw [List.length_append, List.length_singleton]; omega) (snoc x (by omega)) (by omega) (by omega)).mono (fun r hr => ?_)
      obtain ⟨r1, r2, r3, r4⟩ := hr
      rw [List.length_append, List.length_singleton] at r1
      exact ⟨by omega, r2, by omega, by omega⟩
    · obtain ⟨u1, u2, u3⟩ := hu
      have e : ((⟨#[112]⟩ : ByteArray) ++ u.1).size = 1 + u.1.size := ByteArray.size_append
      refine Evs.pos (by omega) (Evs.pos (by omega) ?_)
      rw [w64 (n := ((d + 1 : Nat) : Int) - 1) (by omega) (by omega), show ((d + 1 : Nat) : Int) - 1 = (d : Int) from by omega]
      refine (pays_l0 b hb d _ u.2 (by rw [List.length_append, List.length_singleton]; omega) (snoc _ (by omega)) (by omega) (by omega)).mono (fun r hr => ?_)
      obtain ⟨r1, r2, r3, r4⟩ := hr
      rw [List.length_append, List.length_singleton] at r1
      exact ⟨by omega, r2, by omega, by omega⟩
theorem pays_evs (b : List Int) (hb : Code b) (p : Int) (h0 : 0 ≤ p) (h1 : p ≤ 900000) : Evs (fun k => spec_l3Payloads.f k b p) (PaysAt 6 p) := by
  unfold spec_l3Payloads.f
  refine Evs.bind (pick_evs b hb p 6 (by omega) (by omega) (by omega)) (fun t ht => ?_)
  obtain ⟨⟨t0, t1⟩, t2⟩ := ht
  obtain ⟨m, hm⟩ : ∃ m : Nat, t.1 = (m : Int) := ⟨t.1.toNat, by omega⟩
  rw [hm]
  refine (pays_l0 b hb m [] t.2 (by simp; omega) (fun s hs => by cases hs) (by omega) (by omega)).mono (fun r hr => ?_)
  obtain ⟨r1, r2, r3, r4⟩ := hr
  rw [List.length_nil] at r1
  exact ⟨by omega, r2, by omega, by omega⟩
theorem encFrom_le (w : Int) : ∀ (l : List ByteArray) (acc : ByteArray), (encFrom w l acc).size ≤ acc.size + 1018 * l.length
  | [], acc => by simp [encFrom]
  | p :: r, acc => by
    unfold encFrom
    split
    · rename_i h
      have h1 := encFrom_le w r (acc ++ frame p w)
      have h2 := frame_size p w (by omega)
      rw [ByteArray.size_append] at h1
      rw [List.length_cons]
      omega
    · exact Nat.zero_le _
theorem encode_le (l : List ByteArray) (w : Int) : (encode l w).size ≤ 1018 * l.length := by
  unfold encode
  split
  · have := encFrom_le w l ⟨#[]⟩
    have hz : (⟨#[]⟩ : ByteArray).size = 0 := rfl
    omega
  · exact Nat.zero_le _
/-- A drawn decoder: small, and (but for the spoilt) of a width. -/
def DecAt (p : Int) (r : Int × ByteArray × List ByteArray × Bool × Int) : Prop := (1 ≤ r.1 ∧ r.1 ≤ 8) ∧ r.2.1.size ≤ 100000 ∧ r.2.2.1.length ≤ 501 ∧ p ≤ r.2.2.2.2 ∧ r.2.2.2.2 ≤ p + 1000
theorem feed_small {w : Int} (hw : 1 ≤ w ∧ w ≤ 8) (s : ByteArray) : (feed w ⟨#[]⟩ [] false s).1 = w ∧ (feed w ⟨#[]⟩ [] false s).2.1.size ≤ s.size ∧ (feed w ⟨#[]⟩ [] false s).2.2.1.length ≤ 500 := by
  unfold feed
  rw [if_pos (validDec_mk hw (by simp) rfl (fun h => by cases h) (fun _ => by rw [front_empty])), if_neg (by simp)]
  have k := feedFrom_ok (w := w) hw.1 (((⟨#[]⟩ : ByteArray) ++ s).size + 1) (⟨#[]⟩ ++ s) [] (Nat.lt_succ_self _) (by simp) rfl
  exact ⟨rfl, by have := k.2.2.2.2; rwa [ba_empty_append] at this, k.1⟩
theorem l3Draw_l0 (b : List Int) (q w : Int) (rest : ByteArray) (bad : Bool) (x : Int) (hx : x ≤ 501) : ∀ (d : Nat) (fr : List ByteArray), x ≤ fr.length + d → fr.length ≤ 501 → Evs (fun k => spec_l3Draw.l0 k x b q w rest fr bad) (fun r => r.1 = w ∧ r.2.1 = rest ∧ r.2.2.1.length ≤ 501 ∧ r.2.2.2.2 = q)
  | 0, fr, h1, h2 => Evs.step (fun k => spec_l3Draw.l0.eq_2 ..) (Evs.neg (by omega) (Evs.ret ⟨rfl, rfl, h2, rfl⟩))
  | d + 1, fr, h1, h2 => by
    refine Evs.step (fun k => spec_l3Draw.l0.eq_2 ..) (Evs.ite (fun c => Evs.pos (by omega) ?_) (fun _ => Evs.ret ⟨rfl, rfl, h2, rfl⟩))
    exact l3Draw_l0 b q w rest bad x hx d _ (by rw [List.length_append, List.length_singleton]; omega) (by rw [List.length_append, List.length_singleton]; omega)
theorem l3Draw_j0 (b : List Int) (hb : Code b) (p q w : Int) (hw : 1 ≤ w ∧ w ≤ 8) (s : ByteArray) (hs : s.size ≤ 100000) (h0 : 0 ≤ p) (hq : p ≤ q ∧ q ≤ p + 500) (h1 : p ≤ 900000) : Evs (fun k => spec_l3Draw.j0 k s b q w ⟨#[]⟩ false) (DecAt p) := by
  obtain ⟨f1, f2, f3⟩ := feed_small hw s
  refine Evs.step (fun k => spec_l3Draw.j0.eq_2 ..) (Evs.bind (Evs.of (spec_Feed_ev w ⟨#[]⟩ [] false s (by decide) (by omega)) (Q := fun t => t = feed w ⟨#[]⟩ [] false s) rfl) (fun t ht => ?_))
  subst ht
  refine Evs.bind (pick_evs b hb q 12 (by omega) (by omega) (by omega)) (fun t ht => ?_)
  obtain ⟨⟨t0, t1⟩, t2⟩ := ht
  refine Evs.ite (fun _ => Evs.bind (pick_evs b hb t.2 2 (by omega) (by omega) (by omega)) (fun u hu => ?_)) (fun _ => Evs.ret ⟨by show 1 ≤ (feed w ⟨#[]⟩ [] false s).1 ∧ _; rw [f1]; exact hw, by show (feed w ⟨#[]⟩ [] false s).2.1.size ≤ _; omega, by show (feed w ⟨#[]⟩ [] false s).2.2.1.length ≤ _; omega, by show p ≤ t.2; omega, by show t.2 ≤ _; omega⟩)
  obtain ⟨⟨u0, u1⟩, u2⟩ := hu
  rw [w64 (n := 500 - u.1) (by omega) (by omega)]
  refine (l3Draw_l0 b u.2 _ _ _ (500 - u.1) (by omega) 501 _ (by omega) (by omega)).mono (fun r hr => ?_)
  obtain ⟨r1, r2, r3, r4⟩ := hr
  exact ⟨by rw [r1, f1]; exact hw, by rw [r2]; omega, r3, by omega, by omega⟩
theorem l3Draw_evs (b : List Int) (hb : Code b) (p : Int) (h0 : 0 ≤ p) (h1 : p ≤ 800000) : Evs (fun k => spec_l3Draw.f k b p) (DecAt p) := by
  unfold spec_l3Draw.f
  refine Evs.bind (width_evs b hb p h0 (by omega)) (fun x hx => ?_)
  obtain ⟨hw, hx2⟩ := hx
  refine Evs.bind (pays_evs b hb x.2 (by omega) (by omega)) (fun y hy => ?_)
  obtain ⟨y1, y2, y3, y4⟩ := hy
  refine Evs.bind (Evs.of (spec_Encode_ev y.1 (fun s hs => by have := y2 s hs; omega) x.1) (Q := fun t => t = encode y.1 x.1) rfl) (fun t ht => ?_)
  subst ht
  have he := encode_le y.1 x.1
  refine Evs.bind (pick_evs b hb y.2 2 (by omega) (by omega) (by omega)) (fun t ht => ?_)
  obtain ⟨⟨t0, t1⟩, t2⟩ := ht
  refine Evs.ite (fun _ => Evs.bind (bend_evs b hb t.2 (by omega) (by omega) _ (by omega)) (fun u hu => ?_)) (fun _ => l3Draw_j0 b hb p t.2 x.1 hw _ (by omega) h0 (by omega) (by omega))
  obtain ⟨u1, u2, u3⟩ := hu
  exact l3Draw_j0 b hb p u.2 x.1 hw _ (by omega) h0 (by omega) (by omega)
def SpoiltAt (r : Int × ByteArray × List ByteArray × Bool × Int) : Prop := r.2.1.size ≤ 100000 ∧ r.2.2.1.length ≤ 502
theorem l3Spoil_l0 (b : List Int) (q w : Int) (rest : ByteArray) (hr : rest.size ≤ 100000) (bad : Bool) (x : Int) (hx : x ≤ 501) : ∀ (d : Nat) (fr : List ByteArray), x ≤ fr.length + d → fr.length ≤ 501 → Evs (fun k => spec_l3Spoil.l0 k x b q w rest fr bad) SpoiltAt
  | 0, fr, h1, h2 => Evs.step (fun k => spec_l3Spoil.l0.eq_2 ..) (Evs.neg (by omega) (Evs.ret ⟨hr, by show fr.length ≤ 502; omega⟩))
  | d + 1, fr, h1, h2 => by
    refine Evs.step (fun k => spec_l3Spoil.l0.eq_2 ..) (Evs.ite (fun c => Evs.pos (by omega) ?_) (fun _ => Evs.ret ⟨hr, by show fr.length ≤ 502; omega⟩))
    exact l3Spoil_l0 b q w rest hr bad x hx d _ (by rw [List.length_append, List.length_singleton]; omega) (by rw [List.length_append, List.length_singleton]; omega)
theorem l3Spoil_evs (b : List Int) (hb : Code b) (p : Int) (h0 : 0 ≤ p) (h1 : p ≤ 950000) (w : Int) (rest : ByteArray) (hr : rest.size ≤ 100000) (fr : List ByteArray) (hf : fr.length ≤ 501) (bad : Bool) : Evs (fun k => spec_l3Spoil.f k b p w rest fr bad) SpoiltAt := by
  unfold spec_l3Spoil.f
  refine Evs.bind (pick_evs b hb p 5 (by omega) (by omega) (by omega)) (fun t ht => ?_)
  obtain ⟨⟨t0, t1⟩, t2⟩ := ht
  refine Evs.ite (fun _ => Evs.bind (pick_evs b hb t.2 11 (by omega) (by omega) (by omega)) (fun u hu => Evs.ret ⟨hr, by show fr.length ≤ 502; omega⟩)) (fun _ => Evs.ite (fun _ => ?_) (fun _ => Evs.ite (fun _ => ?_) (fun _ => Evs.ite (fun _ => Evs.ret ⟨hr, by show fr.length ≤ 502; omega⟩) (fun _ => ?_))))
  · refine Evs.bind (Evs.of (spec_Encode_ev [(⟨#[119]⟩ : ByteArray)] (fun s hs => by rw [List.mem_singleton.1 hs]; decide) 4) (Q := fun t => t = encode [(⟨#[119]⟩ : ByteArray)] 4) rfl) (fun e he => ?_)
    have hz : e.size ≤ 1018 := by
      have := encode_le [(⟨#[119]⟩ : ByteArray)] 4
      rw [he]
      simpa using this
    refine Evs.sb (Evs.bind (pick_evs b hb t.2 11 (by omega) (by omega) (by omega)) (fun u hu => ?_))
    obtain ⟨⟨u0, u1⟩, u2⟩ := hu
    obtain ⟨m, hm⟩ : ∃ m : Nat, u.1 = (m : Int) := ⟨u.1.toNat, by omega⟩
    have hl : ∀ x ∈ ([(⟨#[133, 0]⟩ : ByteArray), (⟨#[129, 0, 97]⟩ : ByteArray), (⟨#[0]⟩ : ByteArray), (⟨#[128]⟩ : ByteArray), (⟨#[128, 0]⟩ : ByteArray), (⟨#[255, 7]⟩ : ByteArray), (⟨#[232, 7]⟩ : ByteArray), (⟨#[233, 7]⟩ : ByteArray), (⟨#[1, 97]⟩ : ByteArray), e, (⟨#[133, 133]⟩ : ByteArray)] : List ByteArray), x.size ≤ 100000 := by
      intro x hx
      simp only [List.mem_cons, List.not_mem_nil, or_false] at hx
      rcases hx with h | h | h | h | h | h | h | h | h | h | h <;> rw [h] <;> first | decide | omega
    have hlen : ([(⟨#[133, 0]⟩ : ByteArray), (⟨#[129, 0, 97]⟩ : ByteArray), (⟨#[0]⟩ : ByteArray), (⟨#[128]⟩ : ByteArray), (⟨#[128, 0]⟩ : ByteArray), (⟨#[255, 7]⟩ : ByteArray), (⟨#[232, 7]⟩ : ByteArray), (⟨#[233, 7]⟩ : ByteArray), (⟨#[1, 97]⟩ : ByteArray), e, (⟨#[133, 133]⟩ : ByteArray)] : List ByteArray).length = 11 := rfl
    generalize ([(⟨#[133, 0]⟩ : ByteArray), (⟨#[129, 0, 97]⟩ : ByteArray), (⟨#[0]⟩ : ByteArray), (⟨#[128]⟩ : ByteArray), (⟨#[128, 0]⟩ : ByteArray), (⟨#[255, 7]⟩ : ByteArray), (⟨#[232, 7]⟩ : ByteArray), (⟨#[233, 7]⟩ : ByteArray), (⟨#[1, 97]⟩ : ByteArray), e, (⟨#[133, 133]⟩ : ByteArray)] : List ByteArray) = L at hl hlen ⊢
    have hml : m < L.length := by omega
    rw [hm, rd_eq _ hml]
    exact Evs.pos (by omega) (Evs.pos (by omega) (Evs.ret ⟨hl _ (List.getElem_mem hml), by show fr.length ≤ 502; omega⟩))
  · refine Evs.bind (pick_evs b hb t.2 2 (by omega) (by omega) (by omega)) (fun u hu => ?_)
    obtain ⟨⟨u0, u1⟩, u2⟩ := hu
    rw [w64 (n := 1000 + u.1) (by omega) (by omega)]
    refine Evs.bind (many_evs' ⟨#[102]⟩ _ (by decide) (by omega) (by omega)) (fun x _ => Evs.sb (Evs.bind (pick_evs b hb u.2 2 (by omega) (by omega) (by omega)) (fun v hv => ?_)))
    obtain ⟨⟨v0, v1⟩, v2⟩ := hv
    exact Evs.pos v0 (Evs.pos (by simpa using v1) (Evs.pos (by omega) (Evs.ret ⟨hr, by show (fr ++ [_]).length ≤ 502; rw [List.length_append, List.length_singleton]; omega⟩)))
  · refine Evs.bind (pick_evs b hb t.2 2 (by omega) (by omega) (by omega)) (fun u hu => ?_)
    obtain ⟨⟨u0, u1⟩, u2⟩ := hu
    rw [w64 (n := 500 + u.1) (by omega) (by omega)]
    exact l3Spoil_l0 b u.2 w rest hr bad _ (by omega) 501 fr (by omega) hf
/-- What DrawFeed draws. -/
def FedAt (r : Int × ByteArray × List ByteArray × Bool × ByteArray) : Prop := r.2.1.size ≤ 100000 ∧ r.2.2.1.length ≤ 502 ∧ r.2.2.2.2.size ≤ 1000000
theorem drawFeed_j1 (b : List Int) (hb : Code b) (s : ByteArray) (hs : s.size ≤ 1000000) (p : Int) (h0 : 0 ≤ p) (h1 : p ≤ 900000) (w : Int) (rest : ByteArray) (hr : rest.size ≤ 100000) (fr : List ByteArray) (hf : fr.length ≤ 501) (bad : Bool) : Evs (fun k => spec_DrawFeed.j1 k s b p w rest fr bad) FedAt := by
  refine Evs.step (fun k => spec_DrawFeed.j1.eq_2 ..) (Evs.bind (pick_evs b hb p 8 (by omega) (by omega) (by omega)) (fun t ht => ?_))
  obtain ⟨⟨t0, t1⟩, t2⟩ := ht
  exact Evs.ite (fun _ => Evs.bind (l3Spoil_evs b hb t.2 (by omega) (by omega) w rest hr fr hf bad) (fun u hu => Evs.ret ⟨hu.1, hu.2, hs⟩)) (fun _ => Evs.ret ⟨hr, by show fr.length ≤ 502; omega, hs⟩)
theorem drawFeed_j0 (b : List Int) (hb : Code b) (s : ByteArray) (hs : s.size ≤ 900000) (p : Int) (h0 : 0 ≤ p) (h1 : p ≤ 800000) (w : Int) (rest : ByteArray) (hr : rest.size ≤ 100000) (fr : List ByteArray) (hf : fr.length ≤ 501) (bad : Bool) : Evs (fun k => spec_DrawFeed.j0 k s b p w rest fr bad) FedAt := by
  refine Evs.step (fun k => spec_DrawFeed.j0.eq_2 ..) (Evs.bind (pick_evs b hb p 10 (by omega) (by omega) (by omega)) (fun t ht => ?_))
  obtain ⟨⟨t0, t1⟩, t2⟩ := ht
  refine Evs.ite (fun _ => Evs.bind (Evs.of (ev_of _ (fun k hk => spec_Sum_eq ⟨#[97]⟩ (by decide) w k hk)) (Q := fun t => t = sumOf ⟨#[97]⟩ w) rfl) (fun x hx => ?_)) (fun _ => drawFeed_j1 b hb s (by omega) t.2 (by omega) (by omega) w rest hr fr hf bad)
  subst hx
  have hz := sumOf_size ⟨#[97]⟩ w
  have e1 : ((⟨#[129, 0, 97]⟩ : ByteArray) ++ sumOf ⟨#[97]⟩ w).size = 3 + (sumOf ⟨#[97]⟩ w).size := ByteArray.size_append
  have e2 : ((⟨#[129, 0, 97]⟩ : ByteArray) ++ sumOf ⟨#[97]⟩ w ++ s).size = ((⟨#[129, 0, 97]⟩ : ByteArray) ++ sumOf ⟨#[97]⟩ w).size + s.size := ByteArray.size_append
  exact Evs.pos (by omega) (Evs.pos (by omega) (drawFeed_j1 b hb _ (by omega) t.2 (by omega) (by omega) w rest hr fr hf bad))
theorem drawFeed_evs (l : List Int) (h : ∀ x ∈ l, 0 ≤ x ∧ x ≤ 255) : Evs (fun k => spec_DrawFeed.f k l) FedAt := by
  obtain ⟨b, hb, ho⟩ := open_ev l h
  unfold spec_DrawFeed.f
  rw [ho]
  refine Evs.sb (Evs.bind (l3Draw_evs b hb 0 (by omega) (by omega)) (fun d hd => ?_))
  obtain ⟨d1, d2, d3, d4, d5⟩ := hd
  refine Evs.bind (pays_evs b hb d.2.2.2.2 (by omega) (by omega)) (fun y hy => ?_)
  obtain ⟨y1, y2, y3, y4⟩ := hy
  refine Evs.bind (Evs.of (spec_Encode_ev y.1 (fun s hs => by have := y2 s hs; omega) d.1) (Q := fun t => t = encode y.1 d.1) rfl) (fun t ht => ?_)
  subst ht
  have he := encode_le y.1 d.1
  refine Evs.bind (pick_evs b hb y.2 6 (by omega) (by omega) (by omega)) (fun t ht => ?_)
  obtain ⟨⟨t0, t1⟩, t2⟩ := ht
  refine Evs.ite (fun _ => Evs.bind (bend_evs b hb t.2 (by omega) (by omega) _ (by omega)) (fun u hu => ?_)) (fun _ => Evs.ite (fun _ => ?_) (fun _ => drawFeed_j0 b hb _ (by omega) t.2 (by omega) (by omega) _ _ d2 _ d3 _))
  · obtain ⟨u1, u2, u3⟩ := hu
    exact drawFeed_j0 b hb _ (by omega) u.2 (by omega) (by omega) _ _ d2 _ d3 _
  · generalize hL : ([(⟨#[97, 32, 102, 114, 97, 109, 101, 32, 105, 110, 32, 116, 119, 111, 32, 112, 105, 101, 99, 101, 115]⟩ : ByteArray)] : List ByteArray) = L
    refine Evs.bind (Evs.of (spec_Encode_ev L (fun s hs => by rw [← hL] at hs; rw [List.mem_singleton.1 hs]; decide) d.1) (Q := fun t => t = encode L d.1) rfl) (fun e he2 => ?_)
    have hz : e.size ≤ 1018 := by
      have := encode_le L d.1
      rw [he2]
      rw [← hL] at this ⊢
      simpa using this
    rw [w64 (n := (e.size : Int) + 1) (by omega) (by omega)]
    refine Evs.bind (pick_evs b hb t.2 ((e.size : Int) + 1) (by omega) (by omega) (by omega)) (fun u hu => ?_)
    obtain ⟨⟨u0, u1⟩, u2⟩ := hu
    have x0 : (e.extract 0 u.1.toNat).size = u.1.toNat := by rw [ByteArray.size_extract]; omega
    have x1 : (e.extract u.1.toNat e.size).size = e.size - u.1.toNat := by rw [ByteArray.size_extract]; omega
    obtain ⟨f1, f2, f3⟩ := feed_small d1 (e.extract 0 u.1.toNat)
    refine Evs.pos u0 (Evs.pos (by omega) (Evs.bind (Evs.of (spec_Feed_ev d.1 ⟨#[]⟩ [] false (e.extract 0 u.1.toNat) (by decide) (by omega)) (Q := fun t => t = feed d.1 ⟨#[]⟩ [] false (e.extract 0 u.1.toNat)) rfl) (fun t ht => ?_)))
    subst ht
    have e2 : (e.extract u.1.toNat e.size ++ encode y.1 d.1).size = (e.extract u.1.toNat e.size).size + (encode y.1 d.1).size := ByteArray.size_append
    exact Evs.pos (by omega) (drawFeed_j0 b hb _ (by omega) u.2 (by omega) (by omega) _ _ (by omega) _ (by omega) _)
def EncAt (r : List ByteArray × Int) : Prop := ∀ s ∈ r.1, s.size ≤ 2000
theorem drawEnc_l0 (b : List Int) (hb : Code b) (q : Int) (h0 : 0 ≤ q) (h1 : q ≤ 900000) (x : Int) (hx : x ≤ 501) : ∀ (d : Nat) (fr : List ByteArray), x ≤ fr.length + d → fr.length ≤ 501 → (∀ s ∈ fr, s.size ≤ 2000) → Evs (fun k => spec_DrawEncode.l0 k fr x b q) EncAt
  | 0, fr, h2, h3, hz => Evs.step (fun k => spec_DrawEncode.l0.eq_2 ..) (Evs.neg (by omega) (Evs.bind (width_evs b hb q h0 (by omega)) (fun t _ => Evs.ret hz)))
  | d + 1, fr, h2, h3, hz => by
    refine Evs.step (fun k => spec_DrawEncode.l0.eq_2 ..) (Evs.ite (fun c => Evs.pos (by omega) ?_) (fun _ => Evs.bind (width_evs b hb q h0 (by omega)) (fun t _ => Evs.ret hz)))
    refine drawEnc_l0 b hb q h0 h1 x hx d _ (by rw [List.length_append, List.length_singleton]; omega) (by rw [List.length_append, List.length_singleton]; omega) (fun s hs => ?_)
    rcases List.mem_append.1 hs with hs | hs
    · exact hz s hs
    · rw [List.mem_singleton.1 hs]
      decide
theorem drawEncode_evs (l : List Int) (h : ∀ x ∈ l, 0 ≤ x ∧ x ≤ 255) : Evs (fun k => spec_DrawEncode.f k l) EncAt := by
  obtain ⟨b, hb, ho⟩ := open_ev l h
  unfold spec_DrawEncode.f
  rw [ho]
  refine Evs.sb (Evs.bind (pays_evs b hb 0 (by omega) (by omega)) (fun y hy => ?_))
  obtain ⟨y1, y2, y3, y4⟩ := hy
  have y2' : ∀ s ∈ y.1, s.size ≤ 2000 := fun s hs => by have := y2 s hs; omega
  refine Evs.bind (pick_evs b hb y.2 16 (by omega) (by omega) (by omega)) (fun t ht => ?_)
  obtain ⟨⟨t0, t1⟩, t2⟩ := ht
  refine Evs.ite (fun _ => ?_) (fun _ => Evs.ite (fun _ => ?_) (fun _ => Evs.ite (fun _ => ?_) (fun _ => Evs.bind (width_evs b hb t.2 (by omega) (by omega)) (fun u _ => Evs.ret y2'))))
  · refine Evs.bind (many_evs' ⟨#[112]⟩ 1001 (by decide) (by omega) (by omega)) (fun x hx => Evs.sb (Evs.bind (pick_evs b hb t.2 2 (by omega) (by omega) (by omega)) (fun u hu => ?_)))
    obtain ⟨⟨u0, u1⟩, u2⟩ := hu
    have hz : (⟨#[112]⟩ : ByteArray).size = 1 := rfl
    rw [hz, Nat.mul_one] at hx
    refine Evs.pos u0 (Evs.pos (by simpa using u1) (Evs.pos (by omega) (Evs.bind (width_evs b hb u.2 (by omega) (by omega)) (fun v _ => Evs.ret (fun s hs => ?_)))))
    rcases List.mem_append.1 hs with hs | hs
    · exact y2' s hs
    · rw [List.mem_singleton.1 hs]
      have : u.1 = 0 ∨ u.1 = 1 := by omega
      rcases this with h | h
      · rw [h]
        exact Nat.zero_le _
      · rw [h]
        show x.size ≤ 2000
        omega
  · refine Evs.bind (pick_evs b hb t.2 2 (by omega) (by omega) (by omega)) (fun u hu => ?_)
    obtain ⟨⟨u0, u1⟩, u2⟩ := hu
    rw [w64 (n := 500 + u.1) (by omega) (by omega)]
    exact drawEnc_l0 b hb u.2 (by omega) (by omega) _ (by omega) 501 y.1 (by omega) (by omega) y2'
  · refine Evs.sb (Evs.bind (pick_evs b hb t.2 2 (by omega) (by omega) (by omega)) (fun u hu => ?_))
    obtain ⟨⟨u0, u1⟩, u2⟩ := hu
    exact Evs.pos u0 (Evs.pos (by simpa using u1) (Evs.ret y2'))

end Go.Proofs.Ytknagppkeodggaa.Pure


namespace Go.Proofs.Ytknagppkeodggaa.Pure
open Go Go.RowKit Go.Proofs.Ytknagppkeodggaa.P Go.Proofs.YtknagppkeodggaaW.PrintWords Go.Proofs.YtknagppkeodggaaW.PrintLast
set_option linter.unusedVariables false
set_option linter.unusedSimpArgs false

theorem wTexts_l0 (l : List ByteArray) (hl : l.length ≤ 1000000000) : ∀ (d i : Nat), i + d = l.length → Ev (fun k => laws_wTexts.l0 k l l (i : Int)) true
  | 0, i, hd => Ev.step (fun k => laws_wTexts.l0.eq_2 ..) (Ev.neg (by omega) (Ev.now _))
  | d + 1, i, hd => by
    have ih := wTexts_l0 l hl d (i + 1) (by omega)
    refine Ev.step (fun k => laws_wTexts.l0.eq_2 ..) (Ev.pos (by omega) (Ev.pos (by omega) (Ev.pos (by omega) (Ev.pos rfl ?_))))
    rw [w64 (n := (i : Int) + 1) (by omega) (by omega), show (i : Int) + 1 = ((i + 1 : Nat) : Int) from by omega]
    exact ih
theorem wTexts_ev (l : List ByteArray) (hl : l.length ≤ 1000000000) : Ev (fun k => laws_wTexts.f k l l) true := by
  unfold laws_wTexts.f
  exact Ev.pos rfl (wTexts_l0 l hl l.length 0 (by omega))
theorem wDecoder_ev (d : Dec) (hl : d.2.2.1.length ≤ 1000000000) : Ev (fun k => laws_wDecoder.f k d.1 d.2.1 d.2.2.1 d.2.2.2 d.1 d.2.1 d.2.2.1 d.2.2.2) true := by
  unfold laws_wDecoder.f
  exact Ev.pos rfl (Ev.pos rfl (Ev.pos (by simp) (Ev.bind (wTexts_ev _ hl) (Ev.now _))))
theorem feedD_len (d : Dec) (b : ByteArray) : (feedD d b).2.2.1.length ≤ 500 := by
  obtain ⟨w, rest, fr, bad⟩ := d
  unfold feedD
  dsimp only
  by_cases h : validDec w rest fr bad = true
  · have hk := (feedD_ok (d := (w, rest, fr, bad)) h b).1
    exact (validDec_parts hk).2.1
  · unfold feed
    rw [if_neg h]
    exact Nat.zero_le _
theorem feedD_bound {d : Dec} (h : okD d) (b : ByteArray) : (feedD d b).2.1.size ≤ d.2.1.size + b.size := (feedD_ok h b).2
/-- What comes behind the pieces. -/
theorem frames_end (x0 x1 : List Int) (h0 : ∀ x ∈ x0, 0 ≤ x ∧ x ≤ 255) (s : ByteArray) (hs : s.size ≤ 1000000) (i : Int) (a : Int) (x : Dec) (hx : x.2.2.1.length ≤ 500) (ha : ¬ a < (s.size : Int)) :
    Evs (fun k => laws_FnFrames.l0 k x0 x1 s a i x.1 x.2.1 x.2.2.1 x.2.2.2 x.1 x.2.1 x.2.2.1 x.2.2.2) (fun r => r = true) := by
  refine Evs.step (fun k => laws_FnFrames.l0.eq_2 ..) (Evs.neg ha (Evs.bind (Evs.of (wDecoder_ev x (by omega)) (Q := fun t => t = true) rfl) (fun t ht => ?_)))
  subst ht
  refine Evs.pos rfl (Evs.bind (drawEncode_evs x0 h0) (fun p hp => ?_))
  have hz : ∀ s ∈ p.1, s.size ≤ 140737488351232 := fun s hs => by have := hp s hs; omega
  refine Evs.bind (Evs.of (impl_Encode_ev p.1 hz p.2) (Q := fun t => t = encode p.1 p.2) rfl) (fun t ht => ?_)
  subst ht
  refine Evs.bind (Evs.of (spec_Encode_ev p.1 hz p.2) (Q := fun t => t = encode p.1 p.2) rfl) (fun t ht => ?_)
  subst ht
  have hsz : (encode p.1 p.2).size ≤ 1018 * 500 := by
    by_cases hc : p.1.length ≤ 500
    · have := encode_le p.1 p.2
      omega
    · unfold encode
      rw [if_neg (fun h => hc h.2)]
      exact Nat.zero_le _
  refine Evs.pos rfl (Evs.bind (Evs.of (impl_Feed_ev p.2 ⟨#[]⟩ [] false (encode p.1 p.2) (by decide) (by omega)) (Q := fun t => t = feed p.2 ⟨#[]⟩ [] false (encode p.1 p.2)) rfl) (fun t ht => ?_))
  subst ht
  by_cases he : (encode p.1 p.2).size = 0
  · exact Evs.pos (toList_nil.2 he) (Evs.ret rfl)
  · rw [feed_encode p.1 p.2 he]
    have hpl : p.1.length ≤ 500 := by
      by_cases hc : p.1.length ≤ 500
      · exact hc
      · exfalso
        apply he
        unfold encode
        rw [if_neg (fun h => hc h.2)]
        rfl
    exact Evs.neg (fun h => he (toList_nil.1 h)) (Evs.neg (by simp) (Evs.pos (toList_nil.2 rfl) (Evs.bind (Evs.of (wTexts_ev p.1 (by omega)) (Q := fun t => t = true) rfl) (fun t ht => Evs.ret ht))))
theorem ext_two (s : ByteArray) {a b : Nat} (h : a ≤ b) (hb : b ≤ s.size) : s.extract a b ++ s.extract b s.size = s.extract a s.size := by
  apply ba_ext
  rw [data_append, ext_data, ext_data, ext_data, List.take_of_length_le (l := s.data.toList) (i := s.size) (by rw [size_toList]; exact Nat.le_refl _)]
  have e : s.data.toList.drop b = (s.data.toList.drop a).drop (b - a) := by rw [List.drop_drop]; congr 1; omega
  rw [e, List.drop_take, List.take_append_drop]
theorem frames_done (x0 x1 : List Int) (h0 : ∀ x ∈ x0, 0 ≤ x ∧ x ≤ 255) (s : ByteArray) (hs : s.size ≤ 1000000) (x : Dec) (hx : x.2.2.1.length ≤ 500) (a i : Nat) (y : Dec) (hy : okD y) (hf : feedD y (s.extract a s.size) = x) (hlt : ¬ a < s.size) :
    Evs (fun k => laws_FnFrames.l0 k x0 x1 s (a : Int) (i : Int) x.1 x.2.1 x.2.2.1 x.2.2.2 y.1 y.2.1 y.2.2.1 y.2.2.2) (fun r => r = true) := by
  have e : s.extract a s.size = ⟨#[]⟩ := by
    apply ba_ext
    rw [ext_data, List.drop_of_length_le (by rw [List.length_take, size_toList]; omega)]
  rw [e, feedD_none hy] at hf
  subst hf
  exact frames_end x0 x1 h0 s hs i a y hx (by omega)
/-- The pieces, from place a on; m: what is left of the text and of the sizes. -/
theorem frames_l0 (x0 x1 : List Int) (h0 : ∀ x ∈ x0, 0 ≤ x ∧ x ≤ 255) (h1 : ∀ x ∈ x1, 0 ≤ x ∧ x ≤ 255) (hl1 : x1.length ≤ 1048576) (s : ByteArray) (hs : s.size ≤ 1000000) (x : Dec) (hx : x.2.2.1.length ≤ 500) :
    ∀ (m a i : Nat) (y : Dec), (s.size - a) + (x1.length - i) ≤ m → a ≤ s.size → i ≤ 1048576 + a → okD y → y.2.1.size ≤ 1000000 + a → feedD y (s.extract a s.size) = x →
    Evs (fun k => laws_FnFrames.l0 k x0 x1 s (a : Int) (i : Int) x.1 x.2.1 x.2.2.1 x.2.2.2 y.1 y.2.1 y.2.2.1 y.2.2.2) (fun r => r = true)
  | 0, a, i, y, hm, ha, hi, hy, hr, hf => frames_done x0 x1 h0 s hs x hx a i y hy hf (by omega)
  | m + 1, a, i, y, hm, ha, hi, hy, hr, hf => by
    by_cases hlt : a < s.size
    rotate_left
    · exact frames_done x0 x1 h0 s hs x hx a i y hy hf hlt
    have j3 : ∀ n : Nat, a + n ≤ s.size → (s.size - (a + n)) + (x1.length - (i + 1)) ≤ m → i + 1 ≤ 1048576 + (a + n) →
        Evs (fun k => laws_FnFrames.j3 k x0 x1 s (a : Int) (i : Int) (n : Int) x.1 x.2.1 x.2.2.1 x.2.2.2 y.1 y.2.1 y.2.2.1 y.2.2.2) (fun r => r = true) := by
      intro n hn hmm hii
      have hk := feedD_ok hy (s.extract a (a + n))
      have hz : (s.extract a (a + n)).size = n := by rw [ByteArray.size_extract]; omega
      rw [hz] at hk
      have e2 : feedD (feedD y (s.extract a (a + n))) (s.extract (a + n) s.size) = x := by rw [feedD_two hy, ext_two s (by omega) hn, hf]
      have ih := frames_l0 x0 x1 h0 h1 hl1 s hs x hx m (a + n) (i + 1) (feedD y (s.extract a (a + n))) hmm hn hii hk.1 (by omega) e2
      refine Evs.step (fun k => laws_FnFrames.j3.eq_2 ..) ?_
      rw [w64 (n := (a : Int) + (n : Int)) (by omega) (by omega), w64 (n := (i : Int) + 1) (by omega) (by omega), show (a : Int) + (n : Int) = ((a + n : Nat) : Int) from by omega, show (i : Int) + 1 = ((i + 1 : Nat) : Int) from by omega, Int.toNat_natCast, Int.toNat_natCast]
      refine Evs.pos (by omega) (Evs.pos (by omega) (Evs.pos (by omega) (Evs.bind (Evs.of (impl_Feed_ev y.1 y.2.1 y.2.2.1 y.2.2.2 (s.extract a (a + n)) (by omega) (by omega)) (Q := fun t => t = feedD y (s.extract a (a + n))) rfl) (fun t ht => ?_))))
      subst ht
      refine Evs.bind (Evs.of (impl_ValidDecoder_ev (feedD y (s.extract a (a + n))).1 (feedD y (s.extract a (a + n))).2.1 (by omega) (feedD y (s.extract a (a + n))).2.2.1 (feedD y (s.extract a (a + n))).2.2.2) (Q := fun t => t = true) hk.1) (fun t ht => ?_)
      exact Evs.pos ht ih
    have j2 : ∀ n : Nat, (i < x1.length ∨ 1 ≤ n) → Evs (fun k => laws_FnFrames.j2 k x0 x1 s (a : Int) (i : Int) (n : Int) x.1 x.2.1 x.2.2.1 x.2.2.2 y.1 y.2.1 y.2.2.1 y.2.2.2) (fun r => r = true) := by
      intro n hn
      refine Evs.step (fun k => laws_FnFrames.j2.eq_2 ..) ?_
      rw [w64 (n := (s.size : Int) - (a : Int)) (by omega) (by omega), show (s.size : Int) - (a : Int) = ((s.size - a : Nat) : Int) from by omega]
      refine Evs.ite (fun c => j3 (s.size - a) (by omega) (by omega) (by omega)) (fun c => j3 n (by omega) (by omega) (by omega))
    refine Evs.step (fun k => laws_FnFrames.l0.eq_2 ..) (Evs.pos (by omega) ?_)
    by_cases hi1 : i < x1.length
    · refine Evs.pos (by omega) (Evs.pos (by omega) ?_)
      have hrd : 0 ≤ rd x1 (i : Int) ∧ rd x1 (i : Int) ≤ 255 := by
        unfold rd
        rw [Int.toNat_natCast, List.getD_eq_getElem?_getD, List.getElem?_eq_getElem hi1]
        exact h1 _ (List.getElem_mem hi1)
      rw [w64 (n := rd x1 (i : Int)) (by omega) (by omega), Int.tmod_eq_emod_of_nonneg hrd.1, show rd x1 (i : Int) % 9 = (((rd x1 (i : Int)) % 9).toNat : Int) from by omega]
      exact j2 _ (.inl hi1)
    · refine Evs.neg (by omega) ?_
      exact j2 1 (.inr (Nat.le_refl _))
theorem FnFrames (l0 l1 : List Int) (h0 : l0.length * 1 ≤ 140737488351232 ∧ ∀ x ∈ l0, (Lit.int .u8 x).wf = true) (h1 : l1.length * 1 ≤ 140737488351232 ∧ ∀ x ∈ l1, (Lit.int .u8 x).wf = true) : ∃ k, laws_FnFrames.f k l0 l1 = some true := by
  suffices h : Evs (fun k => laws_FnFrames.f k l0 l1) (fun r => r = true) by
    obtain ⟨k, r, rfl, hk⟩ := h.rounds
    exact ⟨k, hk⟩
  have b0 := bytes_of_wf h0.2
  have b1 := bytes_of_wf h1.2
  unfold laws_FnFrames.f
  refine Evs.ite (fun _ => Evs.step (fun k => laws_FnFrames.j0.eq_2 ..) (Evs.pos rfl (Evs.ret rfl))) (fun c0 => Evs.step (fun k => laws_FnFrames.j0.eq_2 ..) (Evs.ite (fun _ => Evs.ret rfl) (fun c1 => ?_)))
  have hl1 : l1.length ≤ 1048576 := by
    simp only [decide_eq_true_eq] at c1
    omega
  refine Evs.bind (drawFeed_evs l0 b0) (fun d hd => ?_)
  obtain ⟨w, rest, fr, bad, s⟩ := d
  obtain ⟨d1, d2, d3⟩ := hd
  dsimp only at d1 d2 d3 ⊢
  refine Evs.bind (Evs.of (impl_Feed_ev w rest fr bad s (by omega) (by omega)) (Q := fun t => t = feed w rest fr bad s) rfl) (fun t ht => ?_)
  subst ht
  refine Evs.bind (Evs.of (spec_Feed_ev w rest fr bad s (by omega) (by omega)) (Q := fun t => t = feed w rest fr bad s) rfl) (fun t ht => ?_)
  subst ht
  have hlen := feedD_len (w, rest, fr, bad) s
  refine Evs.bind (Evs.of (wDecoder_ev (feed w rest fr bad s) (by have : (feed w rest fr bad s).2.2.1.length ≤ 500 := hlen; omega)) (Q := fun t => t = true) rfl) (fun t ht => Evs.pos ht ?_)
  refine Evs.bind (Evs.of (spec_ValidDecoder_ev w rest (by omega) fr bad) (Q := fun t => t = validDec w rest fr bad) rfl) (fun t ht => ?_)
  subst ht
  by_cases hv : validDec w rest fr bad = true
  · refine Evs.pos hv ?_
    have e : s.extract 0 s.size = s := by
      apply ba_ext
      rw [ext_data, List.drop_zero, List.take_of_length_le (by rw [size_toList]; exact Nat.le_refl _)]
    exact frames_l0 l0 l1 b0 b1 hl1 s d3 (feedD (w, rest, fr, bad) s) hlen _ 0 0 (w, rest, fr, bad) (Nat.le_refl _) (Nat.zero_le _) (by omega) hv (by show rest.size ≤ _; omega) (by rw [e])
  · refine Evs.neg hv (Evs.bind (Evs.of (impl_ValidDecoder_ev w rest (by omega) fr bad) (Q := fun t => t = validDec w rest fr bad) rfl) (fun t ht => Evs.ret ?_))
    subst ht
    rw [Bool.eq_false_iff.2 hv]
    rfl

end Go.Proofs.Ytknagppkeodggaa.Pure

