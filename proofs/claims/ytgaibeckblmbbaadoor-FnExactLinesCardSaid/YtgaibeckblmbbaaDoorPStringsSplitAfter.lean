-- Printed for this claim by a small program of this session (kprint.py), which drives the kit's print program.
import Derived.Test.YtgaibeckblmbbaaDoorP0
import Derived.Test.YtgaibeckblmbbaaDoorShelf
import Derived.Test.YtgaibeckblmbbaaDoorMade
import Derived.Lib.SplitLaws
namespace Go.Proofs.YtgaibeckblmbbaaDoor.P
open Go.RowKit Go.Proofs.YtgaibeckblmbbaaDoorW.PrintWords Go.Proofs.YtgaibeckblmbbaaDoorW.PrintLast Go.Proofs.YtgaibeckblmbbaaDoorW.PrintMore
attribute [local go_sem] max2_int min2_int max_two min_two max_three min_three max_four min_four
set_option linter.unusedVariables false
set_option linter.unusedSimpArgs false

/-! ### strings_SplitAfter: function 18 -/
def strings_SplitAfter.f (a0 a1 : ByteArray) : Option (List ByteArray) := if a0.size < 4294967281 then (if 1 ≤ a1.size then some (Go.Lib.splitB a1 a1.size (Go.Lib.countB a0 a1) a0) else none) else none
set_option maxRecDepth 100000 in
theorem strings_SplitAfter.calls (a0 a1 : ByteArray) (r : List ByteArray) (w : World) (hg : GOK w) (h : strings_SplitAfter.f a0 a1 = some r) :
  Calls Tryd.prog 18 #[.string a0, .string a1] w fun e w' => ∃ v0_ : Value, e = .returned (v0_) ∧ Kd.R Kd.string 9 w' w.heap.size (fun _ => True) v0_ r ∧ Below w.heap.size w w' := by
 unfold strings_SplitAfter.f at h
 split at h
 ·rename_i hs
  split at h
  ·rename_i h1
   obtain rfl := Option.some.inj h
   obtain ⟨m, hm⟩ := hg
   have hle := Go.Lib.countB_le a1 h1 a0.size a0 (Nat.le_refl _)
   have hlen := Go.Lib.splitB_all a1 h1 a1.size (Go.Lib.countB a0 a1) a0 rfl
   have hN : ((Go.Lib.countB a0 a1 + 1 : Nat) : Int) = min (if (-1 : Int) < 0 then (Go.Lib.countB a0 a1 : Int) + 1 else (-1)) ((a0.size : Int) + 1) := by
    rw [if_pos (by decide)]
    omega
   have HC := Tryd.strings_genSplit a0 a1 a1.size (-1) (Go.Lib.countB a0 a1 + 1) m w hs hm h1 (Nat.le_refl _) (by decide) (by decide) hN
   rw [Nat.add_sub_cancel] at HC
   have hfull : Go.Lib.cellsOf (Go.Lib.splitB a1 a1.size (Go.Lib.countB a0 a1) a0) (Go.Lib.countB a0 a1 + 1) = ((Go.Lib.splitB a1 a1.size (Go.Lib.countB a0 a1) a0).map Value.string).toArray := by
    have := Go.Lib.cellsOf_full (Go.Lib.splitB a1 a1.size (Go.Lib.countB a0 a1) a0)
    rwa [hlen] at this
   rw [hfull] at HC
   have HR := Ow.R_new_block Value.string (fun _ => rfl) 9 w (Go.Lib.splitB a1 a1.size (Go.Lib.countB a0 a1) a0) (by rw [hlen]; unfold maxLen; omega)
   rw [hlen] at HC HR
   generalize Go.Lib.splitB a1 a1.size (Go.Lib.countB a0 a1) a0 = L at HC HR ⊢
   clear hN hfull hlen
   go_enter Tryd.func18, Tryd.ntmps18
   go_wp2_with (go_at_call 26; refine HC.mono ?_; rintro e w' ⟨rfl, rfl⟩)
   go_ret
   exact ⟨_, rfl, HR, below_alloc (Below.refl _ _) _⟩
  ·cases h
 ·cases h


end Go.Proofs.YtgaibeckblmbbaaDoor.P
