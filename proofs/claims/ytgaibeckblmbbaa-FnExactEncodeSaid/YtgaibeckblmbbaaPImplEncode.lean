-- Printed for this claim by a small program of this session (kprint.py), which drives the kit's print program.
import Derived.Test.YtgaibeckblmbbaaP0
import Derived.Test.YtgaibeckblmbbaaPImplIn
import Derived.Test.YtgaibeckblmbbaaPImplShort
import Derived.Test.YtgaibeckblmbbaaPImplSum
import Derived.Test.YtgaibeckblmbbaaPStringsBuilderWriteString
import Derived.Test.YtgaibeckblmbbaaShelf
import Derived.Test.YtgaibeckblmbbaaPStringsBuilderWriteString
namespace Go.Proofs.Ytgaibeckblmbbaa.P
open Go.RowKit Go.Proofs.YtgaibeckblmbbaaW.PrintWords Go.Proofs.YtgaibeckblmbbaaW.PrintLast Go.Proofs.YtgaibeckblmbbaaW.PrintMore
attribute [local go_sem] max2_int min2_int max_two min_two max_three min_three max_four min_four
set_option linter.unusedVariables false
set_option linter.unusedSimpArgs false

/-! ### impl_Encode: function 20 -/
theorem Bu.below {T e : TypeId} {B b : Nat} {bs : List Value} {w w1 : World} (h : Lib.IsBuilder T e B b bs w) (hb : Below w.heap.size w w1) : Lib.IsBuilder T e B b bs w1 := by
 have go : ∀ p, Lib.BuilderAt T e B b p bs w → Lib.BuilderAt T e B b p bs w1 := fun p ⟨h1, v, h2, h3, h4⟩ => by
  have hlt : b < w.heap.size := Lib.BuilderAt.lt ⟨h1, v, h2, h3, h4⟩
  exact ⟨h1, v, (hb.block b hlt).trans h2, pw_own_below h3 hb, h4⟩
 exact h.imp (go _) (go _)
def impl_Encode.l0 (k : Nat) (w : Int) : List ByteArray → ByteArray → Option ByteArray
 | [], acc => some acc
 | p :: r, acc => (impl_in.f (p.size : Int) 1 1000).bind fun t => if t = true then (impl_short.f k (IntKind.u64.wrap (p.size : Int))).bind fun s => (impl_Sum.f k p w).bind fun u => if acc.size + ((s ++ p) ++ u).size ≤ 140737488355328 then impl_Encode.l0 k w r (acc ++ ((s ++ p) ++ u)) else none else some ⟨#[]⟩
def impl_Encode.f (k : Nat) (l0 : List ByteArray) (a1 : Int) : Option ByteArray := (impl_in.f a1 1 8).bind fun t => if t = true then (if (l0.length : Int) > 500 then some ⟨#[]⟩ else impl_Encode.l0 k a1 l0 ⟨#[]⟩) else some ⟨#[]⟩
theorem impl_Encode.mono_l (w : Int) : ∀ l acc k, LeO (impl_Encode.l0 k w l acc) (impl_Encode.l0 (k + 1) w l acc)
 | [], _, _ => LeO.refl _
 | p :: r, acc, k => by
  unfold impl_Encode.l0
  refine LeO.bind (LeO.refl _) (fun _ => LeO.ite ?_ (LeO.refl _))
  refine LeO.bind (impl_short.mono _ _) (fun _ => LeO.bind (impl_Sum.mono _ _ _) (fun _ => LeO.ite (impl_Encode.mono_l w r _ k) (LeO.refl _)))
theorem impl_Encode.mono : ∀ l0 a1 k, LeO (impl_Encode.f k l0 a1) (impl_Encode.f (k + 1) l0 a1) := fun l0 a1 k => by
 unfold impl_Encode.f
 exact LeO.bind (LeO.refl _) (fun _ => LeO.ite (LeO.ite (LeO.refl _) (impl_Encode.mono_l a1 l0 _ k)) (LeO.refl _))
set_option maxHeartbeats 1000000 in
set_option maxRecDepth 100000 in
theorem impl_Encode.calls (k : Nat) (A0 : Option Addr) (c0 : Nat) (l0 : List ByteArray) (a1 : Int) (r : ByteArray) (w : World) (hr0 : Kd.C Kd.string w A0 l0.length l0) (hc0 : l0.length ≤ c0) (h : impl_Encode.f k l0 a1 = some r) :
  Calls Try.prog 20 #[.slice A0 l0.length c0, .int .i64 a1] w fun e w' => e = .returned (.string r) ∧ Below w.heap.size w w' := by
 unfold impl_Encode.f at h
 obtain ⟨t, ht, h⟩ := Option.bind_eq_some_iff.1 h
 cases t with
 | false =>
  rw [if_neg (by simp)] at h
  obtain rfl := Option.some.inj h
  clear h hr0 hc0
  go_enter Try.func20, Try.ntmps20
  go_wp2_with (go_at_call 37; refine (impl_in.calls _ _ _ _ _ ht).mono ?_; rintro e w' ⟨rfl, ⟨nd, rfl⟩⟩)
  go_ret
  exact ⟨rfl, pw_below_drewN (Below.refl _ _) _⟩
 | true =>
  rw [if_pos rfl] at h
  by_cases hl : (l0.length : Int) > 500
  ·rw [if_pos hl] at h
   obtain rfl := Option.some.inj h
   clear h hr0 hc0
   have hl1 : decide (500 < l0.length) = true := decide_eq_true (by omega)
   go_enter Try.func20, Try.ntmps20
   go_wp2_with (go_at_call 37; refine (impl_in.calls _ _ _ _ _ ht).mono ?_; rintro e w' ⟨rfl, ⟨nd, rfl⟩⟩)
   go_ret
   exact ⟨rfl, pw_below_drewN (Below.refl _ _) _⟩
  ·rw [if_neg hl] at h
   have hl1 : decide (500 < l0.length) = false := decide_eq_false (by omega)
   have hl2 : l0.length ≤ 500 := by omega
   have H := Aside0.mk h
   have HR := Aside0.mk hr0
   have HT := Aside0.mk ht
   clear h hr0 ht hl
   go_enter Try.func20, Try.ntmps20
   have HB := Aside0.mk (Below.refl w.heap.size w)
   go_wp2_with (first | (go_at_call 37; refine (impl_in.calls _ _ _ _ _ HT.out).mono ?_; rintro e w' ⟨rfl, ⟨nd, rfl⟩⟩) | ((with_reducible refine gate_dst (N := 5) rfl ?_); refine box_event ?hg (N := 5) ?hd (cs := #[.pointer none, .slice none 0 0]) (t := 74) ?hr ?_; (case hd => rfl); (case hg => rfl); (case hr => first | (go_simp; done) | (go_simp; rfl)); intro gb hg w3 hbox hb; have HG := Aside0.mk (show w.heap.size ≤ gb from (by rw [hg]; exact below_size (by repeat (first | (with_reducible first | exact HB.out | apply below_alloc | apply pw_below_drewN | apply below_drew1) | exact HB.out)))); have HI := Aside0.mk ((Or.inl ⟨HG.out, .slice none 0 0, hbox, World.ownsRow_nil _ _ _ _, by simp [Value.ownBlock]⟩ : Lib.IsBuilder 74 5 w.heap.size gb (Lib.byteCells (⟨#[]⟩ : ByteArray).data.toList) w3)); have HB2 := Aside0.mk (below_step (by repeat (first | (with_reducible first | exact HB.out | apply below_alloc | apply pw_below_drewN | apply below_drew1) | exact HB.out)) hb); clear HB hb hbox hg; have HB := HB2; clear HB2))
   go_loopg [18] (l0.length) (fun kq v18 w' => ∃ (i : Nat) (acc : ByteArray), v18 = .int .i64 (i : Int) ∧ Aside0 (impl_Encode.l0 k a1 (l0.drop i) acc = some r) ∧ Aside0 (kq + i = l0.length) ∧ Aside0 (Lib.IsBuilder 74 5 w.heap.size gb (Lib.byteCells acc.data.toList) w') ∧ Aside0 (Below w.heap.size w w'))
   case atStart => exact ⟨0, ⟨#[]⟩, rfl, ⟨by rw [List.drop_zero]; exact H.out⟩, ⟨by omega⟩, HI, HB⟩
   case round =>
    clear H HI HB HT
    obtain ⟨i, acc, rfl, HA, HK, HI, HB⟩ := hrel
    have H := HA.out
    have hik := HK.out
    clear HA
    by_cases hi : i < l0.length
    ·have c1 : decide ((i : Int) < (l0.length : Int)) = true := decide_eq_true (by omega)
     have c2 : decide (0 ≤ (i : Int)) = true := decide_eq_true (by omega)
     rw [List.drop_eq_getElem_cons hi] at H
     have e0 : impl_Encode.l0 k a1 (l0[i] :: l0.drop (i + 1)) acc = ((impl_in.f (l0[i].size : Int) 1 1000).bind fun t => if t = true then (impl_short.f k (IntKind.u64.wrap (l0[i].size : Int))).bind fun s => (impl_Sum.f k l0[i] a1).bind fun u => if acc.size + ((s ++ l0[i]) ++ u).size ≤ 140737488355328 then impl_Encode.l0 k a1 (l0.drop (i + 1)) (acc ++ ((s ++ l0[i]) ++ u)) else none else some ⟨#[]⟩) := rfl
     rw [e0] at H
     clear e0
     obtain ⟨t, ht1, H⟩ := Option.bind_eq_some_iff.1 H
     have HT := Aside0.mk ht1
     clear ht1
     obtain ⟨ad, e1, hx1⟩ := Kd.at_string HR.out (i : Int) (by omega) (by omega)
     cases e1
     replace hx1 := (HB.out.cell (World.block_lt_of_cell? w _ hx1)).trans hx1
     have er : rdOf ByteArray.empty l0 (i : Int) = l0[i] := by
      unfold rdOf
      rw [Int.toNat_natCast, List.getD_eq_getElem?_getD, List.getElem?_eq_getElem hi]
      rfl
     rw [er, Int.toNat_natCast] at hx1
     cases t with
     | false =>
      rw [if_neg (by simp)] at H
      obtain rfl := Option.some.inj H
      clear H
      go_wp2_with (go_at_call 37; refine (impl_in.calls _ _ _ _ _ HT.out).mono ?_; rintro e w' ⟨rfl, ⟨nd, rfl⟩⟩)
      go_ret
      exact ⟨rfl, pw_below_drewN HB.out _⟩
     | true =>
      rw [if_pos rfl] at H
      obtain ⟨s, hs, H⟩ := Option.bind_eq_some_iff.1 H
      obtain ⟨u, hu, H⟩ := Option.bind_eq_some_iff.1 H
      have HS := Aside0.mk hs
      have HU := Aside0.mk hu
      clear hs hu
      split at H
      ·rename_i hsz
       have HZ := Aside0.mk hsz
       have H' := Aside0.mk H
       clear H hsz
       have z1 : s.size + l0[i].size ≤ 9223372036854775807 := by have := HZ.out; rw [ByteArray.size_append, ByteArray.size_append] at this; omega
       have z2 : (s ++ l0[i]).size + u.size ≤ 9223372036854775807 := by have := HZ.out; rw [ByteArray.size_append] at this; omega
       have z1a := eq_true z1
       have z1b : decide (s.size + l0[i].size ≤ 9223372036854775807) = true := decide_eq_true z1
       have z1c : (9223372036854775807 < s.size + l0[i].size) = False := eq_false (Nat.not_lt.2 z1)
       have z2a := eq_true z2
       have z2b : decide ((s ++ l0[i]).size + u.size ≤ 9223372036854775807) = true := decide_eq_true z2
       have z2c : (9223372036854775807 < (s ++ l0[i]).size + u.size) = False := eq_false (Nat.not_lt.2 z2)
       have z3 : s.size + l0[i].size + u.size ≤ 9223372036854775807 := by have := HZ.out; rw [ByteArray.size_append, ByteArray.size_append] at this; omega
       have z3a := eq_true z3
       have z3b : decide (s.size + l0[i].size + u.size ≤ 9223372036854775807) = true := decide_eq_true z3
       have z3c : (9223372036854775807 < s.size + l0[i].size + u.size) = False := eq_false (Nat.not_lt.2 z3)
       clear z1 z2 z3
       have HL := Aside0.mk (show (Lib.byteCells acc.data.toList).length + ((s ++ l0[i]) ++ u).size ≤ 140737488355328 from by rw [Lib.byteCells_length]; exact HZ.out)
       go_wp2_with (first | (go_at_call 37; refine (impl_in.calls _ _ _ _ _ HT.out).mono ?_; rintro e w' ⟨rfl, ⟨nd, rfl⟩⟩; have HI2 := Aside0.mk (Bu.below HI.out (pw_below_drewN (Below.refl _ _) nd)); clear HI; have HI := HI2; clear HI2) | (go_at_call 42; refine (impl_short.calls k (IntKind.u64.wrap (l0[i].size : Int)) s _ HS.out).mono ?_; rintro e w5 ⟨rfl, hb5⟩; have HI2 := Aside0.mk (Bu.below HI.out hb5); have HB2 := Aside0.mk (below_step (by repeat (first | (with_reducible first | exact HB.out | apply below_alloc | apply pw_below_drewN | apply below_drew1) | exact HB.out)) hb5); clear HI HB hb5; have HI := HI2; have HB := HB2; clear HI2 HB2) | (go_at_call 12; refine (impl_Sum.calls k l0[i] a1 u _ HU.out).mono ?_; rintro e w6 ⟨rfl, hb6⟩; have HI2 := Aside0.mk (Bu.below HI.out hb6); have HB2 := Aside0.mk (below_step (by repeat (first | (with_reducible first | exact HB.out | apply below_alloc | apply pw_below_drewN | apply below_drew1) | exact HB.out)) hb6); clear HI HB hb6; have HI := HI2; have HB := HB2; clear HI2 HB2) | (go_at_call 41; refine (Bu.write w.heap.size gb _ ((s ++ l0[i]) ++ u) _ HI.out HL.out HB.out.size).mono ?_; rintro e w7 ⟨rfl, hi7, hb7⟩))
       go_roundg (gk - 1)
       case measure => omega
       case rel =>
        refine ⟨i + 1, acc ++ ((s ++ l0[i]) ++ u), ?_, H', ⟨by omega⟩, ⟨.inr ?_⟩, ⟨HB.out.trans hb7⟩⟩
        ·rw [show (i : Int) + 1 = ((i + 1 : Nat) : Int) from by omega]
        ·rw [ByteArray.data_append, Array.toList_append, Lib.byteCells, List.map_append]
         exact hi7
      ·cases H
    ·have c1 : decide ((i : Int) < (l0.length : Int)) = false := decide_eq_false (by omega)
     rw [List.drop_of_length_le (by omega)] at H
     obtain rfl := Option.some.inj (show some acc = some r from H)
     clear H
     go_wp2_with (go_at_call 43; refine (Try.Builder_String_any w.heap.size gb acc.data.toList _ HI.out HB.out.size).mono ?_; rintro e w4 ⟨rfl, hb4⟩)
     go_ret
     exact ⟨rfl, HB.out.trans hb4⟩


end Go.Proofs.Ytgaibeckblmbbaa.P
