/- Several texts of this claim in one file: YtkdghhkpmkfjhaaDoorP0, YtkdghhkpmkfjhaaDoorPImplIn, YtkdghhkpmkfjhaaDoorPImplGoodPart, YtkdghhkpmkfjhaaDoorPStringsliteHasPrefix, YtkdghhkpmkfjhaaDoorPStringsHasPrefix, YtkdghhkpmkfjhaaDoorPImplOver, YtkdghhkpmkfjhaaDoorPImplPartMatch, YtkdghhkpmkfjhaaDoorPImplMatchParts, YtkdghhkpmkfjhaaDoorPLawsMarkText, YtkdghhkpmkfjhaaDoorPLawsHeldEntryS, YtkdghhkpmkfjhaaDoorPLawsHeldTree, YtkdghhkpmkfjhaaDoorPLawsMarkStringS. -/
import Derived.Test.YtkdghhkpmkfjhaaDoorProg
import Derived.Below
import Derived.Deep.Draws
import Derived.Deep.AppendLies
import Derived.Maps.AppendAt
import Derived.OwnWalk
import Derived.Laws.BytesArg
import Derived.Laws.MakeOwn
import Derived.Laws.OwnMore
import Derived.Deep.OwnRows
import Derived.Tactics
import Derived.Lib.ConvBytes
import Derived.Laws.Slices
import Derived.WalkKit
import Derived.KernelRfl
import Derived.RowKit3
import Derived.Deep.LoopGhost
import Derived.Deep.QuietTactic
import Derived.BigQuiet
import Derived.WideLaws
import Derived.Deep.DeepCutAuto
import Derived.Deep.CutBlock
import Derived.Deep.RegionHeld3
import Derived.Laws.Rows
import Derived.Lib.AppendStr
import Derived.ArgAppend
import Derived.Laws.IdiomCopy
import Derived.OrdersHeld
import Derived.Laws.BitsLemmas
import Derived.RowKit
import Derived.Test.YtkdghhkpmkfjhaaDoorM1
namespace Go.Proofs.YtkdghhkpmkfjhaaDoor.P
open Go.RowKit Go.Proofs.YtkdghhkpmkfjhaaDoorW.PrintWords Go.Proofs.YtkdghhkpmkfjhaaDoorW.PrintLast Go.Proofs.YtkdghhkpmkfjhaaDoorW.PrintMore
attribute [local go_sem] max2_int min2_int max_two min_two max_three min_three max_four min_four
set_option linter.unusedVariables false
set_option linter.unusedSimpArgs false

def errW : Option Int → Value
  | none => .nilIface
  | some c => .iface 0 (.int .i64 c)
theorem errW_none : errW none = .nilIface := rfl
theorem errW_some (c : Int) : errW (some c) = .iface 0 (.int .i64 c) := rfl

/-- The library's variable holds some number. -/
def GOK (w : World) : Prop := ∃ m, w.cell? ⟨0, 0, none⟩ = some (.int .i64 m)
theorem GOK.below {w w' : World} (h : GOK w) (hb : Below w.heap.size w w') : GOK w' := by
  obtain ⟨m, hm⟩ := h
  exact ⟨m, (hb.cell (World.block_lt_of_cell? w _ hm)).trans hm⟩

theorem info4 : (Tryd.prog.info? 4).map (fun i => (i.zero, i.size, i.bytes)) = some (some (.bool false), 1, 1) := by kernel_rfl
theorem info5 : (Tryd.prog.info? 5).map (fun i => (i.zero, i.size, i.bytes)) = some (some (.int .u8 0), 1, 1) := by kernel_rfl
theorem info9 : (Tryd.prog.info? 9).map (fun i => (i.zero, i.size, i.bytes)) = some (some (.string ⟨#[]⟩), 1, 16) := by kernel_rfl
theorem info45 : (Tryd.prog.info? 45).map (fun i => (i.zero, i.size, i.bytes)) = some (some (.agg #[(.string ⟨#[]⟩), (.string ⟨#[]⟩), (.bool false)]), 3, 40) := by kernel_rfl
theorem info79 : (Tryd.prog.info? 79).map (fun i => (i.zero, i.size, i.bytes)) = some (some (.agg #[(.string ⟨#[]⟩), (.bool false), (.string ⟨#[]⟩), (.bool false), (.bool false), (.string ⟨#[]⟩), (.bool false)]), 7, 80) := by kernel_rfl
-- the values' own types
/-! #### struct type 62 -/
structure S62 where
  f0 : ByteArray
  f1 : ByteArray
  f2 : Bool
def z62 : S62 := ⟨(⟨#[]⟩ : ByteArray), (⟨#[]⟩ : ByteArray), false⟩
def k62 : Kd S62 := Kd.iso (Kd.pair Kd.string (Kd.pair Kd.string Kd.bool)) (fun x : S62 => (x.f0, x.f1, x.f2))
theorem k62_open {w : World} {x : S62} {cs : List Value} (h : k62.K w x cs) : cs = [.string x.f0, .string x.f1, .bool x.f2] := by
  obtain ⟨_, _, rfl, rfl, ⟨_, _, rfl, rfl, rfl⟩⟩ := h
  exact rfl
theorem k62_openM {w : World} {base : Nat} {ok : Nat → Prop} {x : S62} {cs : List Value} (h : k62.M w base ok x cs) : cs = [.string x.f0, .string x.f1, .bool x.f2] := by
  obtain ⟨_, _, rfl, rfl, ⟨_, _, rfl, rfl, rfl⟩⟩ := h
  exact rfl
theorem k62_mk (w : World) (x : S62)  : k62.K w x [.string x.f0, .string x.f1, .bool x.f2] := ⟨[.string x.f0], [.string x.f1, .bool x.f2], rfl, rfl, ⟨[.string x.f1], [.bool x.f2], rfl, rfl, rfl⟩⟩
theorem k62_mkM (w : World) (base : Nat) (ok : Nat → Prop) (x : S62)  : k62.M w base ok x [.string x.f0, .string x.f1, .bool x.f2] := ⟨[.string x.f0], [.string x.f1, .bool x.f2], rfl, rfl, ⟨[.string x.f1], [.bool x.f2], rfl, rfl, rfl⟩⟩
def rd_T62 (xs : List S62) (i : Int) : S62 := xs.getD i.toNat z62
theorem at_T62 {w : World} {A : Option Addr} {n : Nat} {xs : List S62} (h : Kd.C k62 w A n xs) (i : Int) (h0 : 0 ≤ i) (h1 : i < n) : ∃ ad , A = some ad ∧ w.cell? (ad.add (i.toNat * 3)) = some (.string (rd_T62 xs i).f0) ∧ w.cell? ⟨(ad.add (i.toNat * 3)).block, (ad.add (i.toNat * 3)).off + 1, none⟩ = some (.string (rd_T62 xs i).f1) ∧ w.cell? ⟨(ad.add (i.toNat * 3)).block, (ad.add (i.toNat * 3)).off + 2, none⟩ = some (.bool (rd_T62 xs i).f2) := by
  obtain ⟨ad, c, e, _, hK, hc0⟩ := Kd.C_get h z62 i h0 h1
  have hc : ∀ j u, c[j]? = some u → w.cell? (ad.add (i.toNat * 3 + j)) = some u := hc0
  obtain rfl := k62_open hK
  exact ⟨ad, e, hc 0 _ rfl, by rw [← add_field _ _ 1 (by omega)]; exact hc 1 _ rfl, by rw [← add_field _ _ 2 (by omega)]; exact hc 2 _ rfl⟩

/-! #### struct type 45 -/
structure S45 where
  f0 : ByteArray
  f1 : ByteArray
  f2 : Bool
def z45 : S45 := ⟨(⟨#[]⟩ : ByteArray), (⟨#[]⟩ : ByteArray), false⟩
def k45 : Kd S45 := Kd.iso (Kd.pair Kd.string (Kd.pair Kd.string Kd.bool)) (fun x : S45 => (x.f0, x.f1, x.f2))
theorem k45_open {w : World} {x : S45} {cs : List Value} (h : k45.K w x cs) : cs = [.string x.f0, .string x.f1, .bool x.f2] := by
  obtain ⟨_, _, rfl, rfl, ⟨_, _, rfl, rfl, rfl⟩⟩ := h
  exact rfl
theorem k45_openM {w : World} {base : Nat} {ok : Nat → Prop} {x : S45} {cs : List Value} (h : k45.M w base ok x cs) : cs = [.string x.f0, .string x.f1, .bool x.f2] := by
  obtain ⟨_, _, rfl, rfl, ⟨_, _, rfl, rfl, rfl⟩⟩ := h
  exact rfl
theorem k45_mk (w : World) (x : S45)  : k45.K w x [.string x.f0, .string x.f1, .bool x.f2] := ⟨[.string x.f0], [.string x.f1, .bool x.f2], rfl, rfl, ⟨[.string x.f1], [.bool x.f2], rfl, rfl, rfl⟩⟩
theorem k45_mkM (w : World) (base : Nat) (ok : Nat → Prop) (x : S45)  : k45.M w base ok x [.string x.f0, .string x.f1, .bool x.f2] := ⟨[.string x.f0], [.string x.f1, .bool x.f2], rfl, rfl, ⟨[.string x.f1], [.bool x.f2], rfl, rfl, rfl⟩⟩
def rd_T45 (xs : List S45) (i : Int) : S45 := xs.getD i.toNat z45
theorem at_T45 {w : World} {A : Option Addr} {n : Nat} {xs : List S45} (h : Kd.C k45 w A n xs) (i : Int) (h0 : 0 ≤ i) (h1 : i < n) : ∃ ad , A = some ad ∧ w.cell? (ad.add (i.toNat * 3)) = some (.string (rd_T45 xs i).f0) ∧ w.cell? ⟨(ad.add (i.toNat * 3)).block, (ad.add (i.toNat * 3)).off + 1, none⟩ = some (.string (rd_T45 xs i).f1) ∧ w.cell? ⟨(ad.add (i.toNat * 3)).block, (ad.add (i.toNat * 3)).off + 2, none⟩ = some (.bool (rd_T45 xs i).f2) := by
  obtain ⟨ad, c, e, _, hK, hc0⟩ := Kd.C_get h z45 i h0 h1
  have hc : ∀ j u, c[j]? = some u → w.cell? (ad.add (i.toNat * 3 + j)) = some u := hc0
  obtain rfl := k45_open hK
  exact ⟨ad, e, hc 0 _ rfl, by rw [← add_field _ _ 1 (by omega)]; exact hc 1 _ rfl, by rw [← add_field _ _ 2 (by omega)]; exact hc 2 _ rfl⟩

def rd_L4 (xs : List (List ByteArray)) (i : Int) : (List ByteArray) := xs.getD i.toNat ([] : List ByteArray)
theorem at_L4 {w : World} {A : Option Addr} {n : Nat} {xs : List (List ByteArray)} (h : Kd.C (Kd.slice 9 Kd.string) w A n xs) (i : Int) (h0 : 0 ≤ i) (h1 : i < n) : ∃ ad A0 c0, A = some ad ∧ w.cell? (ad.add i.toNat) = some (.slice A0 (rd_L4 xs i).length c0) ∧ (rd_L4 xs i).length ≤ c0 ∧ Kd.string.C w A0 (rd_L4 xs i).length (rd_L4 xs i) := by
  obtain ⟨ad, c, e, _, hK, hc0⟩ := Kd.C_get h ([] : List ByteArray) i h0 h1
  have hc : ∀ j u, c[j]? = some u → w.cell? (ad.add (i.toNat * 1 + j)) = some u := hc0
  obtain ⟨A0, c0, rfl, l0, g0⟩ := hK
  exact ⟨ad, A0, c0, e, by have hq := hc 0 _ rfl; rwa [Nat.mul_one, Nat.add_zero] at hq, l0, g0⟩

/-! #### struct type 95 -/
structure S95 where
  f0 : Bool
  f1 : ByteArray
  f2 : Bool
def z95 : S95 := ⟨false, (⟨#[]⟩ : ByteArray), false⟩
def k95 : Kd S95 := Kd.iso (Kd.pair Kd.bool (Kd.pair Kd.string Kd.bool)) (fun x : S95 => (x.f0, x.f1, x.f2))
theorem k95_open {w : World} {x : S95} {cs : List Value} (h : k95.K w x cs) : cs = [.bool x.f0, .string x.f1, .bool x.f2] := by
  obtain ⟨_, _, rfl, rfl, ⟨_, _, rfl, rfl, rfl⟩⟩ := h
  exact rfl
theorem k95_openM {w : World} {base : Nat} {ok : Nat → Prop} {x : S95} {cs : List Value} (h : k95.M w base ok x cs) : cs = [.bool x.f0, .string x.f1, .bool x.f2] := by
  obtain ⟨_, _, rfl, rfl, ⟨_, _, rfl, rfl, rfl⟩⟩ := h
  exact rfl
theorem k95_mk (w : World) (x : S95)  : k95.K w x [.bool x.f0, .string x.f1, .bool x.f2] := ⟨[.bool x.f0], [.string x.f1, .bool x.f2], rfl, rfl, ⟨[.string x.f1], [.bool x.f2], rfl, rfl, rfl⟩⟩
theorem k95_mkM (w : World) (base : Nat) (ok : Nat → Prop) (x : S95)  : k95.M w base ok x [.bool x.f0, .string x.f1, .bool x.f2] := ⟨[.bool x.f0], [.string x.f1, .bool x.f2], rfl, rfl, ⟨[.string x.f1], [.bool x.f2], rfl, rfl, rfl⟩⟩
def rd_T95 (xs : List S95) (i : Int) : S95 := xs.getD i.toNat z95
theorem at_T95 {w : World} {A : Option Addr} {n : Nat} {xs : List S95} (h : Kd.C k95 w A n xs) (i : Int) (h0 : 0 ≤ i) (h1 : i < n) : ∃ ad , A = some ad ∧ w.cell? (ad.add (i.toNat * 3)) = some (.bool (rd_T95 xs i).f0) ∧ w.cell? ⟨(ad.add (i.toNat * 3)).block, (ad.add (i.toNat * 3)).off + 1, none⟩ = some (.string (rd_T95 xs i).f1) ∧ w.cell? ⟨(ad.add (i.toNat * 3)).block, (ad.add (i.toNat * 3)).off + 2, none⟩ = some (.bool (rd_T95 xs i).f2) := by
  obtain ⟨ad, c, e, _, hK, hc0⟩ := Kd.C_get h z95 i h0 h1
  have hc : ∀ j u, c[j]? = some u → w.cell? (ad.add (i.toNat * 3 + j)) = some u := hc0
  obtain rfl := k95_open hK
  exact ⟨ad, e, hc 0 _ rfl, by rw [← add_field _ _ 1 (by omega)]; exact hc 1 _ rfl, by rw [← add_field _ _ 2 (by omega)]; exact hc 2 _ rfl⟩

/-! #### struct type 97 -/
structure S97 where
  f0 : ByteArray
  f1 : S95
  f2 : S95
def z97 : S97 := ⟨(⟨#[]⟩ : ByteArray), z95, z95⟩
def k97 : Kd S97 := Kd.iso (Kd.pair Kd.string (Kd.pair k95 k95)) (fun x : S97 => (x.f0, x.f1, x.f2))
theorem k97_open {w : World} {x : S97} {cs : List Value} (h : k97.K w x cs) : cs = [.string x.f0, .bool x.f1.f0, .string x.f1.f1, .bool x.f1.f2, .bool x.f2.f0, .string x.f2.f1, .bool x.f2.f2] := by
  obtain ⟨_, _, rfl, rfl, ⟨_, _, rfl, s1, s4⟩⟩ := h
  obtain rfl := k95_open s1
  obtain rfl := k95_open s4
  exact rfl
theorem k97_openM {w : World} {base : Nat} {ok : Nat → Prop} {x : S97} {cs : List Value} (h : k97.M w base ok x cs) : cs = [.string x.f0, .bool x.f1.f0, .string x.f1.f1, .bool x.f1.f2, .bool x.f2.f0, .string x.f2.f1, .bool x.f2.f2] := by
  obtain ⟨_, _, rfl, rfl, ⟨_, _, rfl, s1, s4⟩⟩ := h
  obtain rfl := k95_openM s1
  obtain rfl := k95_openM s4
  exact rfl
theorem k97_mk (w : World) (x : S97)  : k97.K w x [.string x.f0, .bool x.f1.f0, .string x.f1.f1, .bool x.f1.f2, .bool x.f2.f0, .string x.f2.f1, .bool x.f2.f2] := ⟨[.string x.f0], [.bool x.f1.f0, .string x.f1.f1, .bool x.f1.f2, .bool x.f2.f0, .string x.f2.f1, .bool x.f2.f2], rfl, rfl, ⟨[.bool x.f1.f0, .string x.f1.f1, .bool x.f1.f2], [.bool x.f2.f0, .string x.f2.f1, .bool x.f2.f2], rfl, (k95_mk w x.f1 ), (k95_mk w x.f2 )⟩⟩
theorem k97_mkM (w : World) (base : Nat) (ok : Nat → Prop) (x : S97)  : k97.M w base ok x [.string x.f0, .bool x.f1.f0, .string x.f1.f1, .bool x.f1.f2, .bool x.f2.f0, .string x.f2.f1, .bool x.f2.f2] := ⟨[.string x.f0], [.bool x.f1.f0, .string x.f1.f1, .bool x.f1.f2, .bool x.f2.f0, .string x.f2.f1, .bool x.f2.f2], rfl, rfl, ⟨[.bool x.f1.f0, .string x.f1.f1, .bool x.f1.f2], [.bool x.f2.f0, .string x.f2.f1, .bool x.f2.f2], rfl, (k95_mkM w base ok x.f1 ), (k95_mkM w base ok x.f2 )⟩⟩
def rd_T97 (xs : List S97) (i : Int) : S97 := xs.getD i.toNat z97
theorem at_T97 {w : World} {A : Option Addr} {n : Nat} {xs : List S97} (h : Kd.C k97 w A n xs) (i : Int) (h0 : 0 ≤ i) (h1 : i < n) : ∃ ad , A = some ad ∧ w.cell? (ad.add (i.toNat * 7)) = some (.string (rd_T97 xs i).f0) ∧ w.cell? ⟨(ad.add (i.toNat * 7)).block, (ad.add (i.toNat * 7)).off + 1, none⟩ = some (.bool (rd_T97 xs i).f1.f0) ∧ w.cell? ⟨(ad.add (i.toNat * 7)).block, (ad.add (i.toNat * 7)).off + 2, none⟩ = some (.string (rd_T97 xs i).f1.f1) ∧ w.cell? ⟨(ad.add (i.toNat * 7)).block, (ad.add (i.toNat * 7)).off + 3, none⟩ = some (.bool (rd_T97 xs i).f1.f2) ∧ w.cell? ⟨(ad.add (i.toNat * 7)).block, (ad.add (i.toNat * 7)).off + 4, none⟩ = some (.bool (rd_T97 xs i).f2.f0) ∧ w.cell? ⟨(ad.add (i.toNat * 7)).block, (ad.add (i.toNat * 7)).off + 5, none⟩ = some (.string (rd_T97 xs i).f2.f1) ∧ w.cell? ⟨(ad.add (i.toNat * 7)).block, (ad.add (i.toNat * 7)).off + 6, none⟩ = some (.bool (rd_T97 xs i).f2.f2) := by
  obtain ⟨ad, c, e, _, hK, hc0⟩ := Kd.C_get h z97 i h0 h1
  have hc : ∀ j u, c[j]? = some u → w.cell? (ad.add (i.toNat * 7 + j)) = some u := hc0
  obtain rfl := k97_open hK
  exact ⟨ad, e, hc 0 _ rfl, by rw [← add_field _ _ 1 (by omega)]; exact hc 1 _ rfl, by rw [← add_field _ _ 2 (by omega)]; exact hc 2 _ rfl, by rw [← add_field _ _ 3 (by omega)]; exact hc 3 _ rfl, by rw [← add_field _ _ 4 (by omega)]; exact hc 4 _ rfl, by rw [← add_field _ _ 5 (by omega)]; exact hc 5 _ rfl, by rw [← add_field _ _ 6 (by omega)]; exact hc 6 _ rfl⟩

/-! #### struct type 77 -/
structure S77 where
  f0 : Bool
  f1 : ByteArray
  f2 : Bool
def z77 : S77 := ⟨false, (⟨#[]⟩ : ByteArray), false⟩
def k77 : Kd S77 := Kd.iso (Kd.pair Kd.bool (Kd.pair Kd.string Kd.bool)) (fun x : S77 => (x.f0, x.f1, x.f2))
theorem k77_open {w : World} {x : S77} {cs : List Value} (h : k77.K w x cs) : cs = [.bool x.f0, .string x.f1, .bool x.f2] := by
  obtain ⟨_, _, rfl, rfl, ⟨_, _, rfl, rfl, rfl⟩⟩ := h
  exact rfl
theorem k77_openM {w : World} {base : Nat} {ok : Nat → Prop} {x : S77} {cs : List Value} (h : k77.M w base ok x cs) : cs = [.bool x.f0, .string x.f1, .bool x.f2] := by
  obtain ⟨_, _, rfl, rfl, ⟨_, _, rfl, rfl, rfl⟩⟩ := h
  exact rfl
theorem k77_mk (w : World) (x : S77)  : k77.K w x [.bool x.f0, .string x.f1, .bool x.f2] := ⟨[.bool x.f0], [.string x.f1, .bool x.f2], rfl, rfl, ⟨[.string x.f1], [.bool x.f2], rfl, rfl, rfl⟩⟩
theorem k77_mkM (w : World) (base : Nat) (ok : Nat → Prop) (x : S77)  : k77.M w base ok x [.bool x.f0, .string x.f1, .bool x.f2] := ⟨[.bool x.f0], [.string x.f1, .bool x.f2], rfl, rfl, ⟨[.string x.f1], [.bool x.f2], rfl, rfl, rfl⟩⟩
def rd_T77 (xs : List S77) (i : Int) : S77 := xs.getD i.toNat z77
theorem at_T77 {w : World} {A : Option Addr} {n : Nat} {xs : List S77} (h : Kd.C k77 w A n xs) (i : Int) (h0 : 0 ≤ i) (h1 : i < n) : ∃ ad , A = some ad ∧ w.cell? (ad.add (i.toNat * 3)) = some (.bool (rd_T77 xs i).f0) ∧ w.cell? ⟨(ad.add (i.toNat * 3)).block, (ad.add (i.toNat * 3)).off + 1, none⟩ = some (.string (rd_T77 xs i).f1) ∧ w.cell? ⟨(ad.add (i.toNat * 3)).block, (ad.add (i.toNat * 3)).off + 2, none⟩ = some (.bool (rd_T77 xs i).f2) := by
  obtain ⟨ad, c, e, _, hK, hc0⟩ := Kd.C_get h z77 i h0 h1
  have hc : ∀ j u, c[j]? = some u → w.cell? (ad.add (i.toNat * 3 + j)) = some u := hc0
  obtain rfl := k77_open hK
  exact ⟨ad, e, hc 0 _ rfl, by rw [← add_field _ _ 1 (by omega)]; exact hc 1 _ rfl, by rw [← add_field _ _ 2 (by omega)]; exact hc 2 _ rfl⟩

/-! #### struct type 79 -/
structure S79 where
  f0 : ByteArray
  f1 : S77
  f2 : S77
def z79 : S79 := ⟨(⟨#[]⟩ : ByteArray), z77, z77⟩
def k79 : Kd S79 := Kd.iso (Kd.pair Kd.string (Kd.pair k77 k77)) (fun x : S79 => (x.f0, x.f1, x.f2))
theorem k79_open {w : World} {x : S79} {cs : List Value} (h : k79.K w x cs) : cs = [.string x.f0, .bool x.f1.f0, .string x.f1.f1, .bool x.f1.f2, .bool x.f2.f0, .string x.f2.f1, .bool x.f2.f2] := by
  obtain ⟨_, _, rfl, rfl, ⟨_, _, rfl, s1, s4⟩⟩ := h
  obtain rfl := k77_open s1
  obtain rfl := k77_open s4
  exact rfl
theorem k79_openM {w : World} {base : Nat} {ok : Nat → Prop} {x : S79} {cs : List Value} (h : k79.M w base ok x cs) : cs = [.string x.f0, .bool x.f1.f0, .string x.f1.f1, .bool x.f1.f2, .bool x.f2.f0, .string x.f2.f1, .bool x.f2.f2] := by
  obtain ⟨_, _, rfl, rfl, ⟨_, _, rfl, s1, s4⟩⟩ := h
  obtain rfl := k77_openM s1
  obtain rfl := k77_openM s4
  exact rfl
theorem k79_mk (w : World) (x : S79)  : k79.K w x [.string x.f0, .bool x.f1.f0, .string x.f1.f1, .bool x.f1.f2, .bool x.f2.f0, .string x.f2.f1, .bool x.f2.f2] := ⟨[.string x.f0], [.bool x.f1.f0, .string x.f1.f1, .bool x.f1.f2, .bool x.f2.f0, .string x.f2.f1, .bool x.f2.f2], rfl, rfl, ⟨[.bool x.f1.f0, .string x.f1.f1, .bool x.f1.f2], [.bool x.f2.f0, .string x.f2.f1, .bool x.f2.f2], rfl, (k77_mk w x.f1 ), (k77_mk w x.f2 )⟩⟩
theorem k79_mkM (w : World) (base : Nat) (ok : Nat → Prop) (x : S79)  : k79.M w base ok x [.string x.f0, .bool x.f1.f0, .string x.f1.f1, .bool x.f1.f2, .bool x.f2.f0, .string x.f2.f1, .bool x.f2.f2] := ⟨[.string x.f0], [.bool x.f1.f0, .string x.f1.f1, .bool x.f1.f2, .bool x.f2.f0, .string x.f2.f1, .bool x.f2.f2], rfl, rfl, ⟨[.bool x.f1.f0, .string x.f1.f1, .bool x.f1.f2], [.bool x.f2.f0, .string x.f2.f1, .bool x.f2.f2], rfl, (k77_mkM w base ok x.f1 ), (k77_mkM w base ok x.f2 )⟩⟩
def rd_T79 (xs : List S79) (i : Int) : S79 := xs.getD i.toNat z79
theorem at_T79 {w : World} {A : Option Addr} {n : Nat} {xs : List S79} (h : Kd.C k79 w A n xs) (i : Int) (h0 : 0 ≤ i) (h1 : i < n) : ∃ ad , A = some ad ∧ w.cell? (ad.add (i.toNat * 7)) = some (.string (rd_T79 xs i).f0) ∧ w.cell? ⟨(ad.add (i.toNat * 7)).block, (ad.add (i.toNat * 7)).off + 1, none⟩ = some (.bool (rd_T79 xs i).f1.f0) ∧ w.cell? ⟨(ad.add (i.toNat * 7)).block, (ad.add (i.toNat * 7)).off + 2, none⟩ = some (.string (rd_T79 xs i).f1.f1) ∧ w.cell? ⟨(ad.add (i.toNat * 7)).block, (ad.add (i.toNat * 7)).off + 3, none⟩ = some (.bool (rd_T79 xs i).f1.f2) ∧ w.cell? ⟨(ad.add (i.toNat * 7)).block, (ad.add (i.toNat * 7)).off + 4, none⟩ = some (.bool (rd_T79 xs i).f2.f0) ∧ w.cell? ⟨(ad.add (i.toNat * 7)).block, (ad.add (i.toNat * 7)).off + 5, none⟩ = some (.string (rd_T79 xs i).f2.f1) ∧ w.cell? ⟨(ad.add (i.toNat * 7)).block, (ad.add (i.toNat * 7)).off + 6, none⟩ = some (.bool (rd_T79 xs i).f2.f2) := by
  obtain ⟨ad, c, e, _, hK, hc0⟩ := Kd.C_get h z79 i h0 h1
  have hc : ∀ j u, c[j]? = some u → w.cell? (ad.add (i.toNat * 7 + j)) = some u := hc0
  obtain rfl := k79_open hK
  exact ⟨ad, e, hc 0 _ rfl, by rw [← add_field _ _ 1 (by omega)]; exact hc 1 _ rfl, by rw [← add_field _ _ 2 (by omega)]; exact hc 2 _ rfl, by rw [← add_field _ _ 3 (by omega)]; exact hc 3 _ rfl, by rw [← add_field _ _ 4 (by omega)]; exact hc 4 _ rfl, by rw [← add_field _ _ 5 (by omega)]; exact hc 5 _ rfl, by rw [← add_field _ _ 6 (by omega)]; exact hc 6 _ rfl⟩

def rd_L9 (xs : List (List S45)) (i : Int) : (List S45) := xs.getD i.toNat ([] : List S45)
theorem at_L9 {w : World} {A : Option Addr} {n : Nat} {xs : List (List S45)} (h : Kd.C (Kd.slice 45 k45) w A n xs) (i : Int) (h0 : 0 ≤ i) (h1 : i < n) : ∃ ad A0 c0, A = some ad ∧ w.cell? (ad.add i.toNat) = some (.slice A0 (rd_L9 xs i).length c0) ∧ (rd_L9 xs i).length ≤ c0 ∧ k45.C w A0 (rd_L9 xs i).length (rd_L9 xs i) := by
  obtain ⟨ad, c, e, _, hK, hc0⟩ := Kd.C_get h ([] : List S45) i h0 h1
  have hc : ∀ j u, c[j]? = some u → w.cell? (ad.add (i.toNat * 1 + j)) = some u := hc0
  obtain ⟨A0, c0, rfl, l0, g0⟩ := hK
  exact ⟨ad, A0, c0, e, by have hq := hc 0 _ rfl; rwa [Nat.mul_one, Nat.add_zero] at hq, l0, g0⟩

/-! #### struct type 29 -/
structure S29 where
  f0 : (List S45)
def z29 : S29 := ⟨([] : List S45)⟩
def k29 : Kd S29 := Kd.iso (Kd.slice 45 k45) (fun x : S29 => x.f0)
theorem k29_open {w : World} {x : S29} {cs : List Value} (h : k29.K w x cs) : ∃ A0 c0, cs = [.slice A0 x.f0.length c0] ∧ x.f0.length ≤ c0 ∧ k45.C w A0 x.f0.length x.f0 := by
  obtain ⟨A0, c0, rfl, l0, g0⟩ := h
  exact ⟨A0, c0, rfl, l0, g0⟩
theorem k29_openM {w : World} {base : Nat} {ok : Nat → Prop} {x : S29} {cs : List Value} (h : k29.M w base ok x cs) : ∃ v0, cs = [v0] ∧ k45.R 45 w base ok v0 x.f0 := by
  obtain ⟨v0, rfl, g0⟩ := h
  exact ⟨v0, rfl, g0⟩
theorem k29_mk (w : World) (x : S29) {A0 : Option Addr} {c0 : Nat} (l0 : x.f0.length ≤ c0) (g0 : k45.C w A0 x.f0.length x.f0) : k29.K w x [.slice A0 x.f0.length c0] := ⟨A0, c0, rfl, l0, g0⟩
theorem k29_mkM (w : World) (base : Nat) (ok : Nat → Prop) (x : S29) {v0 : Value} (g0 : k45.R 45 w base ok v0 x.f0) : k29.M w base ok x [v0] := ⟨v0, rfl, g0⟩
def rd_T29 (xs : List S29) (i : Int) : S29 := xs.getD i.toNat z29
theorem at_T29 {w : World} {A : Option Addr} {n : Nat} {xs : List S29} (h : Kd.C k29 w A n xs) (i : Int) (h0 : 0 ≤ i) (h1 : i < n) : ∃ ad A0 c0, A = some ad ∧ w.cell? (ad.add i.toNat) = some (.slice A0 (rd_T29 xs i).f0.length c0) ∧ (rd_T29 xs i).f0.length ≤ c0 ∧ k45.C w A0 (rd_T29 xs i).f0.length (rd_T29 xs i).f0 := by
  obtain ⟨ad, c, e, _, hK, hc0⟩ := Kd.C_get h z29 i h0 h1
  have hc : ∀ j u, c[j]? = some u → w.cell? (ad.add (i.toNat * 1 + j)) = some u := hc0
  obtain ⟨A0, c0, rfl, l0, g0⟩ := k29_open hK
  exact ⟨ad, A0, c0, e, by have hq := hc 0 _ rfl; rwa [Nat.mul_one, Nat.add_zero] at hq, l0, g0⟩

theorem own_len (A : Option Addr) (n m c d : Nat) : (Value.slice A n c).ownBlock = (Value.slice A m d).ownBlock := by cases A <;> rfl

theorem less_turn : ∀ x y : List UInt8, (Op.bytesLess x y || (x == y)) = !(Op.bytesLess y x)
  | [], [] => by simp [Op.bytesLess]
  | [], _ :: _ => by simp [Op.bytesLess]
  | _ :: _, [] => by simp [Op.bytesLess]
  | a :: x, b :: y => by
    have ih := less_turn x y
    simp only [Op.bytesLess]
    by_cases h : a = b
    · subst h
      simpa using ih
    · by_cases h1 : a < b
      · have h2 : ¬ b < a := by simp only [UInt8.lt_iff_toNat_lt] at h1 ⊢; omega
        have h3 : ¬ b = a := fun e => h e.symm
        simp [h1, h2, h3]
      · have h2 : b < a := by
          have : a.toNat ≠ b.toNat := fun e => h (UInt8.toNat_inj.1 e)
          simp only [UInt8.lt_iff_toNat_lt] at h1 ⊢; omega
        simp [h, h1, h2]
@[go_sem] theorem binOp_string_geq_ (t : TypeId) (a b : ByteArray) : binOp .geq t (.string a) (.string b) = pure (.bool !(Op.bytesLess a.toList b.toList)) := by simp [binOp, Op.stringOp]
@[go_sem] theorem binOp_string_leq_ (t : TypeId) (a b : ByteArray) : binOp .leq t (.string a) (.string b) = pure (.bool !(Op.bytesLess b.toList a.toList)) := by simp [binOp, Op.stringOp, less_turn]
@[go_sem] theorem binOp_string_gtr_ (t : TypeId) (a b : ByteArray) : binOp .gtr t (.string a) (.string b) = pure (.bool (Op.bytesLess b.toList a.toList)) := by simp [binOp, Op.stringOp, less_turn]

end Go.Proofs.YtkdghhkpmkfjhaaDoor.P


namespace Go.Proofs.YtkdghhkpmkfjhaaDoor.P
open Go.RowKit Go.Proofs.YtkdghhkpmkfjhaaDoorW.PrintWords Go.Proofs.YtkdghhkpmkfjhaaDoorW.PrintLast Go.Proofs.YtkdghhkpmkfjhaaDoorW.PrintMore
attribute [local go_sem] max2_int min2_int max_two min_two max_three min_three max_four min_four
set_option linter.unusedVariables false
set_option linter.unusedSimpArgs false

/-! ### impl_in: function 108 -/
def impl_in.f (a0 : Int) (a1 : Int) (a2 : Int) : Option (Bool) := if a0 ≥ a1 then (some (decide (a0 ≤ a2))) else (some false)
set_option maxHeartbeats 8000000 in
set_option maxRecDepth 100000 in
theorem impl_in.calls (a0 : Int) (a1 : Int) (a2 : Int) (r : Bool) (w : World) (h : impl_in.f a0 a1 a2 = some r) :
  Calls Tryd.prog 108 #[.int .i64 a0, .int .i64 a1, .int .i64 a2] w fun e w' => e = .returned (.bool r) ∧ Drawn0 w w' := by
 have H : (if a0 ≥ a1 then (some (decide (a0 ≤ a2))) else (some false)) = some r := h; clear h
 by_cases c4 : a0 ≥ a1
 ·rw [if_pos c4] at H
  have c4b0 : decide (a1 ≤ a0) = true := decide_eq_true c4; clear c4; obtain rfl := Option.some.inj H
  go_enter Tryd.func108, Tryd.ntmps108
  go_wp2
  go_ret
  exact ⟨by first | rfl | (simp; done) | (simp [*]; done), by repeat (first | exact Drawn0.refl _ | apply Drawn0.step)⟩
 ·rw [if_neg c4] at H
  have c4b0 : decide (a1 ≤ a0) = false := decide_eq_false c4; clear c4; obtain rfl := Option.some.inj H
  go_enter Tryd.func108, Tryd.ntmps108
  go_wp2
  go_ret
  exact ⟨by first | rfl | (simp; done) | (simp [*]; done), by repeat (first | exact Drawn0.refl _ | apply Drawn0.step)⟩

end Go.Proofs.YtkdghhkpmkfjhaaDoor.P


namespace Go.Proofs.YtkdghhkpmkfjhaaDoor.P
open Go.RowKit Go.Proofs.YtkdghhkpmkfjhaaDoorW.PrintWords Go.Proofs.YtkdghhkpmkfjhaaDoorW.PrintLast Go.Proofs.YtkdghhkpmkfjhaaDoorW.PrintMore
attribute [local go_sem] max2_int min2_int max_two min_two max_three min_three max_four min_four
set_option linter.unusedVariables false
set_option linter.unusedSimpArgs false

/-! ### impl_goodPart: function 96 -/
mutual
def impl_goodPart.j0 : Nat → ByteArray → Bool → Bool → Option (Bool)
 | 0, _, _, _ => none
 | k + 1, x0, x1, x18 => if x18 = true then (some false) else (impl_goodPart.l0 k x0 x1 0)
def impl_goodPart.l0 : Nat → ByteArray → Bool → Int → Option (Bool)
 | 0, _, _, _ => none
 | k + 1, x0, x1, x5 => if x5 < (x0.size : Int) then (if 0 ≤ x5 then (if (bt x0 x5) < 33 then (some false) else (if (bt x0 x5) > 126 then (some false) else (if (bt x0 x5) = 34 then (some false) else (if (bt x0 x5) = 47 then (some false) else (if x1 = true then (impl_goodPart.l0 k x0 x1 (wrap64 (x5 + 1))) else (if (bt x0 x5) = 42 then (some false) else (if (bt x0 x5) = 63 then (some false) else (impl_goodPart.l0 k x0 x1 (wrap64 (x5 + 1)))))))))) else (none)) else (some true)
end
def impl_goodPart.f (k : Nat) (a0 : ByteArray) (a1 : Bool) : Option (Bool) := (impl_in.f (a0.size : Int) 1 20).bind fun t148 => (if t148 = true then (if a0.toList = ([46] : List UInt8) then (impl_goodPart.j0 k a0 a1 true) else (impl_goodPart.j0 k a0 a1 (a0.toList == ([46, 46] : List UInt8)))) else (impl_goodPart.j0 k a0 a1 true))
theorem impl_goodPart.mono_l : ∀ k, (∀ y0 y1 y2, LeO (impl_goodPart.j0 k y0 y1 y2) (impl_goodPart.j0 (k + 1) y0 y1 y2)) ∧ (∀ y0 y1 y2, LeO (impl_goodPart.l0 k y0 y1 y2) (impl_goodPart.l0 (k + 1) y0 y1 y2))
 | 0 => ⟨fun _ _ _ r h => by simp [impl_goodPart.j0] at h, fun _ _ _ r h => by simp [impl_goodPart.l0] at h⟩
 | k + 1 => by
  obtain ⟨ih0, ih1⟩ := impl_goodPart.mono_l k; refine ⟨?_, ?_⟩
  ·intro y0 y1 y2
   unfold impl_goodPart.j0
   repeat' first
   | (with_reducible exact ih0 _ _ _)
   | (with_reducible exact ih1 _ _ _)
   | (with_reducible exact LeO.refl _)
   | (with_reducible exact LeO.none _)
   | (with_reducible refine LeO.ite ?_ ?_)
   | (with_reducible refine LeO.bind ?_ (fun _ => ?_))
   | exact ih0 _ _ _
   | exact ih1 _ _ _
   | exact LeO.none _
   | refine LeO.ite ?_ ?_
   | refine LeO.bind ?_ (fun _ => ?_)
  ·intro y0 y1 y2
   unfold impl_goodPart.l0
   repeat' first
   | (with_reducible exact ih0 _ _ _)
   | (with_reducible exact ih1 _ _ _)
   | (with_reducible exact LeO.refl _)
   | (with_reducible exact LeO.none _)
   | (with_reducible refine LeO.ite ?_ ?_)
   | (with_reducible refine LeO.bind ?_ (fun _ => ?_))
   | exact ih0 _ _ _
   | exact ih1 _ _ _
   | exact LeO.none _
   | refine LeO.ite ?_ ?_
   | refine LeO.bind ?_ (fun _ => ?_)
theorem impl_goodPart.mono : ∀ a0 a1 k, LeO (impl_goodPart.f k a0 a1) (impl_goodPart.f (k + 1) a0 a1) := by
 intro a0 a1 k; obtain ⟨ih0, ih1⟩ := impl_goodPart.mono_l k
 unfold impl_goodPart.f
 repeat' first
   | (with_reducible exact ih0 _ _ _)
   | (with_reducible exact ih1 _ _ _)
   | (with_reducible exact LeO.refl _)
   | (with_reducible exact LeO.none _)
   | (with_reducible refine LeO.ite ?_ ?_)
   | (with_reducible refine LeO.bind ?_ (fun _ => ?_))
   | exact ih0 _ _ _
   | exact ih1 _ _ _
   | exact LeO.none _
   | refine LeO.ite ?_ ?_
   | refine LeO.bind ?_ (fun _ => ?_)
set_option maxHeartbeats 8000000 in
set_option maxRecDepth 100000 in
theorem impl_goodPart.calls (k : Nat) (a0 : ByteArray) (a1 : Bool) (r : Bool) (w : World) (h : impl_goodPart.f k a0 a1 = some r) :
  Calls Tryd.prog 96 #[.string a0, .bool a1] w fun e w' => e = .returned (.bool r) ∧ Drawn0 w w' := by
 have H : ((impl_in.f (a0.size : Int) 1 20).bind fun t148 => (if t148 = true then (if a0.toList = ([46] : List UInt8) then (impl_goodPart.j0 k a0 a1 true) else (impl_goodPart.j0 k a0 a1 (a0.toList == ([46, 46] : List UInt8)))) else (impl_goodPart.j0 k a0 a1 true))) = some r := h; clear h; have HC3 := Aside0.mk H; clear H
 go_enter Tryd.func96, Tryd.ntmps96
 go_upto_region 1 with (fail)
 go_cut [18] (fun v18 wc => ∃ (kq : Nat) (x18_2 : Bool), v18 = .bool x18_2 ∧ Aside0 (impl_goodPart.j0 kq a0 a1 x18_2 = some r) ∧ Aside0 (kq ≤ k) ∧ Drawn0 w wc)
 case first =>
  have H := HC3.out; clear HC3; replace H := Option.bind_eq_some_iff.mp H; obtain ⟨t148, A40, H⟩ := H; replace H : (if t148 = true then (if a0.toList = ([46] : List UInt8) then (impl_goodPart.j0 k a0 a1 true) else (impl_goodPart.j0 k a0 a1 (a0.toList == ([46, 46] : List UInt8)))) else (impl_goodPart.j0 k a0 a1 true)) = some r := H; have A4 := Aside0.mk A40; clear A40
  by_cases c5 : t148 = true
  ·subst c5
   have H1 : (if a0.toList = ([46] : List UInt8) then (impl_goodPart.j0 k a0 a1 true) else (impl_goodPart.j0 k a0 a1 (a0.toList == ([46, 46] : List UInt8)))) = some r := by rw [if_pos rfl] at H; exact H
   clear H; have H := H1; clear H1
   by_cases c6 : a0.toList = ([46] : List UInt8)
   ·rw [if_pos c6] at H
    have c6b0 : (a0.toList == ([46] : List UInt8)) = true := beq_iff_eq.mpr c6; have c6b1 : (a0.toList != ([46] : List UInt8)) = false := bne_eq_false_iff_eq.mpr c6; clear c6; (first | rw [c6b0] | (simp only [i64_w, i32_w]; rw [c6b0]) | skip); have H' := Aside0.mk H; clear H
    go_wp2_with (first | ((with_reducible refine gate_callee (f := 108) rfl ?_); refine goesL_ (some 9) rfl rfl Tryd.func108 (by kernel_rfl) rfl #[.int .i64 (a0.size : Int), .int .i64 1, .int .i64 20] rfl (by (try simp only [List.map_toArray, List.map_cons, List.map_nil]); first | done | rfl | (simp only [List.length_drop, List.length_take]; rfl)) ?_; (with_reducible refine (impl_in.calls (a0.size : Int) 1 20 true _ A4.out).mono ?_); rintro e w' ⟨rfl, ⟨nd, rfl⟩⟩; refine ⟨_, rfl, ?_⟩))
    go_meet
    case rel => exact ⟨_, (true), (by first | rfl | (simp; done) | (simp [*]; done)), H', ⟨by first | omega | exact Nat.le_refl _⟩, by repeat (first | exact Drawn0.refl _ | apply Drawn0.step)⟩
   ·rw [if_neg c6] at H
    have c6b0 : (a0.toList == ([46] : List UInt8)) = false := beq_eq_false_iff_ne.mpr c6; have c6b1 : (a0.toList != ([46] : List UInt8)) = true := bne_iff_ne.mpr c6; (first | rw [c6b0] | (simp only [i64_w, i32_w]; rw [c6b0]) | skip); have H' := Aside0.mk H; clear H
    go_wp2_with (first | ((with_reducible refine gate_callee (f := 108) rfl ?_); refine goesL_ (some 9) rfl rfl Tryd.func108 (by kernel_rfl) rfl #[.int .i64 (a0.size : Int), .int .i64 1, .int .i64 20] rfl (by (try simp only [List.map_toArray, List.map_cons, List.map_nil]); first | done | rfl | (simp only [List.length_drop, List.length_take]; rfl)) ?_; (with_reducible refine (impl_in.calls (a0.size : Int) 1 20 true _ A4.out).mono ?_); rintro e w' ⟨rfl, ⟨nd, rfl⟩⟩; refine ⟨_, rfl, ?_⟩))
    go_meet
    case rel => exact ⟨_, ((a0.toList == ([46, 46] : List UInt8))), (by first | rfl | (simp; done) | (simp [*]; done)), H', ⟨by first | omega | exact Nat.le_refl _⟩, by repeat (first | exact Drawn0.refl _ | apply Drawn0.step)⟩
  ·replace c5 := Bool.eq_false_iff.mpr c5; subst c5
   have H1 : (impl_goodPart.j0 k a0 a1 true) = some r := by rw [if_neg (show ¬ (false = true) by decide)] at H; exact H
   clear H; have H := H1; clear H1; have H' := Aside0.mk H; clear H
   go_wp2_with (first | ((with_reducible refine gate_callee (f := 108) rfl ?_); refine goesL_ (some 9) rfl rfl Tryd.func108 (by kernel_rfl) rfl #[.int .i64 (a0.size : Int), .int .i64 1, .int .i64 20] rfl (by (try simp only [List.map_toArray, List.map_cons, List.map_nil]); first | done | rfl | (simp only [List.length_drop, List.length_take]; rfl)) ?_; (with_reducible refine (impl_in.calls (a0.size : Int) 1 20 false _ A4.out).mono ?_); rintro e w' ⟨rfl, ⟨nd, rfl⟩⟩; refine ⟨_, rfl, ?_⟩))
   go_meet
   case rel => exact ⟨_, (true), (by first | rfl | (simp; done) | (simp [*]; done)), H', ⟨by first | omega | exact Nat.le_refl _⟩, by repeat (first | exact Drawn0.refl _ | apply Drawn0.step)⟩
 case rest =>
  clear HC3; (try clear c1); (try clear p2); (try clear c5); (try clear c6); (try clear c6b0); (try clear c6b1); obtain ⟨kq, x18_2, rfl, HA, HJ2, ⟨mc2, rfl⟩⟩ := hcut
  cases kq with
  | zero => exact absurd HA.out (by simp [impl_goodPart.j0])
  | succ kj2 =>
   have H := HA.out; clear HA; simp only [impl_goodPart.j0] at H
   by_cases c7 : x18_2 = true
   ·subst c7
    have H1 : (some false) = some r := by rw [if_pos rfl] at H; exact H
    clear H; have H := H1; clear H1; obtain rfl := Option.some.inj H
    go_wp2
    go_ret
    exact ⟨by first | rfl | (simp; done) | (simp [*]; done), by repeat (first | exact Drawn0.refl _ | apply Drawn0.step)⟩
   ·replace c7 := Bool.eq_false_iff.mpr c7; subst c7
    have H1 : (impl_goodPart.l0 kj2 a0 a1 0) = some r := by rw [if_neg (show ¬ (false = true) by decide)] at H; exact H
    clear H; have H := H1; clear H1; have H' := Aside0.mk H; clear H
    go_wp2
    go_loopg [5] kj2 (fun kq v5 w' => ∃ (qa : Int), v5 = .int .i64 qa ∧ Aside0 (impl_goodPart.l0 kq a0 a1 qa = some r) ∧ Aside0 (kq ≤ kj2) ∧ Drawn0 w w')
    case atStart => exact ⟨(0), (by first | rfl | (simp; done) | (simp [*]; done)), H', ⟨Nat.le_refl _⟩, by repeat (first | exact Drawn0.refl _ | apply Drawn0.step)⟩
    case round =>
     clear H'; (try clear c1); (try clear c2); (try clear p2); (try clear c5); (try clear c6); (try clear c6b0); (try clear c6b1); (try clear c7); (try clear p2); obtain ⟨qa, rfl, HA, HK2, ⟨m2, rfl⟩⟩ := hrel
     cases gk with
     | zero => exact absurd HA.out (by simp [impl_goodPart.l0])
     | succ k2 =>
      have H := HA.out; clear HA; simp only [impl_goodPart.l0] at H
      by_cases c8 : qa < (a0.size : Int)
      ·rw [if_pos c8] at H
       have c8b0 : decide (qa < (a0.size : Int)) = true := decide_eq_true c8; clear c8
       by_cases c9 : 0 ≤ qa
       ·rw [if_pos c9] at H
        have c9b0 : decide (0 ≤ qa) = true := decide_eq_true c9; clear c9
        by_cases c11 : (bt a0 qa) < 33
        ·rw [if_pos c11] at H
         have c11b0 : decide ((bt a0 qa) < 33) = true := decide_eq_true c11; clear c11; obtain rfl := Option.some.inj H; have p10 : 0 ≤ (qa : Int) := of_decide_eq_true (by first | (with_reducible assumption) | assumption); have q10 : qa < (a0.size : Int) := of_decide_eq_true (by first | (with_reducible assumption) | assumption); have hx10 := bt_at a0 qa; replace p10 := eq_true p10; replace q10 := eq_true q10
         go_wp2
         go_ret
         exact ⟨by first | rfl | (simp; done) | (simp [*]; done), by repeat (first | exact Drawn0.refl _ | apply Drawn0.step)⟩
        ·rw [if_neg c11] at H
         have c11b0 : decide ((bt a0 qa) < 33) = false := decide_eq_false c11; clear c11
         by_cases c12 : (bt a0 qa) > 126
         ·rw [if_pos c12] at H
          have c12b0 : decide (126 < (bt a0 qa)) = true := decide_eq_true c12; clear c12; obtain rfl := Option.some.inj H; have p10 : 0 ≤ (qa : Int) := of_decide_eq_true (by first | (with_reducible assumption) | assumption); have q10 : qa < (a0.size : Int) := of_decide_eq_true (by first | (with_reducible assumption) | assumption); have hx10 := bt_at a0 qa; replace p10 := eq_true p10; replace q10 := eq_true q10
          go_wp2
          go_ret
          exact ⟨by first | rfl | (simp; done) | (simp [*]; done), by repeat (first | exact Drawn0.refl _ | apply Drawn0.step)⟩
         ·rw [if_neg c12] at H
          have c12b0 : decide (126 < (bt a0 qa)) = false := decide_eq_false c12; clear c12
          by_cases c13 : (bt a0 qa) = 34
          ·rw [if_pos c13] at H
           have c13b0 : ((bt a0 qa) == 34) = true := beq_iff_eq.mpr c13; have c13b1 : ((bt a0 qa) != 34) = false := bne_eq_false_iff_eq.mpr c13; clear c13; obtain rfl := Option.some.inj H; have p10 : 0 ≤ (qa : Int) := of_decide_eq_true (by first | (with_reducible assumption) | assumption); have q10 : qa < (a0.size : Int) := of_decide_eq_true (by first | (with_reducible assumption) | assumption); have hx10 := bt_at a0 qa; replace p10 := eq_true p10; replace q10 := eq_true q10
           go_wp2
           go_ret
           exact ⟨by first | rfl | (simp; done) | (simp [*]; done), by repeat (first | exact Drawn0.refl _ | apply Drawn0.step)⟩
          ·rw [if_neg c13] at H
           have c13b0 : ((bt a0 qa) == 34) = false := beq_eq_false_iff_ne.mpr c13; have c13b1 : ((bt a0 qa) != 34) = true := bne_iff_ne.mpr c13
           by_cases c14 : (bt a0 qa) = 47
           ·rw [if_pos c14] at H
            have c14b0 : ((bt a0 qa) == 47) = true := beq_iff_eq.mpr c14; have c14b1 : ((bt a0 qa) != 47) = false := bne_eq_false_iff_eq.mpr c14; clear c14; obtain rfl := Option.some.inj H; have p10 : 0 ≤ (qa : Int) := of_decide_eq_true (by first | (with_reducible assumption) | assumption); have q10 : qa < (a0.size : Int) := of_decide_eq_true (by first | (with_reducible assumption) | assumption); have hx10 := bt_at a0 qa; replace p10 := eq_true p10; replace q10 := eq_true q10
            go_wp2
            go_ret
            exact ⟨by first | rfl | (simp; done) | (simp [*]; done), by repeat (first | exact Drawn0.refl _ | apply Drawn0.step)⟩
           ·rw [if_neg c14] at H
            have c14b0 : ((bt a0 qa) == 47) = false := beq_eq_false_iff_ne.mpr c14; have c14b1 : ((bt a0 qa) != 47) = true := bne_iff_ne.mpr c14
            by_cases c15 : a1 = true
            ·subst c15
             have H1 : (impl_goodPart.l0 k2 a0 true (wrap64 (qa + 1))) = some r := by rw [if_pos rfl] at H; exact H
             clear H; have H := H1; clear H1; have H' := Aside0.mk H; clear H; have p10 : 0 ≤ (qa : Int) := of_decide_eq_true (by first | (with_reducible assumption) | assumption); have q10 : qa < (a0.size : Int) := of_decide_eq_true (by first | (with_reducible assumption) | assumption); have hx10 := bt_at a0 qa; replace p10 := eq_true p10; replace q10 := eq_true q10
             go_wp2
             go_roundg k2
             case measure => have := HJ2.out; have := HK2.out; omega
             case rel => exact ⟨(wrap64 (qa + 1)), (by first | rfl | (simp; done) | (simp [*]; done)), H', ⟨by have := HJ2.out; have := HK2.out; omega⟩, by repeat (first | exact Drawn0.refl _ | apply Drawn0.step)⟩
            ·replace c15 := Bool.eq_false_iff.mpr c15; subst c15
             have H1 : (if (bt a0 qa) = 42 then (some false) else (if (bt a0 qa) = 63 then (some false) else (impl_goodPart.l0 k2 a0 false (wrap64 (qa + 1))))) = some r := by rw [if_neg (show ¬ (false = true) by decide)] at H; exact H
             clear H; have H := H1; clear H1
             by_cases c16 : (bt a0 qa) = 42
             ·rw [if_pos c16] at H
              have c16b0 : ((bt a0 qa) == 42) = true := beq_iff_eq.mpr c16; have c16b1 : ((bt a0 qa) != 42) = false := bne_eq_false_iff_eq.mpr c16; clear c16; obtain rfl := Option.some.inj H; have p10 : 0 ≤ (qa : Int) := of_decide_eq_true (by first | (with_reducible assumption) | assumption); have q10 : qa < (a0.size : Int) := of_decide_eq_true (by first | (with_reducible assumption) | assumption); have hx10 := bt_at a0 qa; replace p10 := eq_true p10; replace q10 := eq_true q10
              go_wp2
              go_ret
              exact ⟨by first | rfl | (simp; done) | (simp [*]; done), by repeat (first | exact Drawn0.refl _ | apply Drawn0.step)⟩
             ·rw [if_neg c16] at H
              have c16b0 : ((bt a0 qa) == 42) = false := beq_eq_false_iff_ne.mpr c16; have c16b1 : ((bt a0 qa) != 42) = true := bne_iff_ne.mpr c16
              by_cases c17 : (bt a0 qa) = 63
              ·rw [if_pos c17] at H
               have c17b0 : ((bt a0 qa) == 63) = true := beq_iff_eq.mpr c17; have c17b1 : ((bt a0 qa) != 63) = false := bne_eq_false_iff_eq.mpr c17; clear c17; obtain rfl := Option.some.inj H; have p10 : 0 ≤ (qa : Int) := of_decide_eq_true (by first | (with_reducible assumption) | assumption); have q10 : qa < (a0.size : Int) := of_decide_eq_true (by first | (with_reducible assumption) | assumption); have hx10 := bt_at a0 qa; replace p10 := eq_true p10; replace q10 := eq_true q10
               go_wp2
               go_ret
               exact ⟨by first | rfl | (simp; done) | (simp [*]; done), by repeat (first | exact Drawn0.refl _ | apply Drawn0.step)⟩
              ·rw [if_neg c17] at H
               have c17b0 : ((bt a0 qa) == 63) = false := beq_eq_false_iff_ne.mpr c17; have c17b1 : ((bt a0 qa) != 63) = true := bne_iff_ne.mpr c17; have H' := Aside0.mk H; clear H; have p10 : 0 ≤ (qa : Int) := of_decide_eq_true (by first | (with_reducible assumption) | assumption); have q10 : qa < (a0.size : Int) := of_decide_eq_true (by first | (with_reducible assumption) | assumption); have hx10 := bt_at a0 qa; replace p10 := eq_true p10; replace q10 := eq_true q10
               go_wp2
               go_roundg k2
               case measure => have := HJ2.out; have := HK2.out; omega
               case rel => exact ⟨(wrap64 (qa + 1)), (by first | rfl | (simp; done) | (simp [*]; done)), H', ⟨by have := HJ2.out; have := HK2.out; omega⟩, by repeat (first | exact Drawn0.refl _ | apply Drawn0.step)⟩
       ·rw [if_neg c9] at H
        exact absurd H (by simp)
      ·rw [if_neg c8] at H
       have c8b0 : decide (qa < (a0.size : Int)) = false := decide_eq_false c8; clear c8; obtain rfl := Option.some.inj H
       go_wp2
       go_ret
       exact ⟨by first | rfl | (simp; done) | (simp [*]; done), by repeat (first | exact Drawn0.refl _ | apply Drawn0.step)⟩

end Go.Proofs.YtkdghhkpmkfjhaaDoor.P


namespace Go.Proofs.YtkdghhkpmkfjhaaDoor.P
open Go.RowKit Go.Proofs.YtkdghhkpmkfjhaaDoorW.PrintWords Go.Proofs.YtkdghhkpmkfjhaaDoorW.PrintLast Go.Proofs.YtkdghhkpmkfjhaaDoorW.PrintMore
attribute [local go_sem] max2_int min2_int max_two min_two max_three min_three max_four min_four
set_option linter.unusedVariables false
set_option linter.unusedSimpArgs false

/-! ### stringslite_HasPrefix: function 93 -/
def stringslite_HasPrefix.f (a0 : ByteArray) (a1 : ByteArray) : Option (Bool) := if (a0.size : Int) ≥ (a1.size : Int) then (if 0 ≤ (a1.size : Int) then (if (a1.size : Int) ≤ (a0.size : Int) then (some ((a0.extract 0 ((a1.size : Int) : Int).toNat).toList == a1.toList)) else (none)) else (none)) else (some false)
set_option maxHeartbeats 8000000 in
set_option maxRecDepth 100000 in
theorem stringslite_HasPrefix.calls (a0 : ByteArray) (a1 : ByteArray) (r : Bool) (w : World) (h : stringslite_HasPrefix.f a0 a1 = some r) :
  Calls Tryd.prog 93 #[.string a0, .string a1] w fun e w' => e = .returned (.bool r) ∧ Drawn0 w w' := by
 have H : (if (a0.size : Int) ≥ (a1.size : Int) then (if 0 ≤ (a1.size : Int) then (if (a1.size : Int) ≤ (a0.size : Int) then (some ((a0.extract 0 ((a1.size : Int) : Int).toNat).toList == a1.toList)) else (none)) else (none)) else (some false)) = some r := h; clear h
 by_cases c3 : (a0.size : Int) ≥ (a1.size : Int)
 ·rw [if_pos c3] at H
  have c3b0 : decide ((a1.size : Int) ≤ (a0.size : Int)) = true := decide_eq_true c3; have c3b1 : decide (a1.size ≤ a0.size) = true := decide_eq_true (Int.ofNat_le.mp c3); clear c3
  by_cases c4 : 0 ≤ (a1.size : Int)
  ·rw [if_pos c4] at H
   have c4b0 := eq_true c4; have c4b1 : decide (0 ≤ (a1.size : Int)) = true := decide_eq_true c4; clear c4
   by_cases c5 : (a1.size : Int) ≤ (a0.size : Int)
   ·rw [if_pos c5] at H
    have c5b0 := eq_true c5; have c5b1 : decide ((a1.size : Int) ≤ (a0.size : Int)) = true := decide_eq_true c5; clear c5; obtain rfl := Option.some.inj H
    go_enter Tryd.func93, Tryd.ntmps93
    go_wp2
    go_ret
    exact ⟨by first | rfl | (simp; done) | (simp [*]; done), by repeat (first | exact Drawn0.refl _ | apply Drawn0.step)⟩
   ·rw [if_neg c5] at H
    exact absurd H (by simp)
  ·rw [if_neg c4] at H
   exact absurd H (by simp)
 ·rw [if_neg c3] at H
  have c3b0 : decide ((a1.size : Int) ≤ (a0.size : Int)) = false := decide_eq_false c3; have c3b1 : decide (a1.size ≤ a0.size) = false := decide_eq_false (fun h => c3 (Int.ofNat_le.mpr h)); clear c3; obtain rfl := Option.some.inj H
  go_enter Tryd.func93, Tryd.ntmps93
  go_wp2
  go_ret
  exact ⟨by first | rfl | (simp; done) | (simp [*]; done), by repeat (first | exact Drawn0.refl _ | apply Drawn0.step)⟩

end Go.Proofs.YtkdghhkpmkfjhaaDoor.P


namespace Go.Proofs.YtkdghhkpmkfjhaaDoor.P
open Go.RowKit Go.Proofs.YtkdghhkpmkfjhaaDoorW.PrintWords Go.Proofs.YtkdghhkpmkfjhaaDoorW.PrintLast Go.Proofs.YtkdghhkpmkfjhaaDoorW.PrintMore
attribute [local go_sem] max2_int min2_int max_two min_two max_three min_three max_four min_four
set_option linter.unusedVariables false
set_option linter.unusedSimpArgs false

/-! ### strings_HasPrefix: function 75 -/
def strings_HasPrefix.f (a0 : ByteArray) (a1 : ByteArray) : Option (Bool) := (stringslite_HasPrefix.f a0 a1).bind fun t157 => (some t157)
set_option maxHeartbeats 8000000 in
set_option maxRecDepth 100000 in
theorem strings_HasPrefix.calls (a0 : ByteArray) (a1 : ByteArray) (r : Bool) (w : World) (h : strings_HasPrefix.f a0 a1 = some r) :
  Calls Tryd.prog 75 #[.string a0, .string a1] w fun e w' => e = .returned (.bool r) ∧ Drawn0 w w' := by
 have H : ((stringslite_HasPrefix.f a0 a1).bind fun t157 => (some t157)) = some r := h; clear h; replace H := Option.bind_eq_some_iff.mp H; obtain ⟨t157, A30, H⟩ := H; replace H : (some t157) = some r := H; have A3 := Aside0.mk A30; clear A30; obtain rfl := Option.some.inj H
 go_enter Tryd.func75, Tryd.ntmps75
 go_wp2_with (first | ((with_reducible refine gate_callee (f := 93) rfl ?_); refine goesL_ (some 7) rfl rfl Tryd.func93 (by kernel_rfl) rfl #[.string a0, .string a1] rfl (by (try simp only [List.map_toArray, List.map_cons, List.map_nil]); first | done | rfl | (simp only [List.length_drop, List.length_take]; rfl)) ?_; (with_reducible refine (stringslite_HasPrefix.calls a0 a1 t157 _ A3.out).mono ?_); rintro e w' ⟨rfl, ⟨nd, rfl⟩⟩; refine ⟨_, rfl, ?_⟩))
 go_ret
 exact ⟨by first | rfl | (simp; done) | (simp [*]; done), by repeat (first | exact Drawn0.refl _ | apply Drawn0.step)⟩

end Go.Proofs.YtkdghhkpmkfjhaaDoor.P


namespace Go.Proofs.YtkdghhkpmkfjhaaDoor.P
open Go.RowKit Go.Proofs.YtkdghhkpmkfjhaaDoorW.PrintWords Go.Proofs.YtkdghhkpmkfjhaaDoorW.PrintLast Go.Proofs.YtkdghhkpmkfjhaaDoorW.PrintMore
attribute [local go_sem] max2_int min2_int max_two min_two max_three min_three max_four min_four
set_option linter.unusedVariables false
set_option linter.unusedSimpArgs false

/-! ### impl_over: function 52 -/
def impl_over.f (a0 : ByteArray) (a1 : ByteArray) : Option (Bool) := if a0.size + 1 ≤ 9223372036854775807 then ((strings_HasPrefix.f a1 (a0 ++ (⟨#[47]⟩ : ByteArray))).bind fun t158 => (some t158)) else (none)
set_option maxHeartbeats 8000000 in
set_option maxRecDepth 100000 in
theorem impl_over.calls (a0 : ByteArray) (a1 : ByteArray) (r : Bool) (w : World) (h : impl_over.f a0 a1 = some r) :
  Calls Tryd.prog 52 #[.string a0, .string a1] w fun e w' => e = .returned (.bool r) ∧ Drawn0 w w' := by
 have H : (if a0.size + 1 ≤ 9223372036854775807 then ((strings_HasPrefix.f a1 (a0 ++ (⟨#[47]⟩ : ByteArray))).bind fun t158 => (some t158)) else (none)) = some r := h; clear h
 by_cases c3 : a0.size + 1 ≤ 9223372036854775807
 ·rw [if_pos c3] at H
  have c3b0 := eq_true c3; have c3b1 : decide (a0.size + 1 ≤ 9223372036854775807) = true := decide_eq_true c3
  try have c3b2 : (9223372036854775807 < a0.size + 1) = False := eq_false (Nat.not_lt.2 c3)
  replace H := Option.bind_eq_some_iff.mp H; obtain ⟨t158, A40, H⟩ := H; replace H : (some t158) = some r := H; have A4 := Aside0.mk A40; clear A40; obtain rfl := Option.some.inj H
  go_enter Tryd.func52, Tryd.ntmps52
  go_wp2_with (first | ((with_reducible refine gate_callee (f := 75) rfl ?_); refine goesL_ (some 8) rfl rfl Tryd.func75 (by kernel_rfl) rfl #[.string a1, .string (a0 ++ (⟨#[47]⟩ : ByteArray))] rfl (by (try simp only [List.map_toArray, List.map_cons, List.map_nil]); first | done | rfl | (simp only [List.length_drop, List.length_take]; rfl)) ?_; (with_reducible refine (strings_HasPrefix.calls a1 (a0 ++ (⟨#[47]⟩ : ByteArray)) t158 _ A4.out).mono ?_); rintro e w' ⟨rfl, ⟨nd, rfl⟩⟩; refine ⟨_, rfl, ?_⟩))
  go_ret
  exact ⟨by first | rfl | (simp; done) | (simp [*]; done), by repeat (first | exact Drawn0.refl _ | apply Drawn0.step)⟩
 ·rw [if_neg c3] at H
  exact absurd H (by simp)

end Go.Proofs.YtkdghhkpmkfjhaaDoor.P


namespace Go.Proofs.YtkdghhkpmkfjhaaDoor.P
open Go.RowKit Go.Proofs.YtkdghhkpmkfjhaaDoorW.PrintWords Go.Proofs.YtkdghhkpmkfjhaaDoorW.PrintLast Go.Proofs.YtkdghhkpmkfjhaaDoorW.PrintMore
attribute [local go_sem] max2_int min2_int max_two min_two max_three min_three max_four min_four
set_option linter.unusedVariables false
set_option linter.unusedSimpArgs false

abbrev tm35 := true
abbrev fm35 := false
abbrev bm35_0 : Array Bool := #[fm35, fm35, fm35, fm35, fm35, fm35, fm35, fm35, fm35, fm35, fm35, fm35, fm35, fm35, fm35, fm35, fm35, fm35, fm35, fm35, fm35, fm35, fm35, fm35]
abbrev bm35_1 : Array Bool := #[tm35, fm35, fm35, fm35, fm35, fm35, fm35, fm35, fm35, fm35, fm35, fm35, fm35, fm35, fm35, fm35, fm35, fm35, fm35, fm35, fm35, fm35, fm35, fm35]
abbrev bm35_2 : Array Bool := #[tm35, tm35, fm35, fm35, fm35, fm35, fm35, fm35, fm35, fm35, fm35, fm35, fm35, fm35, fm35, fm35, fm35, fm35, fm35, fm35, fm35, fm35, fm35, fm35]
abbrev bm35_3 : Array Bool := #[tm35, tm35, tm35, fm35, fm35, fm35, fm35, fm35, fm35, fm35, fm35, fm35, fm35, fm35, fm35, fm35, fm35, fm35, fm35, fm35, fm35, fm35, fm35, fm35]
abbrev bm35_4 : Array Bool := #[tm35, tm35, tm35, tm35, fm35, fm35, fm35, fm35, fm35, fm35, fm35, fm35, fm35, fm35, fm35, fm35, fm35, fm35, fm35, fm35, fm35, fm35, fm35, fm35]
abbrev bm35_5 : Array Bool := #[tm35, tm35, tm35, tm35, tm35, fm35, fm35, fm35, fm35, fm35, fm35, fm35, fm35, fm35, fm35, fm35, fm35, fm35, fm35, fm35, fm35, fm35, fm35, fm35]
abbrev bm35_6 : Array Bool := #[tm35, tm35, tm35, tm35, tm35, tm35, fm35, fm35, fm35, fm35, fm35, fm35, fm35, fm35, fm35, fm35, fm35, fm35, fm35, fm35, fm35, fm35, fm35, fm35]
abbrev bm35_7 : Array Bool := #[tm35, tm35, tm35, tm35, tm35, tm35, tm35, fm35, fm35, fm35, fm35, fm35, fm35, fm35, fm35, fm35, fm35, fm35, fm35, fm35, fm35, fm35, fm35, fm35]
abbrev bm35_8 : Array Bool := #[tm35, tm35, tm35, tm35, tm35, tm35, tm35, tm35, fm35, fm35, fm35, fm35, fm35, fm35, fm35, fm35, fm35, fm35, fm35, fm35, fm35, fm35, fm35, fm35]
abbrev bm35_9 : Array Bool := #[tm35, tm35, tm35, tm35, tm35, tm35, tm35, tm35, tm35, fm35, fm35, fm35, fm35, fm35, fm35, fm35, fm35, fm35, fm35, fm35, fm35, fm35, fm35, fm35]
abbrev bm35_10 : Array Bool := #[tm35, tm35, tm35, tm35, tm35, tm35, tm35, tm35, tm35, tm35, fm35, fm35, fm35, fm35, fm35, fm35, fm35, fm35, fm35, fm35, fm35, fm35, fm35, fm35]
abbrev bm35_11 : Array Bool := #[tm35, tm35, tm35, tm35, tm35, tm35, tm35, tm35, tm35, tm35, tm35, fm35, fm35, fm35, fm35, fm35, fm35, fm35, fm35, fm35, fm35, fm35, fm35, fm35]
abbrev bm35_12 : Array Bool := #[tm35, tm35, tm35, tm35, tm35, tm35, tm35, tm35, tm35, tm35, tm35, tm35, fm35, fm35, fm35, fm35, fm35, fm35, fm35, fm35, fm35, fm35, fm35, fm35]
abbrev bm35_13 : Array Bool := #[tm35, tm35, tm35, tm35, tm35, tm35, tm35, tm35, tm35, tm35, tm35, tm35, tm35, fm35, fm35, fm35, fm35, fm35, fm35, fm35, fm35, fm35, fm35, fm35]
abbrev bm35_14 : Array Bool := #[tm35, tm35, tm35, tm35, tm35, tm35, tm35, tm35, tm35, tm35, tm35, tm35, tm35, tm35, fm35, fm35, fm35, fm35, fm35, fm35, fm35, fm35, fm35, fm35]
abbrev bm35_15 : Array Bool := #[tm35, tm35, tm35, tm35, tm35, tm35, tm35, tm35, tm35, tm35, tm35, tm35, tm35, tm35, tm35, fm35, fm35, fm35, fm35, fm35, fm35, fm35, fm35, fm35]
abbrev bm35_16 : Array Bool := #[tm35, tm35, tm35, tm35, tm35, tm35, tm35, tm35, tm35, tm35, tm35, tm35, tm35, tm35, tm35, tm35, fm35, fm35, fm35, fm35, fm35, fm35, fm35, fm35]
abbrev bm35_17 : Array Bool := #[tm35, tm35, tm35, tm35, tm35, tm35, tm35, tm35, tm35, tm35, tm35, tm35, tm35, tm35, tm35, tm35, tm35, fm35, fm35, fm35, fm35, fm35, fm35, fm35]
abbrev bm35_18 : Array Bool := #[tm35, tm35, tm35, tm35, tm35, tm35, tm35, tm35, tm35, tm35, tm35, tm35, tm35, tm35, tm35, tm35, tm35, tm35, fm35, fm35, fm35, fm35, fm35, fm35]
abbrev bm35_19 : Array Bool := #[tm35, tm35, tm35, tm35, tm35, tm35, tm35, tm35, tm35, tm35, tm35, tm35, tm35, tm35, tm35, tm35, tm35, tm35, tm35, fm35, fm35, fm35, fm35, fm35]
abbrev bm35_20 : Array Bool := #[tm35, tm35, tm35, tm35, tm35, tm35, tm35, tm35, tm35, tm35, tm35, tm35, tm35, tm35, tm35, tm35, tm35, tm35, tm35, tm35, fm35, fm35, fm35, fm35]
abbrev bm35_21 : Array Bool := #[tm35, tm35, tm35, tm35, tm35, tm35, tm35, tm35, tm35, tm35, tm35, tm35, tm35, tm35, tm35, tm35, tm35, tm35, tm35, tm35, tm35, fm35, fm35, fm35]
abbrev bm35_22 : Array Bool := #[tm35, tm35, tm35, tm35, tm35, tm35, tm35, tm35, tm35, tm35, tm35, tm35, tm35, tm35, tm35, tm35, tm35, tm35, tm35, tm35, tm35, tm35, fm35, fm35]
abbrev bm35_23 : Array Bool := #[tm35, tm35, tm35, tm35, tm35, tm35, tm35, tm35, tm35, tm35, tm35, tm35, tm35, tm35, tm35, tm35, tm35, tm35, tm35, tm35, tm35, tm35, tm35, fm35]
abbrev bm35_24 : Array Bool := #[tm35, tm35, tm35, tm35, tm35, tm35, tm35, tm35, tm35, tm35, tm35, tm35, tm35, tm35, tm35, tm35, tm35, tm35, tm35, tm35, tm35, tm35, tm35, tm35]
abbrev bm35_25 : Array Bool := #[tm35, tm35, tm35, tm35, tm35, tm35, tm35, tm35, tm35, tm35, tm35, tm35, tm35, tm35, tm35, fm35, tm35, fm35, fm35, fm35, fm35, fm35, fm35, fm35]
abbrev bm35_26 : Array Bool := #[tm35, tm35, tm35, tm35, tm35, tm35, tm35, tm35, tm35, tm35, tm35, tm35, tm35, tm35, tm35, fm35, tm35, tm35, fm35, fm35, fm35, fm35, fm35, fm35]
theorem um35 : (∀ (a : Act) (d : Tmp) (v : Value), Act.put a (some d) v = { a with tmps := a.tmps.setIfInBounds d v }) ∧ (∀ (l : List Value) (i : Nat) (a : Value), l.toArray.setIfInBounds i a = (l.set i a).toArray) ∧ (∀ (x : Value) (l : List Value) (a : Value), (x :: l).set 0 a = a :: l) ∧ (∀ (x : Value) (l : List Value) (i : Nat) (a : Value), (x :: l).set (i + 1) a = x :: l.set i a) ∧ (∀ n : Int, IntKind.i64.wrap n = wrap64 n) := ⟨fun _ _ _ => rfl, fun l i a => List.setIfInBounds_toArray l i a, fun _ _ _ => rfl, fun _ _ _ _ => rfl, i64_w⟩
/-! ### impl_partMatch: function 100 -/
mutual
def impl_partMatch.l0 : Nat → ByteArray → ByteArray → List Bool → Int → Option (Bool)
 | 0, _, _, _, _ => none
 | k + 1, x0, x1, x5, x6 => if x6 < (x0.size : Int) then (if 0 ≤ (wrap64 ((x1.size : Int) + 1)) then (if (wrap64 ((x1.size : Int) + 1) : Int).toNat ≤ 281474976710656 then ((some (List.replicate (wrap64 ((x1.size : Int) + 1) : Int).toNat false : List Bool)).bind fun y729 => (if 0 ≤ x6 then (if (bt x0 x6) = 42 then (impl_partMatch.l1 k x0 x1 x5 x6 y729 false (x5.length : Int) 0) else (impl_partMatch.l2 k x0 x1 x5 x6 y729 0)) else (none))) else (none)) else (none)) else (if 0 ≤ (x1.size : Int) then (if (x1.size : Int) < (x5.length : Int) then (some (rdOf false x5 (x1.size : Int))) else (none)) else (none))
def impl_partMatch.l1 : Nat → ByteArray → ByteArray → List Bool → Int → List Bool → Bool → Int → Int → Option (Bool)
 | 0, _, _, _, _, _, _, _, _ => none
 | k + 1, x0, x1, x5, x6, x7, x8, x32, x33 => if x33 < x32 then (if x8 = true then (if 0 ≤ x33 then (if x33 < (x7.length : Int) then (impl_partMatch.l1 k x0 x1 x5 x6 (x7.set (x33 : Int).toNat true) true x32 (wrap64 (x33 + 1))) else (none)) else (none)) else (if 0 ≤ x33 then (if x33 < (x5.length : Int) then (if x33 < (x7.length : Int) then (impl_partMatch.l1 k x0 x1 x5 x6 (x7.set (x33 : Int).toNat (rdOf false x5 x33)) (rdOf false x5 x33) x32 (wrap64 (x33 + 1))) else (none)) else (none)) else (none))) else (impl_partMatch.l0 k x0 x1 x7 (wrap64 (x6 + 1)))
def impl_partMatch.l2 : Nat → ByteArray → ByteArray → List Bool → Int → List Bool → Int → Option (Bool)
 | 0, _, _, _, _, _, _ => none
 | k + 1, x0, x1, x5, x6, x7, x10 => if x10 < (x1.size : Int) then (if 0 ≤ x10 then (if x10 < (x5.length : Int) then (if rdOf false x5 x10 = true then (if 0 ≤ x6 then (if x6 < (x0.size : Int) then (if (bt x0 x6) = 63 then (if 0 ≤ (wrap64 (x10 + 1)) then (if (wrap64 (x10 + 1)) < (x7.length : Int) then (impl_partMatch.l2 k x0 x1 x5 x6 (x7.set ((wrap64 (x10 + 1)) : Int).toNat true) (wrap64 (x10 + 1))) else (none)) else (none)) else (if 0 ≤ (wrap64 (x10 + 1)) then (if (wrap64 (x10 + 1)) < (x7.length : Int) then (impl_partMatch.l2 k x0 x1 x5 x6 (x7.set ((wrap64 (x10 + 1)) : Int).toNat ((bt x0 x6) == (bt x1 x10))) (wrap64 (x10 + 1))) else (none)) else (none))) else (none)) else (none)) else (if 0 ≤ (wrap64 (x10 + 1)) then (if (wrap64 (x10 + 1)) < (x7.length : Int) then (impl_partMatch.l2 k x0 x1 x5 x6 (x7.set ((wrap64 (x10 + 1)) : Int).toNat false) (wrap64 (x10 + 1))) else (none)) else (none))) else (none)) else (none)) else (impl_partMatch.l0 k x0 x1 x7 (wrap64 (x6 + 1)))
end
def impl_partMatch.f (k : Nat) (a0 : ByteArray) (a1 : ByteArray) : Option (Bool) := if 0 ≤ (wrap64 ((a1.size : Int) + 1)) then (if (wrap64 ((a1.size : Int) + 1) : Int).toNat ≤ 281474976710656 then ((some (List.replicate (wrap64 ((a1.size : Int) + 1) : Int).toNat false : List Bool)).bind fun y724 => (if 0 < (y724.length : Int) then (impl_partMatch.l0 k a0 a1 (y724.set (0 : Int).toNat true) 0) else (none))) else (none)) else (none)
theorem impl_partMatch.mono_l : ∀ k, (∀ y0 y1 y2 y3, LeO (impl_partMatch.l0 k y0 y1 y2 y3) (impl_partMatch.l0 (k + 1) y0 y1 y2 y3)) ∧ (∀ y0 y1 y2 y3 y4 y5 y6 y7, LeO (impl_partMatch.l1 k y0 y1 y2 y3 y4 y5 y6 y7) (impl_partMatch.l1 (k + 1) y0 y1 y2 y3 y4 y5 y6 y7)) ∧ (∀ y0 y1 y2 y3 y4 y5, LeO (impl_partMatch.l2 k y0 y1 y2 y3 y4 y5) (impl_partMatch.l2 (k + 1) y0 y1 y2 y3 y4 y5))
 | 0 => ⟨fun _ _ _ _ r h => by simp [impl_partMatch.l0] at h, fun _ _ _ _ _ _ _ _ r h => by simp [impl_partMatch.l1] at h, fun _ _ _ _ _ _ r h => by simp [impl_partMatch.l2] at h⟩
 | k + 1 => by
  obtain ⟨ih0, ih1, ih2⟩ := impl_partMatch.mono_l k; refine ⟨?_, ?_, ?_⟩
  ·intro y0 y1 y2 y3
   unfold impl_partMatch.l0
   repeat' first
   | (with_reducible exact ih0 _ _ _ _)
   | (with_reducible exact ih1 _ _ _ _ _ _ _ _)
   | (with_reducible exact ih2 _ _ _ _ _ _)
   | (with_reducible exact LeO.refl _)
   | (with_reducible exact LeO.none _)
   | (with_reducible refine LeO.ite ?_ ?_)
   | (with_reducible refine LeO.bind ?_ (fun _ => ?_))
   | exact ih0 _ _ _ _
   | exact ih1 _ _ _ _ _ _ _ _
   | exact ih2 _ _ _ _ _ _
   | exact LeO.none _
   | refine LeO.ite ?_ ?_
   | refine LeO.bind ?_ (fun _ => ?_)
  ·intro y0 y1 y2 y3 y4 y5 y6 y7
   unfold impl_partMatch.l1
   repeat' first
   | (with_reducible exact ih0 _ _ _ _)
   | (with_reducible exact ih1 _ _ _ _ _ _ _ _)
   | (with_reducible exact ih2 _ _ _ _ _ _)
   | (with_reducible exact LeO.refl _)
   | (with_reducible exact LeO.none _)
   | (with_reducible refine LeO.ite ?_ ?_)
   | (with_reducible refine LeO.bind ?_ (fun _ => ?_))
   | exact ih0 _ _ _ _
   | exact ih1 _ _ _ _ _ _ _ _
   | exact ih2 _ _ _ _ _ _
   | exact LeO.none _
   | refine LeO.ite ?_ ?_
   | refine LeO.bind ?_ (fun _ => ?_)
  ·intro y0 y1 y2 y3 y4 y5
   unfold impl_partMatch.l2
   repeat' first
   | (with_reducible exact ih0 _ _ _ _)
   | (with_reducible exact ih1 _ _ _ _ _ _ _ _)
   | (with_reducible exact ih2 _ _ _ _ _ _)
   | (with_reducible exact LeO.refl _)
   | (with_reducible exact LeO.none _)
   | (with_reducible refine LeO.ite ?_ ?_)
   | (with_reducible refine LeO.bind ?_ (fun _ => ?_))
   | exact ih0 _ _ _ _
   | exact ih1 _ _ _ _ _ _ _ _
   | exact ih2 _ _ _ _ _ _
   | exact LeO.none _
   | refine LeO.ite ?_ ?_
   | refine LeO.bind ?_ (fun _ => ?_)
theorem impl_partMatch.mono : ∀ a0 a1 k, LeO (impl_partMatch.f k a0 a1) (impl_partMatch.f (k + 1) a0 a1) := by
 intro a0 a1 k; obtain ⟨ih0, ih1, ih2⟩ := impl_partMatch.mono_l k
 unfold impl_partMatch.f
 repeat' first
   | (with_reducible exact ih0 _ _ _ _)
   | (with_reducible exact ih1 _ _ _ _ _ _ _ _)
   | (with_reducible exact ih2 _ _ _ _ _ _)
   | (with_reducible exact LeO.refl _)
   | (with_reducible exact LeO.none _)
   | (with_reducible refine LeO.ite ?_ ?_)
   | (with_reducible refine LeO.bind ?_ (fun _ => ?_))
   | exact ih0 _ _ _ _
   | exact ih1 _ _ _ _ _ _ _ _
   | exact ih2 _ _ _ _ _ _
   | exact LeO.none _
   | refine LeO.ite ?_ ?_
   | refine LeO.bind ?_ (fun _ => ?_)
def impl_partMatch.T18 : Bool × List (List Nat × List Nat) := (true, [([], []), ([], []), ([1], [1]), ([], []), ([], []), ([3, 4], [3, 4]), ([5], [5]), ([6], [6]), ([7], [7]), ([7], [7]), ([8, 9, 7], [7, 8, 9]), ([10, 7], [7, 10]), ([11, 7, 7], [7, 11]), ([12], [12]), ([12], [12]), ([13, 14, 12], [12, 13, 14]), ([12], [12]), ([12], [12]), ([16, 17, 12], [12, 16, 17]), ([15, 18, 12], [12, 15, 18]), ([12, 19, 7], [7, 12, 19]), ([7, 20], [7, 20]), ([0, 2, 0, 1, 2, 3, 4, 5, 6, 7, 8, 9, 10, 11, 12, 13, 14, 15, 16, 17, 18, 19, 20, 21], [0, 2]), ([22, 21, 12, 0, 1, 2, 3, 4, 5, 6, 7, 8, 9, 10, 11, 12, 13, 14, 15, 16, 17, 18, 19, 20, 21], [21, 22])])
def impl_partMatch.B18 : List Nat := [0, 0, 2, 0, 0, 24, 56, 120, 248, 248, 1016, 2040, 4088, 8184, 8184, 32760, 8184, 8184, 204792, 524280, 1048568, 2097144, 4194303, 8388607]
theorem impl_partMatch.tab18 : rtab .any (opsOf Tryd.f100 18) = impl_partMatch.T18 := by kernel_rfl
theorem impl_partMatch.bits18 : waitsOk impl_partMatch.T18.2 impl_partMatch.B18 = true := by kernel_rfl
set_option maxHeartbeats 8000000 in
set_option maxRecDepth 100000 in
theorem impl_partMatch.calls (k : Nat) (a0 : ByteArray) (a1 : ByteArray) (r : Bool) (w : World) (h : impl_partMatch.f k a0 a1 = some r) :
  Calls Tryd.prog 100 #[.string a0, .string a1] w fun e w' => e = .returned (.bool r) ∧ Below w.heap.size w w' := by
 have HB := Aside0.mk (Below.refl w.heap.size w); have H : (if 0 ≤ (wrap64 ((a1.size : Int) + 1)) then (if (wrap64 ((a1.size : Int) + 1) : Int).toNat ≤ 281474976710656 then ((some (List.replicate (wrap64 ((a1.size : Int) + 1) : Int).toNat false : List Bool)).bind fun y724 => (if 0 < (y724.length : Int) then (impl_partMatch.l0 k a0 a1 (y724.set (0 : Int).toNat true) 0) else (none))) else (none)) else (none)) = some r := h; clear h
 obtain ⟨ji3, hji3⟩ : ∃ j_ : Int, (wrap64 ((a1.size : Int) + 1)) = j_ := ⟨_, rfl⟩
 replace H : (if 0 ≤ (ji3) then (if (ji3 : Int).toNat ≤ 281474976710656 then ((some (List.replicate (ji3 : Int).toNat false : List Bool)).bind fun y724 => (if 0 < (y724.length : Int) then (impl_partMatch.l0 k a0 a1 (y724.set (0 : Int).toNat true) 0) else (none))) else (none)) else (none)) = some r := by first | (rw [hji3] at H; exact H) | (simp only [hji3] at H ⊢; exact H)
 have hji3w : (IntKind.i64.wrap ((a1.size : Int) + 1)) = ji3 := (i64_w _).trans hji3
 by_cases c4 : 0 ≤ (ji3)
 ·rw [if_pos c4] at H
  have c4b0 := eq_true c4; have c4b1 : decide (0 ≤ (ji3)) = true := decide_eq_true c4; clear c4
  by_cases c5 : (ji3 : Int).toNat ≤ 281474976710656
  ·rw [if_pos c5] at H
   have c5b0 := eq_true c5; have c5b1 : decide ((ji3 : Int).toNat ≤ 281474976710656) = true := decide_eq_true c5; clear c5
   obtain ⟨y724, hy724⟩ : ∃ y_ : List Bool, y_ = (List.replicate (ji3 : Int).toNat false) := ⟨_, rfl⟩
   replace H : (if 0 < (y724.length : Int) then (impl_partMatch.l0 k a0 a1 (y724.set (0 : Int).toNat true) 0) else (none)) = some r := by first | (rw [hy724]; with_reducible exact H) | (have H2_ := (Option.bind_some _ _).symm.trans H; rw [hy724]; with_reducible exact H2_) | (have H2_ := (Option.bind_some _ _).symm.trans H; with_reducible exact H2_) | with_reducible exact H | (rw [hy724]; exact H) | exact H
   have Ny724 := Aside0.mk hy724; clear hy724
   by_cases c6 : 0 < (y724.length : Int)
   ·rw [if_pos c6] at H
    have c6b0 : decide (0 < (y724.length : Int)) = true := decide_eq_true c6; have c6b1 : decide (0 < y724.length) = true := decide_eq_true (by omega); clear c6
    obtain ⟨y727, hy727⟩ : ∃ y_ : List Bool, y_ = (y724.set (0 : Int).toNat true) := ⟨_, rfl⟩
    replace H : (impl_partMatch.l0 k a0 a1 y727 0) = some r := by first | (rw [hy727]; with_reducible exact H) | (have H2_ := (Option.bind_some _ _).symm.trans H; rw [hy727]; with_reducible exact H2_) | (have H2_ := (Option.bind_some _ _).symm.trans H; with_reducible exact H2_) | with_reducible exact H | (rw [hy727]; exact H) | exact H
    have Ny727 := Aside0.mk hy727; clear hy727; have H' := Aside0.mk H; clear H
    go_enter Tryd.func100, Tryd.ntmps100
    go_wp2_with (first | ((with_reducible refine gate_dst (N := 14) rfl ?_); refine Kd.R_make Kd.bool _ 4 rfl (N := 14) rfl 127 _ _ rfl ji3 rfl rfl Tryd.underlying127 (.bool false) 1 info4 rfl (by decide) (by omega) false (ok := fun _ => True) (okp := fun _ => True) rfl (fun _ hk => hk) trivial (of_decide_eq_true (by first | (with_reducible assumption) | assumption)) (Nat.le_trans (Nat.mul_le_mul_right _ (of_decide_eq_true (by first | (with_reducible assumption) | assumption) : ji3.toNat ≤ 281474976710656)) (by omega)) (Below.refl _ _) (Nat.le_refl _) ?_; intro v725 w8 ho9 hb hg_ hnew_; clear hg_ hnew_; (first | rw [← Ny724.out] at ho9 | (simp only [Int.reduceToNat] at ho9; rw [← Ny724.out] at ho9)); have n0_ := Aside0.mk (Kd.R_lower ho9 (below_size (by repeat (first | (with_reducible first | exact HB.out | apply below_alloc | apply pw_below_drewN | apply below_drew1) | exact HB.out)))); have n1_ := Aside0.mk (below_step (by repeat (first | (with_reducible first | exact HB.out | apply below_alloc | apply pw_below_drewN | apply below_drew1) | exact HB.out)) hb); clear HB; have HO726 := n0_; have HB := n1_; clear n0_ n1_; clear hb ho9; have p7 : 0 ≤ (0 : Int) := (by omega); have q7 : (0 : Int) < ((y724.length : Int) : Int) := of_decide_eq_true (by first | (with_reducible assumption) | assumption); have qi7 : (0 < y724.length) = True := eq_true (by omega); obtain ⟨go7, co7, eo7, gb7, gl7, cl7, HG7⟩ := Kd.R_form HO726.out (by omega); (first | cases eo7 | (injection eo7 with ea_ en_ ec_; (first | subst ea_ | (injection ea_ with ea_; subst ea_)); subst ec_; clear en_)); have GB7 := Aside0.mk gb7; have GG7 := Aside0.mk HG7; clear gb7 gl7 HG7; obtain ⟨hx7_0, hf7_0⟩ := Kd.R_celln false HO726.out (0 : Int) p7 q7; (try rw [show ((0 : Int)).toNat = 0 from rfl] at hx7_0); (try simp only [Nat.reduceMul, Nat.zero_mul, Nat.zero_add, Nat.reduceAdd] at hx7_0); (try rw [show ((0 : Int)).toNat = 0 from rfl] at hf7_0); (try simp only [Nat.reduceMul, Nat.zero_mul, Nat.zero_add, Nat.reduceAdd] at hf7_0); replace p7 := eq_true p7; replace q7 := eq_true q7; obtain ⟨hy10_, hz10_⟩ := Kd.R_celln false HO726.out (0 : Int) (by omega) (of_decide_eq_true (by first | (with_reducible assumption) | assumption)); (try simp only [Int.reduceToNat, Int.toNat_zero, Int.toNat_ofNat, Nat.reduceMul, Nat.zero_mul, Nat.zero_add] at hy10_ hz10_); (try rw [show ((0 : Int)).toNat = 0 from rfl] at hy10_); (try rw [show ((0 : Int)).toNat = 0 from rfl] at hz10_); have HP10 := Kd.R_putg HO726.out (0 : Int) true) | ((with_reducible refine gate_store (t := 4) (p := 16) rfl ?_); refine store_event (t := 4) (p := 16) (v := ?vo_w11) (w1 := (w8.setCell ⟨go7, (0 : Int).toNat, none⟩ (.bool true))) ?hg ?ho ?hn ?hr ?_; (case ho => rfl); (case hg => rfl); (case hn => rfl); (case hr => first | (go_simp; done) | (go_simp; rfl)); intro w11 hw; have hg : w8.grownBy w11 (some go7) := (by rw [hw]; exact HP10.2); have hp_ : Kd.R Kd.bool 4 w11 w.heap.size (fun _ => True) (.slice (some ⟨go7, 0, none⟩) y724.length co7) y727 := (by rw [hw, Ny727.out]; exact HP10.1); clear HP10; have n0_ := Aside0.mk (hp_); have n1_ := Aside0.mk ((by rw [hw]; exact below_set (HB.out) GB7.out : Below w.heap.size w w11)); clear HO726; clear HB; have HO726 := n0_; have HB := n1_; clear n0_ n1_; clear hg hw hp_))
    go_loopg [5, 6] k (fun kq v5 v6 w' => ∃ (qb : List Bool) (qa : Int), v6 = .int .i64 qa ∧ Aside0 (impl_partMatch.l0 kq a0 a1 qb qa = some r) ∧ Aside0 (kq ≤ k) ∧ Aside0 (Kd.R Kd.bool 4 w' w.heap.size (fun _ => True) v5 qb) ∧ Aside0 (Below w.heap.size w w'))
    case atStart => exact ⟨(y727), (0), (by first | rfl | (simp; done) | (simp [*]; done)), H', ⟨Nat.le_refl _⟩, ⟨by (with_reducible repeat (first | apply Kd.R_alloc | apply Kd.R_drewN | apply Kd.R_drew)); exact HO726.out⟩, ⟨by repeat (first | (with_reducible first | exact HB.out | apply below_alloc | apply pw_below_drewN | apply below_drew1) | exact HB.out)⟩⟩
    case round =>
     clear H'; (try clear c1); (try clear p2); (try clear c4); (try clear c4b0); (try clear c4b1); (try clear c5); (try clear c5b0); (try clear c5b1); (try clear c6); (try clear c6b0); (try clear c6b1); (try clear p6); (try clear p7); (try clear q7); (try clear hx7); (try clear qi7); (try clear hf7); (try clear c10); (try clear hx7_0); (try clear p7); (try clear q7); obtain ⟨qb, qa, rfl, HA, HK1, qf, HB⟩ := hrel
     cases gk with
     | zero => exact absurd HA.out (by simp [impl_partMatch.l0])
     | succ k1 =>
      have H := HA.out; clear HA; simp only [impl_partMatch.l0] at H
      by_cases c12 : qa < (a0.size : Int)
      ·rw [if_pos c12] at H
       have c12b0 : decide (qa < (a0.size : Int)) = true := decide_eq_true c12; clear c12
       obtain ⟨ji13, hji13⟩ : ∃ j_ : Int, (wrap64 ((a1.size : Int) + 1)) = j_ := ⟨_, rfl⟩
       (try clear hji3w); (try clear hji3)
       replace H : (if 0 ≤ (ji13) then (if (ji13 : Int).toNat ≤ 281474976710656 then ((some (List.replicate (ji13 : Int).toNat false : List Bool)).bind fun y729 => (if 0 ≤ qa then (if (bt a0 qa) = 42 then (impl_partMatch.l1 k1 a0 a1 qb qa y729 false (qb.length : Int) 0) else (impl_partMatch.l2 k1 a0 a1 qb qa y729 0)) else (none))) else (none)) else (none)) = some r := by first | (rw [hji13] at H; exact H) | (simp only [hji13] at H ⊢; exact H)
       have hji13w : (IntKind.i64.wrap ((a1.size : Int) + 1)) = ji13 := (i64_w _).trans hji13
       by_cases c14 : 0 ≤ (ji13)
       ·rw [if_pos c14] at H
        have c14b0 := eq_true c14; have c14b1 : decide (0 ≤ (ji13)) = true := decide_eq_true c14; clear c14
        by_cases c15 : (ji13 : Int).toNat ≤ 281474976710656
        ·rw [if_pos c15] at H
         have c15b0 := eq_true c15; have c15b1 : decide ((ji13 : Int).toNat ≤ 281474976710656) = true := decide_eq_true c15; clear c15
         obtain ⟨y729, hy729⟩ : ∃ y_ : List Bool, y_ = (List.replicate (ji13 : Int).toNat false) := ⟨_, rfl⟩
         replace H : (if 0 ≤ qa then (if (bt a0 qa) = 42 then (impl_partMatch.l1 k1 a0 a1 qb qa y729 false (qb.length : Int) 0) else (impl_partMatch.l2 k1 a0 a1 qb qa y729 0)) else (none)) = some r := by first | (rw [hy729]; with_reducible exact H) | (have H2_ := (Option.bind_some _ _).symm.trans H; rw [hy729]; with_reducible exact H2_) | (have H2_ := (Option.bind_some _ _).symm.trans H; with_reducible exact H2_) | with_reducible exact H | (rw [hy729]; exact H) | exact H
         have Ny729 := Aside0.mk hy729; clear hy729
         by_cases c16 : 0 ≤ qa
         ·rw [if_pos c16] at H
          have c16b0 : decide (0 ≤ qa) = true := decide_eq_true c16; clear c16
          by_cases c18 : (bt a0 qa) = 42
          ·rw [if_pos c18] at H
           have c18b0 : ((bt a0 qa) == 42) = true := beq_iff_eq.mpr c18; have c18b1 : ((bt a0 qa) != 42) = false := bne_eq_false_iff_eq.mpr c18; clear c18; have H' := Aside0.mk H; clear H
           go_wp2_with (first | ((with_reducible refine gate_dst (N := 26) rfl ?_); refine Kd.R_make Kd.bool _ 4 rfl (N := 26) rfl 127 _ _ rfl ji13 rfl rfl Tryd.underlying127 (.bool false) 1 info4 rfl (by decide) (by omega) false (ok := fun _ => True) (okp := fun _ => True) rfl (fun _ hk => hk) trivial (of_decide_eq_true (by first | (with_reducible assumption) | assumption)) (Nat.le_trans (Nat.mul_le_mul_right _ (of_decide_eq_true (by first | (with_reducible assumption) | assumption) : ji13.toNat ≤ 281474976710656)) (by omega)) (Below.refl _ _) (Nat.le_refl _) ?_; intro v730 w19 ho20 hb hg_ hnew_; clear hg_ hnew_; (first | rw [← Ny729.out] at ho20 | (simp only [Int.reduceToNat] at ho20; rw [← Ny729.out] at ho20)); have n0_ := Aside0.mk (Kd.R_elder' (by (with_reducible repeat (first | apply Kd.R_alloc | apply Kd.R_drewN | apply Kd.R_drew)); exact qf.out) (Kd.R_base ho20) hb); have n1_ := Aside0.mk (Kd.R_lower (Kd.R_new' ho20 (Kd.R_lt (by (with_reducible repeat (first | apply Kd.R_alloc | apply Kd.R_drewN | apply Kd.R_drew)); exact qf.out))) (below_size (by repeat (first | (with_reducible first | exact HB.out | apply below_alloc | apply pw_below_drewN | apply below_drew1) | exact HB.out)))); have n2_ := Aside0.mk (below_step (by repeat (first | (with_reducible first | exact HB.out | apply below_alloc | apply pw_below_drewN | apply below_drew1) | exact HB.out)) hb); clear qf; clear HB; have qf := n0_; have HO731 := n1_; have HB := n2_; clear n0_ n1_ n2_; clear hb ho20; have p17 : 0 ≤ (qa : Int) := of_decide_eq_true (by first | (with_reducible assumption) | assumption); have q17 : qa < (a0.size : Int) := of_decide_eq_true (by first | (with_reducible assumption) | assumption); have hx17 := bt_at a0 qa; replace p17 := eq_true p17; replace q17 := eq_true q17; obtain ⟨Ao21, co21, eo21⟩ := Kd.R_slice qf.out; subst eo21))
           go_loopg [8, 33] k1 (fun kq v8 v33 w' => ∃ (qd : List Bool) (x8_2 : Bool) (qe : Int), v8 = .bool x8_2 ∧ v33 = .int .i64 qe ∧ Aside0 (impl_partMatch.l1 kq a0 a1 qb qa qd x8_2 (qb.length : Int) qe = some r) ∧ Aside0 (kq ≤ k1) ∧ Aside0 (Kd.R Kd.bool 4 w' w.heap.size (fun k_ => some k_ ≠ (v730 : Value).ownBlock) (.slice Ao21 qb.length co21) qb) ∧ Aside0 (Kd.R Kd.bool 4 w' w.heap.size (fun k_ => some k_ ≠ ((.slice Ao21 qb.length co21) : Value).ownBlock) v730 qd) ∧ Aside0 (Below w.heap.size w w'))
           case atStart => exact ⟨(y729), (false), (0), (by first | rfl | (simp; done) | (simp [*]; done)), (by first | rfl | (simp; done) | (simp [*]; done)), H', ⟨Nat.le_refl _⟩, ⟨by (with_reducible repeat (first | apply Kd.R_alloc | apply Kd.R_drewN | apply Kd.R_drew)); exact Kd.R_mono qf.out (fun _ hk => hk.2)⟩, ⟨by (with_reducible repeat (first | apply Kd.R_alloc | apply Kd.R_drewN | apply Kd.R_drew)); exact Kd.R_mono HO731.out (fun _ hk => hk.2)⟩, ⟨by repeat (first | (with_reducible first | exact HB.out | apply below_alloc | apply pw_below_drewN | apply below_drew1) | exact HB.out)⟩⟩
           case round =>
            clear H'; (try clear c1); (try clear p1); (try clear q1); (try clear hx1); (try clear p2); (try clear c4); (try clear c4b0); (try clear c4b1); (try clear c5); (try clear c5b0); (try clear c5b1); (try clear c6); (try clear c6b0); (try clear c6b1); (try clear p6); (try clear p7); (try clear q7); (try clear hx7); (try clear qi7); (try clear hf7); (try clear c10); (try clear c12); (try clear c12b0); (try clear c14); (try clear c14b0); (try clear c14b1); (try clear c15); (try clear c15b0); (try clear c15b1); (try clear c16); (try clear c16b0); (try clear p17); (try clear q17); (try clear hx17); (try clear c18); (try clear c18b0); (try clear c18b1); (try clear hx7_0); (try clear p17); (try clear p2); (try clear p6); (try clear p7); (try clear q17); (try clear q7); obtain ⟨qd, x8_2, qe, rfl, rfl, HA, HK2, qf, qg, HB⟩ := hrel
            cases gk with
            | zero => exact absurd HA.out (by simp [impl_partMatch.l1])
            | succ k2 =>
             have H := HA.out; clear HA; simp only [impl_partMatch.l1] at H
             by_cases c22 : qe < (qb.length : Int)
             ·rw [if_pos c22] at H
              have c22b0 : decide (qe < (qb.length : Int)) = true := decide_eq_true c22; clear c22
              by_cases c23 : x8_2 = true
              ·subst c23
               have H1 : (if 0 ≤ qe then (if qe < (qd.length : Int) then (impl_partMatch.l1 k2 a0 a1 qb qa (qd.set (qe : Int).toNat true) true (qb.length : Int) (wrap64 (qe + 1))) else (none)) else (none)) = some r := by rw [if_pos rfl] at H; exact H
               clear H; have H := H1; clear H1
               by_cases c24 : 0 ≤ qe
               ·rw [if_pos c24] at H
                have c24b0 : decide (0 ≤ qe) = true := decide_eq_true c24; clear c24
                by_cases c25 : qe < (qd.length : Int)
                ·rw [if_pos c25] at H
                 have c25b0 : decide (qe < (qd.length : Int)) = true := decide_eq_true c25; clear c25
                 obtain ⟨y732, hy732⟩ : ∃ y_ : List Bool, y_ = (qd.set (qe : Int).toNat true) := ⟨_, rfl⟩
                 replace H : (impl_partMatch.l1 k2 a0 a1 qb qa y732 true (qb.length : Int) (wrap64 (qe + 1))) = some r := by first | (rw [hy732]; with_reducible exact H) | (have H2_ := (Option.bind_some _ _).symm.trans H; rw [hy732]; with_reducible exact H2_) | (have H2_ := (Option.bind_some _ _).symm.trans H; with_reducible exact H2_) | with_reducible exact H | (rw [hy732]; exact H) | exact H
                 have Ny732 := Aside0.mk hy732; clear hy732; have H' := Aside0.mk H; clear H; have p26 : 0 ≤ (qe : Int) := of_decide_eq_true (by first | (with_reducible assumption) | assumption); have q26 : (qe : Int) < ((qd.length : Int) : Int) := of_decide_eq_true (by first | (with_reducible assumption) | assumption); obtain ⟨go26, co26, eo26, gb26, gl26, cl26, HG26⟩ := Kd.R_form qg.out (by omega); (first | cases eo26 | (injection eo26 with ea_ en_ ec_; (first | subst ea_ | (injection ea_ with ea_; subst ea_)); subst ec_; clear en_)); have GB26 := Aside0.mk gb26; have GG26 := Aside0.mk HG26; clear gb26 gl26 HG26; obtain ⟨hx26_0, hf26_0⟩ := Kd.R_celln false qg.out (qe : Int) p26 q26; replace p26 := eq_true p26; replace q26 := eq_true q26; have HP27 := Kd.R_putg qg.out (qe : Int) true
                 go_wp2_with (first | ((with_reducible refine gate_store (t := 4) (p := 46) rfl ?_); refine store_event (t := 4) (p := 46) (v := ?vo_w28) (w1 := (wr.setCell ⟨go26, (qe : Int).toNat, none⟩ (.bool true))) ?hg ?ho ?hn ?hr ?_; (case ho => rfl); (case hg => rfl); (case hn => rfl); (case hr => first | (go_simp; done) | (go_simp; rfl)); intro w28 hw; have hg : wr.grownBy w28 (some go26) := (by rw [hw]; exact HP27.2); have hp_ : Kd.R Kd.bool 4 w28 w.heap.size (fun k_ => some k_ ≠ (.slice Ao21 qb.length co21 : Value).ownBlock) (.slice (some ⟨go26, 0, none⟩) qd.length co26) y732 := (by rw [hw, Ny732.out]; exact HP27.1); clear HP27; have n0_ := Aside0.mk (Kd.R_after (v := (.slice (some ⟨go26, 0, none⟩) qd.length co26)) (v1 := (.slice (some ⟨go26, 0, none⟩) qd.length co26)) (ok := (fun _ => True)) (by (with_reducible repeat (first | apply Kd.R_alloc | apply Kd.R_drewN | apply Kd.R_drew)); exact Kd.R_mono qf.out (fun _ hk => ⟨trivial, (by first | exact hk | exact fun e_ => hk (e_.trans (own_len _ _ _ _ _)))⟩)) hg (.inl rfl)); have n1_ := Aside0.mk (hp_); have n2_ := Aside0.mk ((by rw [hw]; exact below_set (HB.out) GB26.out : Below w.heap.size w w28)); clear qf; clear qg; clear HB; have qf := n0_; have qg := n1_; have HB := n2_; clear n0_ n1_ n2_; clear hg hw hp_))
                 go_roundg k2
                 case measure => have := HK1.out; have := HK2.out; omega
                 case rel => exact ⟨(y732), (true), (wrap64 (qe + 1)), (by first | rfl | (simp; done) | (simp [*]; done)), (by first | rfl | (simp; done) | (simp [*]; done)), H', ⟨by have := HK1.out; have := HK2.out; omega⟩, ⟨by (with_reducible repeat (first | apply Kd.R_alloc | apply Kd.R_drewN | apply Kd.R_drew)); exact Kd.R_mono qf.out (fun _ hk => hk.2)⟩, ⟨by (with_reducible repeat (first | apply Kd.R_alloc | apply Kd.R_drewN | apply Kd.R_drew)); exact qg.out⟩, ⟨by repeat (first | (with_reducible first | exact HB.out | apply below_alloc | apply pw_below_drewN | apply below_drew1) | exact HB.out)⟩⟩
                ·rw [if_neg c25] at H
                 exact absurd H (by simp)
               ·rw [if_neg c24] at H
                exact absurd H (by simp)
              ·replace c23 := Bool.eq_false_iff.mpr c23; subst c23
               have H1 : (if 0 ≤ qe then (if qe < (qb.length : Int) then (if qe < (qd.length : Int) then (impl_partMatch.l1 k2 a0 a1 qb qa (qd.set (qe : Int).toNat (rdOf false qb qe)) (rdOf false qb qe) (qb.length : Int) (wrap64 (qe + 1))) else (none)) else (none)) else (none)) = some r := by rw [if_neg (show ¬ (false = true) by decide)] at H; exact H
               clear H; have H := H1; clear H1
               by_cases c29 : 0 ≤ qe
               ·rw [if_pos c29] at H
                have c29b0 : decide (0 ≤ qe) = true := decide_eq_true c29; clear c29
                by_cases c30 : qe < (qb.length : Int)
                ·rw [if_pos c30] at H
                 have c30b0 : decide (qe < (qb.length : Int)) = true := decide_eq_true c30; clear c30
                 by_cases c31 : qe < (qd.length : Int)
                 ·rw [if_pos c31] at H
                  have c31b0 : decide (qe < (qd.length : Int)) = true := decide_eq_true c31; clear c31
                  obtain ⟨y734, hy734⟩ : ∃ y_ : List Bool, y_ = (qd.set (qe : Int).toNat (rdOf false qb qe)) := ⟨_, rfl⟩
                  replace H : (impl_partMatch.l1 k2 a0 a1 qb qa y734 (rdOf false qb qe) (qb.length : Int) (wrap64 (qe + 1))) = some r := by first | (rw [hy734]; with_reducible exact H) | (have H2_ := (Option.bind_some _ _).symm.trans H; rw [hy734]; with_reducible exact H2_) | (have H2_ := (Option.bind_some _ _).symm.trans H; with_reducible exact H2_) | with_reducible exact H | (rw [hy734]; exact H) | exact H
                  have Ny734 := Aside0.mk hy734; clear hy734; have H' := Aside0.mk H; clear H; have p733 : 0 ≤ (qe : Int) := of_decide_eq_true (by first | (with_reducible assumption) | assumption); have q733 : qe < (qb.length : Int) := of_decide_eq_true (by first | (with_reducible assumption) | assumption); obtain ⟨ad733, e733, hx733_0⟩ := Kd.at_bool (Kd.R_reads' qf.out).2.2 qe p733 q733
                  cases e733
                  replace p733 := eq_true p733; replace q733 := eq_true q733; have p32 : 0 ≤ (qe : Int) := of_decide_eq_true (by first | (with_reducible assumption) | assumption); have q32 : (qe : Int) < ((qd.length : Int) : Int) := of_decide_eq_true (by first | (with_reducible assumption) | assumption); obtain ⟨go32, co32, eo32, gb32, gl32, cl32, HG32⟩ := Kd.R_form qg.out (by omega); (first | cases eo32 | (injection eo32 with ea_ en_ ec_; (first | subst ea_ | (injection ea_ with ea_; subst ea_)); subst ec_; clear en_)); have GB32 := Aside0.mk gb32; have GG32 := Aside0.mk HG32; clear gb32 gl32 HG32; obtain ⟨hx32_0, hf32_0⟩ := Kd.R_celln false qg.out (qe : Int) p32 q32; replace p32 := eq_true p32; replace q32 := eq_true q32; have HP33 := Kd.R_putg qg.out (qe : Int) (rdOf false qb qe)
                  go_wp2_with (first | ((with_reducible refine gate_store (t := 4) (p := 46) rfl ?_); refine store_event (t := 4) (p := 46) (v := ?vo_w34) (w1 := (wr.setCell ⟨go32, (qe : Int).toNat, none⟩ (.bool (rdOf false qb qe)))) ?hg ?ho ?hn ?hr ?_; (case ho => rfl); (case hg => rfl); (case hn => rfl); (case hr => first | (go_simp; done) | (go_simp; rfl)); intro w34 hw; have hg : wr.grownBy w34 (some go32) := (by rw [hw]; exact HP33.2); have hp_ : Kd.R Kd.bool 4 w34 w.heap.size (fun k_ => some k_ ≠ (.slice (some ad733) qb.length co21 : Value).ownBlock) (.slice (some ⟨go32, 0, none⟩) qd.length co32) y734 := (by rw [hw, Ny734.out]; exact HP33.1); clear HP33; have n0_ := Aside0.mk (Kd.R_after (v := (.slice (some ⟨go32, 0, none⟩) qd.length co32)) (v1 := (.slice (some ⟨go32, 0, none⟩) qd.length co32)) (ok := (fun _ => True)) (by (with_reducible repeat (first | apply Kd.R_alloc | apply Kd.R_drewN | apply Kd.R_drew)); exact Kd.R_mono qf.out (fun _ hk => ⟨trivial, (by first | exact hk | exact fun e_ => hk (e_.trans (own_len _ _ _ _ _)))⟩)) hg (.inl rfl)); have n1_ := Aside0.mk (hp_); have n2_ := Aside0.mk ((by rw [hw]; exact below_set (HB.out) GB32.out : Below w.heap.size w w34)); clear qf; clear qg; clear HB; have qf := n0_; have qg := n1_; have HB := n2_; clear n0_ n1_ n2_; clear hg hw hp_))
                  go_roundg k2
                  case measure => have := HK1.out; have := HK2.out; omega
                  case rel => exact ⟨(y734), (rdOf false qb qe), (wrap64 (qe + 1)), (by first | rfl | (simp; done) | (simp [*]; done)), (by first | rfl | (simp; done) | (simp [*]; done)), H', ⟨by have := HK1.out; have := HK2.out; omega⟩, ⟨by (with_reducible repeat (first | apply Kd.R_alloc | apply Kd.R_drewN | apply Kd.R_drew)); exact Kd.R_mono qf.out (fun _ hk => hk.2)⟩, ⟨by (with_reducible repeat (first | apply Kd.R_alloc | apply Kd.R_drewN | apply Kd.R_drew)); exact qg.out⟩, ⟨by repeat (first | (with_reducible first | exact HB.out | apply below_alloc | apply pw_below_drewN | apply below_drew1) | exact HB.out)⟩⟩
                 ·rw [if_neg c31] at H
                  exact absurd H (by simp)
                ·rw [if_neg c30] at H
                 exact absurd H (by simp)
               ·rw [if_neg c29] at H
                exact absurd H (by simp)
             ·rw [if_neg c22] at H
              have c22b0 : decide (qe < (qb.length : Int)) = false := decide_eq_false c22; clear c22; have H' := Aside0.mk H; clear H
              go_wp2
              go_roundg k2
              case measure => have := HK1.out; have := HK2.out; omega
              case rel => exact ⟨(qd), (wrap64 (qa + 1)), (by first | rfl | (simp; done) | (simp [*]; done)), H', ⟨by have := HK1.out; have := HK2.out; omega⟩, ⟨by (with_reducible repeat (first | apply Kd.R_alloc | apply Kd.R_drewN | apply Kd.R_drew)); exact Kd.R_mono qg.out (fun _ hk => trivial)⟩, ⟨by repeat (first | (with_reducible first | exact HB.out | apply below_alloc | apply pw_below_drewN | apply below_drew1) | exact HB.out)⟩⟩
          ·rw [if_neg c18] at H
           have c18b0 : ((bt a0 qa) == 42) = false := beq_eq_false_iff_ne.mpr c18; have c18b1 : ((bt a0 qa) != 42) = true := bne_iff_ne.mpr c18; have H' := Aside0.mk H; clear H
           go_wp2_with (first | ((with_reducible refine gate_dst (N := 26) rfl ?_); refine Kd.R_make Kd.bool _ 4 rfl (N := 26) rfl 127 _ _ rfl ji13 rfl rfl Tryd.underlying127 (.bool false) 1 info4 rfl (by decide) (by omega) false (ok := fun _ => True) (okp := fun _ => True) rfl (fun _ hk => hk) trivial (of_decide_eq_true (by first | (with_reducible assumption) | assumption)) (Nat.le_trans (Nat.mul_le_mul_right _ (of_decide_eq_true (by first | (with_reducible assumption) | assumption) : ji13.toNat ≤ 281474976710656)) (by omega)) (Below.refl _ _) (Nat.le_refl _) ?_; intro v730 w35 ho36 hb hg_ hnew_; clear hg_ hnew_; (first | rw [← Ny729.out] at ho36 | (simp only [Int.reduceToNat] at ho36; rw [← Ny729.out] at ho36)); have n0_ := Aside0.mk (Kd.R_elder' (by (with_reducible repeat (first | apply Kd.R_alloc | apply Kd.R_drewN | apply Kd.R_drew)); exact qf.out) (Kd.R_base ho36) hb); have n1_ := Aside0.mk (Kd.R_lower (Kd.R_new' ho36 (Kd.R_lt (by (with_reducible repeat (first | apply Kd.R_alloc | apply Kd.R_drewN | apply Kd.R_drew)); exact qf.out))) (below_size (by repeat (first | (with_reducible first | exact HB.out | apply below_alloc | apply pw_below_drewN | apply below_drew1) | exact HB.out)))); have n2_ := Aside0.mk (below_step (by repeat (first | (with_reducible first | exact HB.out | apply below_alloc | apply pw_below_drewN | apply below_drew1) | exact HB.out)) hb); clear qf; clear HB; have qf := n0_; have HO731 := n1_; have HB := n2_; clear n0_ n1_ n2_; clear hb ho36; have p17 : 0 ≤ (qa : Int) := of_decide_eq_true (by first | (with_reducible assumption) | assumption); have q17 : qa < (a0.size : Int) := of_decide_eq_true (by first | (with_reducible assumption) | assumption); have hx17 := bt_at a0 qa; replace p17 := eq_true p17; replace q17 := eq_true q17))
           go_loopg [10] k1 (fun kq v10 w' => ∃ (qd : List Bool) (qc : Int), v10 = .int .i64 qc ∧ Aside0 (impl_partMatch.l2 kq a0 a1 qb qa qd qc = some r) ∧ Aside0 (kq ≤ k1) ∧ Aside0 (Kd.R Kd.bool 4 w' w.heap.size (fun k_ => some k_ ≠ (v730 : Value).ownBlock) u5 qb) ∧ Aside0 (Kd.R Kd.bool 4 w' w.heap.size (fun k_ => some k_ ≠ (u5 : Value).ownBlock) v730 qd) ∧ Aside0 (Below w.heap.size w w'))
           case atStart => exact ⟨(y729), (0), (by first | rfl | (simp; done) | (simp [*]; done)), H', ⟨Nat.le_refl _⟩, ⟨by (with_reducible repeat (first | apply Kd.R_alloc | apply Kd.R_drewN | apply Kd.R_drew)); exact Kd.R_mono qf.out (fun _ hk => hk.2)⟩, ⟨by (with_reducible repeat (first | apply Kd.R_alloc | apply Kd.R_drewN | apply Kd.R_drew)); exact Kd.R_mono HO731.out (fun _ hk => hk.2)⟩, ⟨by repeat (first | (with_reducible first | exact HB.out | apply below_alloc | apply pw_below_drewN | apply below_drew1) | exact HB.out)⟩⟩
           case round =>
            clear H'; (try clear c1); (try clear p1); (try clear q1); (try clear hx1); (try clear c2); (try clear p2); (try clear q2); (try clear hx2); (try clear hf2); (try clear c3); (try clear p3); (try clear q3); (try clear hx3); (try clear hf3); (try clear c4); (try clear c4b0); (try clear c4b1); (try clear c5); (try clear c5b0); (try clear c5b1); (try clear c6); (try clear c6b0); (try clear c6b1); (try clear p6); (try clear p7); (try clear q7); (try clear hx7); (try clear qi7); (try clear hf7); (try clear c10); (try clear c12); (try clear c12b0); (try clear c14); (try clear c14b0); (try clear c14b1); (try clear c15); (try clear c15b0); (try clear c15b1); (try clear c16); (try clear c16b0); (try clear p17); (try clear q17); (try clear hx17); (try clear c18); (try clear c18b0); (try clear c18b1); (try clear c22); (try clear c22b0); (try clear c23); (try clear c24); (try clear c24b0); (try clear c25); (try clear c25b0); (try clear p26); (try clear q26); (try clear hx26); (try clear hf26); (try clear c29); (try clear c29b0); (try clear c30); (try clear c30b0); (try clear c31); (try clear c31b0); (try clear p32); (try clear q32); (try clear hx32); (try clear hf32); (try clear hx26_0); (try clear hx32_0); (try clear hx733_0); (try clear hx7_0); (try clear p1); (try clear p17); (try clear p2); (try clear p26); (try clear p32); (try clear p6); (try clear p7); (try clear p733); (try clear q1); (try clear q17); (try clear q26); (try clear q32); (try clear q7); (try clear q733); obtain ⟨qd, qc, rfl, HA, HK2, qf, qg, HB⟩ := hrel
            cases gk with
            | zero => exact absurd HA.out (by simp [impl_partMatch.l2])
            | succ k2 =>
             have H := HA.out; clear HA; simp only [impl_partMatch.l2] at H
             by_cases c37 : qc < (a1.size : Int)
             ·rw [if_pos c37] at H
              have c37b0 : decide (qc < (a1.size : Int)) = true := decide_eq_true c37; clear c37
              by_cases c38 : 0 ≤ qc
              ·rw [if_pos c38] at H
               have c38b0 : decide (0 ≤ qc) = true := decide_eq_true c38; clear c38
               by_cases c39 : qc < (qb.length : Int)
               ·rw [if_pos c39] at H
                have c39b0 : decide (qc < (qb.length : Int)) = true := decide_eq_true c39; clear c39
                obtain ⟨bq40, hbq40⟩ : ∃ b_ : Bool, b_ = (rdOf false qb qc) := ⟨_, rfl⟩
                replace H : (if bq40 = true then (if 0 ≤ qa then (if qa < (a0.size : Int) then (if (bt a0 qa) = 63 then (if 0 ≤ (wrap64 (qc + 1)) then (if (wrap64 (qc + 1)) < (qd.length : Int) then (impl_partMatch.l2 k2 a0 a1 qb qa (qd.set ((wrap64 (qc + 1)) : Int).toNat true) (wrap64 (qc + 1))) else (none)) else (none)) else (if 0 ≤ (wrap64 (qc + 1)) then (if (wrap64 (qc + 1)) < (qd.length : Int) then (impl_partMatch.l2 k2 a0 a1 qb qa (qd.set ((wrap64 (qc + 1)) : Int).toNat ((bt a0 qa) == (bt a1 qc))) (wrap64 (qc + 1))) else (none)) else (none))) else (none)) else (none)) else (if 0 ≤ (wrap64 (qc + 1)) then (if (wrap64 (qc + 1)) < (qd.length : Int) then (impl_partMatch.l2 k2 a0 a1 qb qa (qd.set ((wrap64 (qc + 1)) : Int).toNat false) (wrap64 (qc + 1))) else (none)) else (none))) = some r := by rw [← hbq40] at H; exact H
                have Nbq40 := Aside0.mk hbq40; clear hbq40
                by_cases c41 : bq40 = true
                ·subst c41
                 have H1 : (if 0 ≤ qa then (if qa < (a0.size : Int) then (if (bt a0 qa) = 63 then (if 0 ≤ (wrap64 (qc + 1)) then (if (wrap64 (qc + 1)) < (qd.length : Int) then (impl_partMatch.l2 k2 a0 a1 qb qa (qd.set ((wrap64 (qc + 1)) : Int).toNat true) (wrap64 (qc + 1))) else (none)) else (none)) else (if 0 ≤ (wrap64 (qc + 1)) then (if (wrap64 (qc + 1)) < (qd.length : Int) then (impl_partMatch.l2 k2 a0 a1 qb qa (qd.set ((wrap64 (qc + 1)) : Int).toNat ((bt a0 qa) == (bt a1 qc))) (wrap64 (qc + 1))) else (none)) else (none))) else (none)) else (none)) = some r := by rw [if_pos rfl] at H; exact H
                 clear H; have H := H1; clear H1
                 by_cases c42 : 0 ≤ qa
                 ·rw [if_pos c42] at H
                  have c42b0 : decide (0 ≤ qa) = true := decide_eq_true c42; clear c42
                  by_cases c43 : qa < (a0.size : Int)
                  ·rw [if_pos c43] at H
                   have c43b0 : decide (qa < (a0.size : Int)) = true := decide_eq_true c43; clear c43
                   by_cases c45 : (bt a0 qa) = 63
                   ·rw [if_pos c45] at H
                    have c45b0 : ((bt a0 qa) == 63) = true := beq_iff_eq.mpr c45; have c45b1 : ((bt a0 qa) != 63) = false := bne_eq_false_iff_eq.mpr c45; clear c45
                    obtain ⟨ji46, hji46⟩ : ∃ j_ : Int, (wrap64 (qc + 1)) = j_ := ⟨_, rfl⟩
                    replace H : (if 0 ≤ (ji46) then (if (ji46) < (qd.length : Int) then (impl_partMatch.l2 k2 a0 a1 qb qa (qd.set ((ji46) : Int).toNat true) ji46) else (none)) else (none)) = some r := by first | (rw [hji46] at H; exact H) | (simp only [hji46] at H ⊢; exact H)
                    have hji46w : (IntKind.i64.wrap (qc + 1)) = ji46 := (i64_w _).trans hji46
                    by_cases c47 : 0 ≤ (ji46)
                    ·rw [if_pos c47] at H
                     have c47b0 : decide (0 ≤ (ji46)) = true := decide_eq_true c47; clear c47
                     by_cases c48 : (ji46) < (qd.length : Int)
                     ·rw [if_pos c48] at H
                      have c48b0 : decide ((ji46) < (qd.length : Int)) = true := decide_eq_true c48; clear c48
                      obtain ⟨y736, hy736⟩ : ∃ y_ : List Bool, y_ = (qd.set ((ji46) : Int).toNat true) := ⟨_, rfl⟩
                      replace H : (impl_partMatch.l2 k2 a0 a1 qb qa y736 ji46) = some r := by first | (rw [hy736]; with_reducible exact H) | (have H2_ := (Option.bind_some _ _).symm.trans H; rw [hy736]; with_reducible exact H2_) | (have H2_ := (Option.bind_some _ _).symm.trans H; with_reducible exact H2_) | with_reducible exact H | (rw [hy736]; exact H) | exact H
                      have Ny736 := Aside0.mk hy736; clear hy736; have H' := Aside0.mk H; clear H
                      try go_wp2
                      have n0_ := Aside0.mk (Kd.R_drew qf.out); have n1_ := Aside0.mk (Kd.R_drew qg.out); have n2_ := Aside0.mk (below_drew1 HB.out); clear qf; clear qg; clear HB; have qf := n0_; have qg := n1_; have HB := n2_; clear n0_ n1_ n2_; obtain ⟨Ao51, co51, eo51⟩ := Kd.R_slice qf.out; (first | subst eo51 | (injection eo51 with f1_ f2_ f3_; have f4_ := f1_.symm; have f5_ := f3_.symm; clear f1_ f2_ f3_; subst f4_; subst f5_)); have p735 : 0 ≤ (qc : Int) := of_decide_eq_true (by first | (with_reducible assumption) | assumption); have q735 : qc < (qb.length : Int) := of_decide_eq_true (by first | (with_reducible assumption) | assumption); obtain ⟨ad735, e735, hx735_0⟩ := Kd.at_bool (Kd.R_reads' qf.out).2.2 qc p735 q735; (try rw [← Nbq40.out] at hx735_0)
                      cases e735
                      replace p735 := eq_true p735; replace q735 := eq_true q735; have p44 : 0 ≤ (qa : Int) := of_decide_eq_true (by first | (with_reducible assumption) | assumption); have q44 : qa < (a0.size : Int) := of_decide_eq_true (by first | (with_reducible assumption) | assumption); have hx44 := bt_at a0 qa; replace p44 := eq_true p44; replace q44 := eq_true q44; have p49 : 0 ≤ ((ji46) : Int) := of_decide_eq_true (by first | (with_reducible assumption) | assumption); have q49 : ((ji46) : Int) < ((qd.length : Int) : Int) := of_decide_eq_true (by first | (with_reducible assumption) | assumption); obtain ⟨go49, co49, eo49, gb49, gl49, cl49, HG49⟩ := Kd.R_form qg.out (by omega); (first | cases eo49 | (injection eo49 with ea_ en_ ec_; (first | subst ea_ | (injection ea_ with ea_; subst ea_)); subst ec_; clear en_)); have GB49 := Aside0.mk gb49; have GG49 := Aside0.mk HG49; clear gb49 gl49 HG49; obtain ⟨hx49_0, hf49_0⟩ := Kd.R_celln false qg.out ((ji46) : Int) p49 q49; replace p49 := eq_true p49; replace q49 := eq_true q49; have HP52 := Kd.R_putn qg.out ((ji46) : Int) true
                      rw [← Ny736.out] at HP52
                      have HQ52 := Aside0.mk HP52; clear HP52; refine start_ (n := 24) (S := fun w' => w'.cell? (ad735.add (qc).toNat) = some (.bool true)) (ds := [23]) bm35_0 (by kernel_rfl) rfl rfl (hx735_0) (fun hHeld => ?_); refine with_tabW impl_partMatch.tab18 impl_partMatch.bits18 (fun HT_ HW_ => ?_); generalize wr.drew = w50 at qf qg HB GG49 HQ52 hf49_0 hx49_0 hx735_0 hHeld ⊢; refine pure_ (i := 0) (N := some 54) (v := ?_) (a' := ?_) bm35_1 rfl rfl (any_of HT_.out (by kernel_rfl)) (fun _ _ _ h => h) (Or.inl ⟨by rfl, ?_⟩) ?_ ?_; rotate_left
                      ·intro w'; go_simp; (with_reducible rfl)
                      rotate_left; (·simp only [um35]; rfl); refine pure_ (i := 1) (N := some 55) (v := ?_) (a' := ?_) bm35_2 rfl rfl (any_of HT_.out (by kernel_rfl)) (fun _ _ _ h => h) (Or.inl ⟨by rfl, ?_⟩) ?_ ?_; rotate_left
                      ·intro w'; go_simp; (with_reducible rfl)
                      rotate_left; (·simp only [um35]; rfl); refine pure_ (i := 2) (N := some 56) (v := ?_) (a' := ?_) bm35_3 rfl rfl (any_of HT_.out (by kernel_rfl)) (fun _ _ _ h => h) (Or.inl ⟨by rfl, ?_⟩) ?_ ?_; rotate_left
                      ·intro w'; go_simp; (with_reducible rfl)
                      rotate_left; (·simp only [um35]; rfl); refine pure_ (i := 3) (N := some 57) (v := ?_) (a' := ?_) bm35_4 rfl rfl (any_of HT_.out (by kernel_rfl)) (fun _ _ _ h => h) (Or.inl ⟨by rfl, ?_⟩) ?_ ?_; rotate_left
                      ·intro w'; go_simp; (with_reducible rfl)
                      rotate_left; (·simp only [um35]; rfl); refine pure_ (i := 4) (N := some 58) (v := ?_) (a' := ?_) bm35_5 rfl rfl (any_of HT_.out (by kernel_rfl)) (fun _ _ _ h => h) (Or.inl ⟨by rfl, ?_⟩) ?_ ?_; rotate_left
                      ·intro w'; go_simp; (with_reducible rfl)
                      rotate_left; (·simp only [um35]; rfl); refine pure_ (i := 5) (N := some 59) (v := ?_) (a' := ?_) bm35_6 rfl rfl (any_of HT_.out (by kernel_rfl)) (fun _ _ _ h => h) (Or.inl ⟨by rfl, ?_⟩) ?_ ?_; rotate_left
                      ·intro w'; go_simp; (with_reducible rfl)
                      rotate_left; (·simp only [um35]; rfl); refine take_ (i := 6) (N := some 60) (v := ?_) (a' := ?_) bm35_7 rfl rfl (take_ofW HT_.out HW_.out (by kernel_rfl)) (fun _ _ _ h => h) (Or.inl ⟨by rfl, ?_⟩) hHeld ?_ ?_; rotate_left
                      ·intro w' s0; go_simp; (with_reducible rfl)
                      rotate_left; (·simp only [um35]; rfl); refine pure_ (i := 7) (N := some 61) (v := ?_) (a' := ?_) bm35_8 rfl rfl (any_of HT_.out (by kernel_rfl)) (fun _ _ _ h => h) (Or.inl ⟨by rfl, ?_⟩) ?_ ?_; rotate_left
                      ·intro w'; go_simp; (with_reducible rfl)
                      rotate_left; (·simp only [um35]; rfl); refine pure_ (i := 8) (N := some 62) (v := ?_) (a' := ?_) bm35_9 rfl rfl (any_of HT_.out (by kernel_rfl)) (fun _ _ _ h => h) (Or.inl ⟨by rfl, ?_⟩) ?_ ?_; rotate_left
                      ·intro w'; go_simp; (with_reducible rfl)
                      rotate_left; (·simp only [um35]; rfl); refine pure_ (i := 9) (N := some 63) (v := ?_) (a' := ?_) bm35_10 rfl rfl (any_of HT_.out (by kernel_rfl)) (fun _ _ _ h => h) (Or.inl ⟨by rfl, ?_⟩) ?_ ?_; rotate_left
                      ·intro w'; go_simp; (with_reducible rfl)
                      rotate_left; (·simp only [um35]; rfl); refine take_ (i := 10) (N := some 64) (v := ?_) (a' := ?_) bm35_11 rfl rfl (take_ofW HT_.out HW_.out (by kernel_rfl)) (fun _ _ _ h => h) (Or.inl ⟨by rfl, ?_⟩) hHeld ?_ ?_; rotate_left
                      ·intro w' s0; go_simp; (with_reducible rfl)
                      rotate_left; (·simp only [um35]; rfl); refine pure_ (i := 11) (N := some 65) (v := ?_) (a' := ?_) bm35_12 rfl rfl (any_of HT_.out (by kernel_rfl)) (fun _ _ _ h => h) (Or.inl ⟨by rfl, ?_⟩) ?_ ?_; rotate_left
                      ·intro w'; go_simp; (with_reducible rfl)
                      rotate_left; (·simp only [um35]; rfl); refine pure_ (i := 12) (N := some 66) (v := ?_) (a' := ?_) bm35_13 rfl rfl (any_of HT_.out (by kernel_rfl)) (fun _ _ _ h => h) (Or.inl ⟨by rfl, ?_⟩) ?_ ?_; rotate_left
                      ·intro w'; go_simp; (with_reducible rfl)
                      rotate_left; (·simp only [um35]; rfl); refine pure_ (i := 13) (N := some 67) (v := undef) (a' := ?_) bm35_14 rfl rfl (any_of HT_.out (by kernel_rfl)) (fun _ _ _ h => h) (Or.inr ⟨by rfl, rfl⟩) ?_ ?_; rotate_left; (·simp only [um35]; rfl); refine pure_ (i := 14) (N := some 68) (v := undef) (a' := ?_) bm35_15 rfl rfl (any_of HT_.out (by kernel_rfl)) (fun _ _ _ h => h) (Or.inr ⟨by rfl, rfl⟩) ?_ ?_; rotate_left; (·simp only [um35]; rfl); refine pure_ (i := 15) (N := some 69) (v := undef) (a' := ?_) bm35_16 rfl rfl (any_of HT_.out (by kernel_rfl)) (fun _ _ _ h => h) (Or.inr ⟨by rfl, rfl⟩) ?_ ?_; rotate_left; (·simp only [um35]; rfl); refine pure_ (i := 16) (N := some 70) (v := undef) (a' := ?_) bm35_17 rfl rfl (any_of HT_.out (by kernel_rfl)) (fun _ _ _ h => h) (Or.inr ⟨by rfl, rfl⟩) ?_ ?_; rotate_left; (·simp only [um35]; rfl); refine pure_ (i := 17) (N := some 71) (v := undef) (a' := ?_) bm35_18 rfl rfl (any_of HT_.out (by kernel_rfl)) (fun _ _ _ h => h) (Or.inr ⟨by rfl, rfl⟩) ?_ ?_; rotate_left; (·simp only [um35]; rfl); refine pure_ (i := 18) (N := some 72) (v := undef) (a' := ?_) bm35_19 rfl rfl (any_of HT_.out (by kernel_rfl)) (fun _ _ _ h => h) (Or.inr ⟨by rfl, rfl⟩) ?_ ?_; rotate_left; (·simp only [um35]; rfl); refine pure_ (i := 19) (N := some 73) (v := undef) (a' := ?_) bm35_20 rfl rfl (any_of HT_.out (by kernel_rfl)) (fun _ _ _ h => h) (Or.inr ⟨by rfl, rfl⟩) ?_ ?_; rotate_left; (·simp only [um35]; rfl); refine pure_ (i := 20) (N := some 74) (v := ?_) (a' := ?_) bm35_21 rfl rfl (any_of HT_.out (by kernel_rfl)) (fun _ _ _ h => h) (Or.inl ⟨by rfl, ?_⟩) ?_ ?_; rotate_left
                      ·intro w'; go_simp; (with_reducible rfl)
                      rotate_left; (·simp only [um35]; rfl); refine pure_ (i := 21) (N := some 75) (v := ?_) (a' := ?_) bm35_22 rfl rfl (any_of HT_.out (by kernel_rfl)) (fun _ _ _ h => h) (Or.inl ⟨by rfl, ?_⟩) ?_ ?_; rotate_left
                      ·intro w'; go_simp; (with_reducible rfl)
                      rotate_left; (·simp only [um35]; rfl); refine pure_ (i := 22) (N := some 76) (v := ?_) (a' := ?_) bm35_23 rfl rfl (any_of HT_.out (by kernel_rfl)) (fun _ _ _ h => h) (Or.inl ⟨by rfl, ?_⟩) ?_ ?_; rotate_left
                      ·intro w'; go_simp; (with_reducible rfl)
                      rotate_left; (·simp only [um35]; rfl)
                      refine last_ (i := 23) (N := none) bm35_24 rfl rfl (one_of HT_.out (by kernel_rfl)) (by decide) (fun K hK => ?_); refine skip_ (w1 := ?_) (by rfl) rfl ?_ ?_; rotate_left
                      ·go_simp; rfl
                      refine hK.out _ _ ?_; clear hK K; refine done_ (done_of HT_.out (by kernel_rfl)) ?_
                      try go_wp2
                      go_roundg k2
                      case measure => have := HK1.out; have := HK2.out; omega
                      case rel => exact ⟨(y736), (ji46), (by first | rfl | (simp; done) | (simp only [← hji46] <;> (first | rfl | simp)) | (simp [*]; done)), (by first | exact H' | (subst hji46; exact H') | (simp only [← hji46] at H' ⊢; exact H')), ⟨by have := HK1.out; have := HK2.out; omega⟩, ⟨by (with_reducible repeat (first | apply Kd.R_alloc | apply Kd.R_drewN | apply Kd.R_drew)); exact Kd.R_mono (Kd.R_far (p := ⟨go49, ((ji46) : Int).toNat, none⟩) (Kd.R_mono qf.out (fun k_ hk => (⟨hk, fun e_ => hk (by rw [e_]; rfl)⟩ : _ ∧ k_ ≠ go49))) (fun _ hk => hk.2) (.bool true)) (fun _ hk => hk.1)⟩, ⟨by (with_reducible repeat (first | apply Kd.R_alloc | apply Kd.R_drewN | apply Kd.R_drew)); exact HQ52.out⟩, ⟨by repeat (first | (with_reducible first | exact HB.out | apply below_alloc | apply pw_below_drewN | apply below_drew1 | refine below_set ?_ GB49.out) | exact HB.out)⟩⟩
                     ·rw [if_neg c48] at H
                      exact absurd H (by simp)
                    ·rw [if_neg c47] at H
                     exact absurd H (by simp)
                   ·rw [if_neg c45] at H
                    have c45b0 : ((bt a0 qa) == 63) = false := beq_eq_false_iff_ne.mpr c45; have c45b1 : ((bt a0 qa) != 63) = true := bne_iff_ne.mpr c45
                    obtain ⟨ji55, hji55⟩ : ∃ j_ : Int, (wrap64 (qc + 1)) = j_ := ⟨_, rfl⟩
                    (try clear hji46w); (try clear hji46)
                    replace H : (if 0 ≤ (ji55) then (if (ji55) < (qd.length : Int) then (impl_partMatch.l2 k2 a0 a1 qb qa (qd.set ((ji55) : Int).toNat ((bt a0 qa) == (bt a1 qc))) ji55) else (none)) else (none)) = some r := by first | (rw [hji55] at H; exact H) | (simp only [hji55] at H ⊢; exact H)
                    have hji55w : (IntKind.i64.wrap (qc + 1)) = ji55 := (i64_w _).trans hji55
                    by_cases c56 : 0 ≤ (ji55)
                    ·rw [if_pos c56] at H
                     have c56b0 : decide (0 ≤ (ji55)) = true := decide_eq_true c56; clear c56
                     by_cases c57 : (ji55) < (qd.length : Int)
                     ·rw [if_pos c57] at H
                      have c57b0 : decide ((ji55) < (qd.length : Int)) = true := decide_eq_true c57; clear c57
                      obtain ⟨y737, hy737⟩ : ∃ y_ : List Bool, y_ = (qd.set ((ji55) : Int).toNat ((bt a0 qa) == (bt a1 qc))) := ⟨_, rfl⟩
                      replace H : (impl_partMatch.l2 k2 a0 a1 qb qa y737 ji55) = some r := by first | (rw [hy737]; with_reducible exact H) | (have H2_ := (Option.bind_some _ _).symm.trans H; rw [hy737]; with_reducible exact H2_) | (have H2_ := (Option.bind_some _ _).symm.trans H; with_reducible exact H2_) | with_reducible exact H | (rw [hy737]; exact H) | exact H
                      have Ny737 := Aside0.mk hy737; clear hy737; have H' := Aside0.mk H; clear H
                      try go_wp2
                      have n0_ := Aside0.mk (Kd.R_drew qf.out); have n1_ := Aside0.mk (Kd.R_drew qg.out); have n2_ := Aside0.mk (below_drew1 HB.out); clear qf; clear qg; clear HB; have qf := n0_; have qg := n1_; have HB := n2_; clear n0_ n1_ n2_; obtain ⟨Ao60, co60, eo60⟩ := Kd.R_slice qf.out; (first | subst eo60 | (injection eo60 with f1_ f2_ f3_; have f4_ := f1_.symm; have f5_ := f3_.symm; clear f1_ f2_ f3_; subst f4_; subst f5_)); have p735 : 0 ≤ (qc : Int) := of_decide_eq_true (by first | (with_reducible assumption) | assumption); have q735 : qc < (qb.length : Int) := of_decide_eq_true (by first | (with_reducible assumption) | assumption); obtain ⟨ad735, e735, hx735_0⟩ := Kd.at_bool (Kd.R_reads' qf.out).2.2 qc p735 q735; (try rw [← Nbq40.out] at hx735_0)
                      cases e735
                      replace p735 := eq_true p735; replace q735 := eq_true q735; have p44 : 0 ≤ (qa : Int) := of_decide_eq_true (by first | (with_reducible assumption) | assumption); have q44 : qa < (a0.size : Int) := of_decide_eq_true (by first | (with_reducible assumption) | assumption); have hx44 := bt_at a0 qa; replace p44 := eq_true p44; replace q44 := eq_true q44; have p53 : 0 ≤ (qa : Int) := of_decide_eq_true (by first | (with_reducible assumption) | assumption); have q53 : qa < (a0.size : Int) := of_decide_eq_true (by first | (with_reducible assumption) | assumption); have hx53 := bt_at a0 qa; replace p53 := eq_true p53; replace q53 := eq_true q53; have p54 : 0 ≤ (qc : Int) := of_decide_eq_true (by first | (with_reducible assumption) | assumption); have q54 : qc < (a1.size : Int) := of_decide_eq_true (by first | (with_reducible assumption) | assumption); have hx54 := bt_at a1 qc; replace p54 := eq_true p54; replace q54 := eq_true q54; have p58 : 0 ≤ ((ji55) : Int) := of_decide_eq_true (by first | (with_reducible assumption) | assumption); have q58 : ((ji55) : Int) < ((qd.length : Int) : Int) := of_decide_eq_true (by first | (with_reducible assumption) | assumption); obtain ⟨go58, co58, eo58, gb58, gl58, cl58, HG58⟩ := Kd.R_form qg.out (by omega); (first | cases eo58 | (injection eo58 with ea_ en_ ec_; (first | subst ea_ | (injection ea_ with ea_; subst ea_)); subst ec_; clear en_)); have GB58 := Aside0.mk gb58; have GG58 := Aside0.mk HG58; clear gb58 gl58 HG58; obtain ⟨hx58_0, hf58_0⟩ := Kd.R_celln false qg.out ((ji55) : Int) p58 q58; replace p58 := eq_true p58; replace q58 := eq_true q58; have HP61 := Kd.R_putn qg.out ((ji55) : Int) ((bt a0 qa) == (bt a1 qc))
                      rw [← Ny737.out] at HP61
                      have HQ61 := Aside0.mk HP61; clear HP61; refine start_ (n := 24) (S := fun w' => w'.cell? (ad735.add (qc).toNat) = some (.bool true)) (ds := [23]) bm35_0 (by kernel_rfl) rfl rfl (hx735_0) (fun hHeld => ?_); refine with_tabW impl_partMatch.tab18 impl_partMatch.bits18 (fun HT_ HW_ => ?_); generalize wr.drew = w59 at qf qg HB GG58 HQ61 hf58_0 hx58_0 hx735_0 hHeld ⊢; refine pure_ (i := 0) (N := some 54) (v := ?_) (a' := ?_) bm35_1 rfl rfl (any_of HT_.out (by kernel_rfl)) (fun _ _ _ h => h) (Or.inl ⟨by rfl, ?_⟩) ?_ ?_; rotate_left
                      ·intro w'; go_simp; (with_reducible rfl)
                      rotate_left; (·simp only [um35]; rfl); refine pure_ (i := 1) (N := some 55) (v := ?_) (a' := ?_) bm35_2 rfl rfl (any_of HT_.out (by kernel_rfl)) (fun _ _ _ h => h) (Or.inl ⟨by rfl, ?_⟩) ?_ ?_; rotate_left
                      ·intro w'; go_simp; (with_reducible rfl)
                      rotate_left; (·simp only [um35]; rfl); refine pure_ (i := 2) (N := some 56) (v := ?_) (a' := ?_) bm35_3 rfl rfl (any_of HT_.out (by kernel_rfl)) (fun _ _ _ h => h) (Or.inl ⟨by rfl, ?_⟩) ?_ ?_; rotate_left
                      ·intro w'; go_simp; (with_reducible rfl)
                      rotate_left; (·simp only [um35]; rfl); refine pure_ (i := 3) (N := some 57) (v := ?_) (a' := ?_) bm35_4 rfl rfl (any_of HT_.out (by kernel_rfl)) (fun _ _ _ h => h) (Or.inl ⟨by rfl, ?_⟩) ?_ ?_; rotate_left
                      ·intro w'; go_simp; (with_reducible rfl)
                      rotate_left; (·simp only [um35]; rfl); refine pure_ (i := 4) (N := some 58) (v := ?_) (a' := ?_) bm35_5 rfl rfl (any_of HT_.out (by kernel_rfl)) (fun _ _ _ h => h) (Or.inl ⟨by rfl, ?_⟩) ?_ ?_; rotate_left
                      ·intro w'; go_simp; (with_reducible rfl)
                      rotate_left; (·simp only [um35]; rfl); refine pure_ (i := 5) (N := some 59) (v := ?_) (a' := ?_) bm35_6 rfl rfl (any_of HT_.out (by kernel_rfl)) (fun _ _ _ h => h) (Or.inl ⟨by rfl, ?_⟩) ?_ ?_; rotate_left
                      ·intro w'; go_simp; (with_reducible rfl)
                      rotate_left; (·simp only [um35]; rfl); refine take_ (i := 6) (N := some 60) (v := ?_) (a' := ?_) bm35_7 rfl rfl (take_ofW HT_.out HW_.out (by kernel_rfl)) (fun _ _ _ h => h) (Or.inl ⟨by rfl, ?_⟩) hHeld ?_ ?_; rotate_left
                      ·intro w' s0; go_simp; (with_reducible rfl)
                      rotate_left; (·simp only [um35]; rfl); refine pure_ (i := 7) (N := some 61) (v := ?_) (a' := ?_) bm35_8 rfl rfl (any_of HT_.out (by kernel_rfl)) (fun _ _ _ h => h) (Or.inl ⟨by rfl, ?_⟩) ?_ ?_; rotate_left
                      ·intro w'; go_simp; (with_reducible rfl)
                      rotate_left; (·simp only [um35]; rfl); refine pure_ (i := 8) (N := some 62) (v := ?_) (a' := ?_) bm35_9 rfl rfl (any_of HT_.out (by kernel_rfl)) (fun _ _ _ h => h) (Or.inl ⟨by rfl, ?_⟩) ?_ ?_; rotate_left
                      ·intro w'; go_simp; (with_reducible rfl)
                      rotate_left; (·simp only [um35]; rfl); refine pure_ (i := 9) (N := some 63) (v := ?_) (a' := ?_) bm35_10 rfl rfl (any_of HT_.out (by kernel_rfl)) (fun _ _ _ h => h) (Or.inl ⟨by rfl, ?_⟩) ?_ ?_; rotate_left
                      ·intro w'; go_simp; (with_reducible rfl)
                      rotate_left; (·simp only [um35]; rfl); refine take_ (i := 10) (N := some 64) (v := ?_) (a' := ?_) bm35_11 rfl rfl (take_ofW HT_.out HW_.out (by kernel_rfl)) (fun _ _ _ h => h) (Or.inl ⟨by rfl, ?_⟩) hHeld ?_ ?_; rotate_left
                      ·intro w' s0; go_simp; (with_reducible rfl)
                      rotate_left; (·simp only [um35]; rfl); refine pure_ (i := 11) (N := some 65) (v := ?_) (a' := ?_) bm35_12 rfl rfl (any_of HT_.out (by kernel_rfl)) (fun _ _ _ h => h) (Or.inl ⟨by rfl, ?_⟩) ?_ ?_; rotate_left
                      ·intro w'; go_simp; (with_reducible rfl)
                      rotate_left; (·simp only [um35]; rfl); refine pure_ (i := 12) (N := some 66) (v := ?_) (a' := ?_) bm35_13 rfl rfl (any_of HT_.out (by kernel_rfl)) (fun _ _ _ h => h) (Or.inl ⟨by rfl, ?_⟩) ?_ ?_; rotate_left
                      ·intro w'; go_simp; (with_reducible rfl)
                      rotate_left; (·simp only [um35]; rfl); refine pure_ (i := 13) (N := some 67) (v := ?_) (a' := ?_) bm35_14 rfl rfl (any_of HT_.out (by kernel_rfl)) (fun _ _ _ h => h) (Or.inl ⟨by rfl, ?_⟩) ?_ ?_; rotate_left
                      ·intro w'; go_simp; (with_reducible rfl)
                      rotate_left; (·simp only [um35]; rfl); refine pure_ (i := 14) (N := some 68) (v := ?_) (a' := ?_) bm35_15 rfl rfl (any_of HT_.out (by kernel_rfl)) (fun _ _ _ h => h) (Or.inl ⟨by rfl, ?_⟩) ?_ ?_; rotate_left
                      ·intro w'; go_simp; (with_reducible rfl)
                      rotate_left; (·simp only [um35]; rfl); refine pure_ (i := 16) (N := some 70) (v := ?_) (a' := ?_) bm35_25 rfl rfl (any_of HT_.out (by kernel_rfl)) (fun _ _ _ h => h) (Or.inl ⟨by rfl, ?_⟩) ?_ ?_; rotate_left
                      ·intro w'; go_simp; (with_reducible rfl)
                      rotate_left; (·simp only [um35]; rfl); refine pure_ (i := 17) (N := some 71) (v := ?_) (a' := ?_) bm35_26 rfl rfl (any_of HT_.out (by kernel_rfl)) (fun _ _ _ h => h) (Or.inl ⟨by rfl, ?_⟩) ?_ ?_; rotate_left
                      ·intro w'; go_simp; (with_reducible rfl)
                      rotate_left; (·simp only [um35]; rfl); refine take_ (i := 15) (N := some 69) (v := ?_) (a' := ?_) bm35_18 rfl rfl (take_ofW HT_.out HW_.out (by kernel_rfl)) (fun _ _ _ h => h) (Or.inl ⟨by rfl, ?_⟩) hHeld ?_ ?_; rotate_left
                      ·intro w' s0; go_simp; (with_reducible rfl)
                      rotate_left; (·simp only [um35]; rfl); refine take_ (i := 18) (N := some 72) (v := ?_) (a' := ?_) bm35_19 rfl rfl (take_ofW HT_.out HW_.out (by kernel_rfl)) (fun _ _ _ h => h) (Or.inl ⟨by rfl, ?_⟩) hHeld ?_ ?_; rotate_left
                      ·intro w' s0; go_simp; (with_reducible rfl)
                      rotate_left; (·simp only [um35]; rfl); refine pure_ (i := 19) (N := some 73) (v := ?_) (a' := ?_) bm35_20 rfl rfl (any_of HT_.out (by kernel_rfl)) (fun _ _ _ h => h) (Or.inl ⟨by rfl, ?_⟩) ?_ ?_; rotate_left
                      ·intro w'; go_simp; (with_reducible rfl)
                      rotate_left; (·simp only [um35]; rfl); refine pure_ (i := 20) (N := some 74) (v := ?_) (a' := ?_) bm35_21 rfl rfl (any_of HT_.out (by kernel_rfl)) (fun _ _ _ h => h) (Or.inl ⟨by rfl, ?_⟩) ?_ ?_; rotate_left
                      ·intro w'; go_simp; (with_reducible rfl)
                      rotate_left; (·simp only [um35]; rfl); refine pure_ (i := 21) (N := some 75) (v := ?_) (a' := ?_) bm35_22 rfl rfl (any_of HT_.out (by kernel_rfl)) (fun _ _ _ h => h) (Or.inl ⟨by rfl, ?_⟩) ?_ ?_; rotate_left
                      ·intro w'; go_simp; (with_reducible rfl)
                      rotate_left; (·simp only [um35]; rfl); refine pure_ (i := 22) (N := some 76) (v := ?_) (a' := ?_) bm35_23 rfl rfl (any_of HT_.out (by kernel_rfl)) (fun _ _ _ h => h) (Or.inl ⟨by rfl, ?_⟩) ?_ ?_; rotate_left
                      ·intro w'; go_simp; (with_reducible rfl)
                      rotate_left; (·simp only [um35]; rfl)
                      refine last_ (i := 23) (N := none) bm35_24 rfl rfl (one_of HT_.out (by kernel_rfl)) (by decide) (fun K hK => ?_); refine skip_ (w1 := ?_) (by rfl) rfl ?_ ?_; rotate_left
                      ·go_simp; rfl
                      refine hK.out _ _ ?_; clear hK K; refine done_ (done_of HT_.out (by kernel_rfl)) ?_
                      try go_wp2
                      go_roundg k2
                      case measure => have := HK1.out; have := HK2.out; omega
                      case rel => exact ⟨(y737), (ji55), (by first | rfl | (simp; done) | (simp only [← hji55] <;> (first | rfl | simp)) | (simp [*]; done)), (by first | exact H' | (subst hji55; exact H') | (simp only [← hji55] at H' ⊢; exact H')), ⟨by have := HK1.out; have := HK2.out; omega⟩, ⟨by (with_reducible repeat (first | apply Kd.R_alloc | apply Kd.R_drewN | apply Kd.R_drew)); exact Kd.R_mono (Kd.R_far (p := ⟨go58, ((ji55) : Int).toNat, none⟩) (Kd.R_mono qf.out (fun k_ hk => (⟨hk, fun e_ => hk (by rw [e_]; rfl)⟩ : _ ∧ k_ ≠ go58))) (fun _ hk => hk.2) (.bool ((bt a0 qa) == (bt a1 qc)))) (fun _ hk => hk.1)⟩, ⟨by (with_reducible repeat (first | apply Kd.R_alloc | apply Kd.R_drewN | apply Kd.R_drew)); exact HQ61.out⟩, ⟨by repeat (first | (with_reducible first | exact HB.out | apply below_alloc | apply pw_below_drewN | apply below_drew1 | refine below_set ?_ GB58.out) | exact HB.out)⟩⟩
                     ·rw [if_neg c57] at H
                      exact absurd H (by simp)
                    ·rw [if_neg c56] at H
                     exact absurd H (by simp)
                  ·rw [if_neg c43] at H
                   exact absurd H (by simp)
                 ·rw [if_neg c42] at H
                  exact absurd H (by simp)
                ·replace c41 := Bool.eq_false_iff.mpr c41; subst c41
                 have H1 : (if 0 ≤ (wrap64 (qc + 1)) then (if (wrap64 (qc + 1)) < (qd.length : Int) then (impl_partMatch.l2 k2 a0 a1 qb qa (qd.set ((wrap64 (qc + 1)) : Int).toNat false) (wrap64 (qc + 1))) else (none)) else (none)) = some r := by rw [if_neg (show ¬ (false = true) by decide)] at H; exact H
                 clear H; have H := H1; clear H1
                 obtain ⟨ji62, hji62⟩ : ∃ j_ : Int, (wrap64 (qc + 1)) = j_ := ⟨_, rfl⟩
                 (try clear hji46w); (try clear hji55w); (try clear hji46); (try clear hji55)
                 replace H : (if 0 ≤ (ji62) then (if (ji62) < (qd.length : Int) then (impl_partMatch.l2 k2 a0 a1 qb qa (qd.set ((ji62) : Int).toNat false) ji62) else (none)) else (none)) = some r := by first | (rw [hji62] at H; exact H) | (simp only [hji62] at H ⊢; exact H)
                 have hji62w : (IntKind.i64.wrap (qc + 1)) = ji62 := (i64_w _).trans hji62
                 by_cases c63 : 0 ≤ (ji62)
                 ·rw [if_pos c63] at H
                  have c63b0 : decide (0 ≤ (ji62)) = true := decide_eq_true c63; clear c63
                  by_cases c64 : (ji62) < (qd.length : Int)
                  ·rw [if_pos c64] at H
                   have c64b0 : decide ((ji62) < (qd.length : Int)) = true := decide_eq_true c64; clear c64
                   obtain ⟨y738, hy738⟩ : ∃ y_ : List Bool, y_ = (qd.set ((ji62) : Int).toNat false) := ⟨_, rfl⟩
                   replace H : (impl_partMatch.l2 k2 a0 a1 qb qa y738 ji62) = some r := by first | (rw [hy738]; with_reducible exact H) | (have H2_ := (Option.bind_some _ _).symm.trans H; rw [hy738]; with_reducible exact H2_) | (have H2_ := (Option.bind_some _ _).symm.trans H; with_reducible exact H2_) | with_reducible exact H | (rw [hy738]; exact H) | exact H
                   have Ny738 := Aside0.mk hy738; clear hy738; have H' := Aside0.mk H; clear H
                   try go_wp2
                   have n0_ := Aside0.mk (Kd.R_drew qf.out); have n1_ := Aside0.mk (Kd.R_drew qg.out); have n2_ := Aside0.mk (below_drew1 HB.out); clear qf; clear qg; clear HB; have qf := n0_; have qg := n1_; have HB := n2_; clear n0_ n1_ n2_; obtain ⟨Ao67, co67, eo67⟩ := Kd.R_slice qf.out; (first | subst eo67 | (injection eo67 with f1_ f2_ f3_; have f4_ := f1_.symm; have f5_ := f3_.symm; clear f1_ f2_ f3_; subst f4_; subst f5_)); have p735 : 0 ≤ (qc : Int) := of_decide_eq_true (by first | (with_reducible assumption) | assumption); have q735 : qc < (qb.length : Int) := of_decide_eq_true (by first | (with_reducible assumption) | assumption); obtain ⟨ad735, e735, hx735_0⟩ := Kd.at_bool (Kd.R_reads' qf.out).2.2 qc p735 q735; (try rw [← Nbq40.out] at hx735_0)
                   cases e735
                   replace p735 := eq_true p735; replace q735 := eq_true q735; have p65 : 0 ≤ ((ji62) : Int) := of_decide_eq_true (by first | (with_reducible assumption) | assumption); have q65 : ((ji62) : Int) < ((qd.length : Int) : Int) := of_decide_eq_true (by first | (with_reducible assumption) | assumption); obtain ⟨go65, co65, eo65, gb65, gl65, cl65, HG65⟩ := Kd.R_form qg.out (by omega); (first | cases eo65 | (injection eo65 with ea_ en_ ec_; (first | subst ea_ | (injection ea_ with ea_; subst ea_)); subst ec_; clear en_)); have GB65 := Aside0.mk gb65; have GG65 := Aside0.mk HG65; clear gb65 gl65 HG65; obtain ⟨hx65_0, hf65_0⟩ := Kd.R_celln false qg.out ((ji62) : Int) p65 q65; replace p65 := eq_true p65; replace q65 := eq_true q65; have HP68 := Kd.R_putn qg.out ((ji62) : Int) false
                   rw [← Ny738.out] at HP68
                   have HQ68 := Aside0.mk HP68; clear HP68; refine start_ (n := 24) (S := fun w' => w'.cell? (ad735.add (qc).toNat) = some (.bool false)) (ds := [23]) bm35_0 (by kernel_rfl) rfl rfl (hx735_0) (fun hHeld => ?_); refine with_tabW impl_partMatch.tab18 impl_partMatch.bits18 (fun HT_ HW_ => ?_); generalize wr.drew = w66 at qf qg HB GG65 HQ68 hf65_0 hx65_0 hx735_0 hHeld ⊢; refine pure_ (i := 0) (N := some 54) (v := ?_) (a' := ?_) bm35_1 rfl rfl (any_of HT_.out (by kernel_rfl)) (fun _ _ _ h => h) (Or.inl ⟨by rfl, ?_⟩) ?_ ?_; rotate_left
                   ·intro w'; go_simp; (with_reducible rfl)
                   rotate_left; (·simp only [um35]; rfl); refine pure_ (i := 1) (N := some 55) (v := ?_) (a' := ?_) bm35_2 rfl rfl (any_of HT_.out (by kernel_rfl)) (fun _ _ _ h => h) (Or.inl ⟨by rfl, ?_⟩) ?_ ?_; rotate_left
                   ·intro w'; go_simp; (with_reducible rfl)
                   rotate_left; (·simp only [um35]; rfl); refine pure_ (i := 2) (N := some 56) (v := ?_) (a' := ?_) bm35_3 rfl rfl (any_of HT_.out (by kernel_rfl)) (fun _ _ _ h => h) (Or.inl ⟨by rfl, ?_⟩) ?_ ?_; rotate_left
                   ·intro w'; go_simp; (with_reducible rfl)
                   rotate_left; (·simp only [um35]; rfl); refine pure_ (i := 3) (N := some 57) (v := ?_) (a' := ?_) bm35_4 rfl rfl (any_of HT_.out (by kernel_rfl)) (fun _ _ _ h => h) (Or.inl ⟨by rfl, ?_⟩) ?_ ?_; rotate_left
                   ·intro w'; go_simp; (with_reducible rfl)
                   rotate_left; (·simp only [um35]; rfl); refine pure_ (i := 4) (N := some 58) (v := ?_) (a' := ?_) bm35_5 rfl rfl (any_of HT_.out (by kernel_rfl)) (fun _ _ _ h => h) (Or.inl ⟨by rfl, ?_⟩) ?_ ?_; rotate_left
                   ·intro w'; go_simp; (with_reducible rfl)
                   rotate_left; (·simp only [um35]; rfl); refine pure_ (i := 5) (N := some 59) (v := ?_) (a' := ?_) bm35_6 rfl rfl (any_of HT_.out (by kernel_rfl)) (fun _ _ _ h => h) (Or.inl ⟨by rfl, ?_⟩) ?_ ?_; rotate_left
                   ·intro w'; go_simp; (with_reducible rfl)
                   rotate_left; (·simp only [um35]; rfl); refine take_ (i := 6) (N := some 60) (v := ?_) (a' := ?_) bm35_7 rfl rfl (take_ofW HT_.out HW_.out (by kernel_rfl)) (fun _ _ _ h => h) (Or.inl ⟨by rfl, ?_⟩) hHeld ?_ ?_; rotate_left
                   ·intro w' s0; go_simp; (with_reducible rfl)
                   rotate_left; (·simp only [um35]; rfl); refine pure_ (i := 7) (N := some 61) (v := ?_) (a' := ?_) bm35_8 rfl rfl (any_of HT_.out (by kernel_rfl)) (fun _ _ _ h => h) (Or.inl ⟨by rfl, ?_⟩) ?_ ?_; rotate_left
                   ·intro w'; go_simp; (with_reducible rfl)
                   rotate_left; (·simp only [um35]; rfl); refine pure_ (i := 8) (N := some 62) (v := undef) (a' := ?_) bm35_9 rfl rfl (any_of HT_.out (by kernel_rfl)) (fun _ _ _ h => h) (Or.inr ⟨by rfl, rfl⟩) ?_ ?_; rotate_left; (·simp only [um35]; rfl); refine pure_ (i := 9) (N := some 63) (v := undef) (a' := ?_) bm35_10 rfl rfl (any_of HT_.out (by kernel_rfl)) (fun _ _ _ h => h) (Or.inr ⟨by rfl, rfl⟩) ?_ ?_; rotate_left; (·simp only [um35]; rfl); refine pure_ (i := 10) (N := some 64) (v := undef) (a' := ?_) bm35_11 rfl rfl (any_of HT_.out (by kernel_rfl)) (fun _ _ _ h => h) (Or.inr ⟨by rfl, rfl⟩) ?_ ?_; rotate_left; (·simp only [um35]; rfl); refine pure_ (i := 11) (N := some 65) (v := undef) (a' := ?_) bm35_12 rfl rfl (any_of HT_.out (by kernel_rfl)) (fun _ _ _ h => h) (Or.inr ⟨by rfl, rfl⟩) ?_ ?_; rotate_left; (·simp only [um35]; rfl); refine pure_ (i := 12) (N := some 66) (v := undef) (a' := ?_) bm35_13 rfl rfl (any_of HT_.out (by kernel_rfl)) (fun _ _ _ h => h) (Or.inr ⟨by rfl, rfl⟩) ?_ ?_; rotate_left; (·simp only [um35]; rfl); refine pure_ (i := 13) (N := some 67) (v := undef) (a' := ?_) bm35_14 rfl rfl (any_of HT_.out (by kernel_rfl)) (fun _ _ _ h => h) (Or.inr ⟨by rfl, rfl⟩) ?_ ?_; rotate_left; (·simp only [um35]; rfl); refine pure_ (i := 14) (N := some 68) (v := undef) (a' := ?_) bm35_15 rfl rfl (any_of HT_.out (by kernel_rfl)) (fun _ _ _ h => h) (Or.inr ⟨by rfl, rfl⟩) ?_ ?_; rotate_left; (·simp only [um35]; rfl); refine pure_ (i := 15) (N := some 69) (v := undef) (a' := ?_) bm35_16 rfl rfl (any_of HT_.out (by kernel_rfl)) (fun _ _ _ h => h) (Or.inr ⟨by rfl, rfl⟩) ?_ ?_; rotate_left; (·simp only [um35]; rfl); refine pure_ (i := 16) (N := some 70) (v := undef) (a' := ?_) bm35_17 rfl rfl (any_of HT_.out (by kernel_rfl)) (fun _ _ _ h => h) (Or.inr ⟨by rfl, rfl⟩) ?_ ?_; rotate_left; (·simp only [um35]; rfl); refine pure_ (i := 17) (N := some 71) (v := undef) (a' := ?_) bm35_18 rfl rfl (any_of HT_.out (by kernel_rfl)) (fun _ _ _ h => h) (Or.inr ⟨by rfl, rfl⟩) ?_ ?_; rotate_left; (·simp only [um35]; rfl); refine pure_ (i := 18) (N := some 72) (v := undef) (a' := ?_) bm35_19 rfl rfl (any_of HT_.out (by kernel_rfl)) (fun _ _ _ h => h) (Or.inr ⟨by rfl, rfl⟩) ?_ ?_; rotate_left; (·simp only [um35]; rfl); refine pure_ (i := 19) (N := some 73) (v := undef) (a' := ?_) bm35_20 rfl rfl (any_of HT_.out (by kernel_rfl)) (fun _ _ _ h => h) (Or.inr ⟨by rfl, rfl⟩) ?_ ?_; rotate_left; (·simp only [um35]; rfl); refine pure_ (i := 20) (N := some 74) (v := undef) (a' := ?_) bm35_21 rfl rfl (any_of HT_.out (by kernel_rfl)) (fun _ _ _ h => h) (Or.inr ⟨by rfl, rfl⟩) ?_ ?_; rotate_left; (·simp only [um35]; rfl); refine pure_ (i := 21) (N := some 75) (v := ?_) (a' := ?_) bm35_22 rfl rfl (any_of HT_.out (by kernel_rfl)) (fun _ _ _ h => h) (Or.inl ⟨by rfl, ?_⟩) ?_ ?_; rotate_left
                   ·intro w'; go_simp; (with_reducible rfl)
                   rotate_left; (·simp only [um35]; rfl); refine pure_ (i := 22) (N := some 76) (v := ?_) (a' := ?_) bm35_23 rfl rfl (any_of HT_.out (by kernel_rfl)) (fun _ _ _ h => h) (Or.inl ⟨by rfl, ?_⟩) ?_ ?_; rotate_left
                   ·intro w'; go_simp; (with_reducible rfl)
                   rotate_left; (·simp only [um35]; rfl)
                   refine last_ (i := 23) (N := none) bm35_24 rfl rfl (one_of HT_.out (by kernel_rfl)) (by decide) (fun K hK => ?_); refine skip_ (w1 := ?_) (by rfl) rfl ?_ ?_; rotate_left
                   ·go_simp; rfl
                   refine hK.out _ _ ?_; clear hK K; refine done_ (done_of HT_.out (by kernel_rfl)) ?_
                   try go_wp2
                   go_roundg k2
                   case measure => have := HK1.out; have := HK2.out; omega
                   case rel => exact ⟨(y738), (ji62), (by first | rfl | (simp; done) | (simp only [← hji62] <;> (first | rfl | simp)) | (simp [*]; done)), (by first | exact H' | (subst hji62; exact H') | (simp only [← hji62] at H' ⊢; exact H')), ⟨by have := HK1.out; have := HK2.out; omega⟩, ⟨by (with_reducible repeat (first | apply Kd.R_alloc | apply Kd.R_drewN | apply Kd.R_drew)); exact Kd.R_mono (Kd.R_far (p := ⟨go65, ((ji62) : Int).toNat, none⟩) (Kd.R_mono qf.out (fun k_ hk => (⟨hk, fun e_ => hk (by rw [e_]; rfl)⟩ : _ ∧ k_ ≠ go65))) (fun _ hk => hk.2) (.bool false)) (fun _ hk => hk.1)⟩, ⟨by (with_reducible repeat (first | apply Kd.R_alloc | apply Kd.R_drewN | apply Kd.R_drew)); exact HQ68.out⟩, ⟨by repeat (first | (with_reducible first | exact HB.out | apply below_alloc | apply pw_below_drewN | apply below_drew1 | refine below_set ?_ GB65.out) | exact HB.out)⟩⟩
                  ·rw [if_neg c64] at H
                   exact absurd H (by simp)
                 ·rw [if_neg c63] at H
                  exact absurd H (by simp)
               ·rw [if_neg c39] at H
                exact absurd H (by simp)
              ·rw [if_neg c38] at H
               exact absurd H (by simp)
             ·rw [if_neg c37] at H
              have c37b0 : decide (qc < (a1.size : Int)) = false := decide_eq_false c37; clear c37; have H' := Aside0.mk H; clear H
              go_wp2
              go_roundg k2
              case measure => have := HK1.out; have := HK2.out; omega
              case rel => exact ⟨(qd), (wrap64 (qa + 1)), (by first | rfl | (simp; done) | (simp [*]; done)), H', ⟨by have := HK1.out; have := HK2.out; omega⟩, ⟨by (with_reducible repeat (first | apply Kd.R_alloc | apply Kd.R_drewN | apply Kd.R_drew)); exact Kd.R_mono qg.out (fun _ hk => trivial)⟩, ⟨by repeat (first | (with_reducible first | exact HB.out | apply below_alloc | apply pw_below_drewN | apply below_drew1) | exact HB.out)⟩⟩
         ·rw [if_neg c16] at H
          exact absurd H (by simp)
        ·rw [if_neg c15] at H
         exact absurd H (by simp)
       ·rw [if_neg c14] at H
        exact absurd H (by simp)
      ·rw [if_neg c12] at H
       have c12b0 : decide (qa < (a0.size : Int)) = false := decide_eq_false c12; clear c12
       by_cases c69 : 0 ≤ (a1.size : Int)
       ·rw [if_pos c69] at H
        have c69b0 : decide (0 ≤ (a1.size : Int)) = true := decide_eq_true c69; have c69b1 : decide (0 ≤ a1.size) = true := decide_eq_true (by omega); clear c69
        by_cases c70 : (a1.size : Int) < (qb.length : Int)
        ·rw [if_pos c70] at H
         have c70b0 : decide ((a1.size : Int) < (qb.length : Int)) = true := decide_eq_true c70; have c70b1 : decide (a1.size < qb.length) = true := decide_eq_true (Int.ofNat_lt.mp c70); clear c70; obtain rfl := Option.some.inj H; obtain ⟨Ao71, co71, eo71⟩ := Kd.R_slice qf.out; subst eo71; have p728 : 0 ≤ ((a1.size : Int) : Int) := of_decide_eq_true (by first | (with_reducible assumption) | assumption); have q728 : (a1.size : Int) < (qb.length : Int) := of_decide_eq_true (by first | (with_reducible assumption) | assumption); obtain ⟨ad728, e728, hx728_0⟩ := Kd.at_bool (Kd.R_reads' qf.out).2.2 (a1.size : Int) p728 q728
         cases e728
         all_goals (try simp only [Int.toNat_natCast] at hx728_0)
         replace p728 := eq_true p728; replace q728 := eq_true q728
         go_wp2
         go_ret
         exact ⟨by first | rfl | (simp [errW_none, errW_some] <;> rfl) | (simp only [← hji3]; first | rfl | (simp [errW_none, errW_some] <;> rfl)) | (simp [*, errW_none, errW_some] <;> rfl), by repeat (first | (with_reducible first | exact HB.out | apply below_alloc | apply pw_below_drewN | apply below_drew1) | exact HB.out)⟩
        ·rw [if_neg c70] at H
         exact absurd H (by simp)
       ·rw [if_neg c69] at H
        exact absurd H (by simp)
   ·rw [if_neg c6] at H
    exact absurd H (by simp)
  ·rw [if_neg c5] at H
   exact absurd H (by simp)
 ·rw [if_neg c4] at H
  exact absurd H (by simp)

end Go.Proofs.YtkdghhkpmkfjhaaDoor.P


namespace Go.Proofs.YtkdghhkpmkfjhaaDoor.P
open Go.RowKit Go.Proofs.YtkdghhkpmkfjhaaDoorW.PrintWords Go.Proofs.YtkdghhkpmkfjhaaDoorW.PrintLast Go.Proofs.YtkdghhkpmkfjhaaDoorW.PrintMore
attribute [local go_sem] max2_int min2_int max_two min_two max_three min_three max_four min_four
set_option linter.unusedVariables false
set_option linter.unusedSimpArgs false

abbrev tm36 := true
abbrev fm36 := false
abbrev bm36_0 : Array Bool := #[fm36, fm36, fm36, fm36, fm36, fm36, fm36, fm36, fm36, fm36, fm36, fm36, fm36, fm36, fm36, fm36, fm36, fm36, fm36, fm36]
abbrev bm36_1 : Array Bool := #[tm36, fm36, fm36, fm36, fm36, fm36, fm36, fm36, fm36, fm36, fm36, fm36, fm36, fm36, fm36, fm36, fm36, fm36, fm36, fm36]
abbrev bm36_2 : Array Bool := #[tm36, tm36, fm36, fm36, fm36, fm36, fm36, fm36, fm36, fm36, fm36, fm36, fm36, fm36, fm36, fm36, fm36, fm36, fm36, fm36]
abbrev bm36_3 : Array Bool := #[tm36, tm36, tm36, fm36, fm36, fm36, fm36, fm36, fm36, fm36, fm36, fm36, fm36, fm36, fm36, fm36, fm36, fm36, fm36, fm36]
abbrev bm36_4 : Array Bool := #[tm36, tm36, tm36, tm36, fm36, fm36, fm36, fm36, fm36, fm36, fm36, fm36, fm36, fm36, fm36, fm36, fm36, fm36, fm36, fm36]
abbrev bm36_5 : Array Bool := #[tm36, tm36, tm36, tm36, tm36, fm36, fm36, fm36, fm36, fm36, fm36, fm36, fm36, fm36, fm36, fm36, fm36, fm36, fm36, fm36]
abbrev bm36_6 : Array Bool := #[tm36, tm36, tm36, tm36, tm36, tm36, fm36, fm36, fm36, fm36, fm36, fm36, fm36, fm36, fm36, fm36, fm36, fm36, fm36, fm36]
abbrev bm36_7 : Array Bool := #[tm36, tm36, tm36, tm36, tm36, tm36, fm36, tm36, fm36, fm36, fm36, fm36, fm36, fm36, fm36, fm36, fm36, fm36, fm36, fm36]
abbrev bm36_8 : Array Bool := #[tm36, tm36, tm36, tm36, tm36, tm36, fm36, tm36, tm36, fm36, fm36, fm36, fm36, fm36, fm36, fm36, fm36, fm36, fm36, fm36]
abbrev bm36_9 : Array Bool := #[tm36, tm36, tm36, tm36, tm36, tm36, tm36, tm36, tm36, fm36, fm36, fm36, fm36, fm36, fm36, fm36, fm36, fm36, fm36, fm36]
abbrev bm36_10 : Array Bool := #[tm36, tm36, tm36, tm36, tm36, tm36, tm36, tm36, tm36, tm36, fm36, fm36, fm36, fm36, fm36, fm36, fm36, fm36, fm36, fm36]
abbrev bm36_11 : Array Bool := #[tm36, tm36, tm36, tm36, tm36, tm36, tm36, tm36, tm36, tm36, tm36, fm36, fm36, fm36, fm36, fm36, fm36, fm36, fm36, fm36]
abbrev bm36_12 : Array Bool := #[tm36, tm36, tm36, tm36, tm36, tm36, tm36, tm36, tm36, tm36, tm36, tm36, fm36, fm36, fm36, fm36, fm36, fm36, fm36, fm36]
abbrev bm36_13 : Array Bool := #[tm36, tm36, tm36, tm36, tm36, tm36, tm36, tm36, tm36, tm36, tm36, tm36, tm36, fm36, fm36, fm36, fm36, fm36, fm36, fm36]
abbrev bm36_14 : Array Bool := #[tm36, tm36, tm36, tm36, tm36, tm36, tm36, tm36, tm36, tm36, tm36, tm36, tm36, tm36, fm36, fm36, fm36, fm36, fm36, fm36]
abbrev bm36_15 : Array Bool := #[tm36, tm36, tm36, tm36, tm36, tm36, tm36, tm36, tm36, tm36, tm36, tm36, tm36, tm36, tm36, fm36, fm36, fm36, fm36, fm36]
abbrev bm36_16 : Array Bool := #[tm36, tm36, tm36, tm36, tm36, tm36, tm36, tm36, tm36, tm36, tm36, tm36, tm36, tm36, tm36, tm36, fm36, fm36, fm36, fm36]
abbrev bm36_17 : Array Bool := #[tm36, tm36, tm36, tm36, tm36, tm36, tm36, tm36, tm36, tm36, tm36, tm36, tm36, tm36, tm36, tm36, tm36, fm36, fm36, fm36]
abbrev bm36_18 : Array Bool := #[tm36, tm36, tm36, tm36, tm36, tm36, tm36, tm36, tm36, tm36, tm36, tm36, tm36, tm36, tm36, tm36, tm36, tm36, fm36, fm36]
abbrev bm36_19 : Array Bool := #[tm36, tm36, tm36, tm36, tm36, tm36, tm36, tm36, tm36, tm36, tm36, tm36, tm36, tm36, tm36, tm36, tm36, tm36, tm36, fm36]
abbrev bm36_20 : Array Bool := #[tm36, tm36, tm36, tm36, tm36, tm36, tm36, tm36, tm36, tm36, tm36, tm36, tm36, tm36, tm36, tm36, tm36, tm36, tm36, tm36]
abbrev bm36_21 : Array Bool := #[tm36, tm36, tm36, tm36, tm36, tm36, tm36, fm36, fm36, fm36, fm36, fm36, fm36, fm36, fm36, fm36, fm36, fm36, fm36, fm36]
abbrev bm36_22 : Array Bool := #[tm36, tm36, tm36, tm36, tm36, tm36, tm36, tm36, fm36, fm36, fm36, fm36, fm36, fm36, fm36, fm36, fm36, fm36, fm36, fm36]
theorem um36 : (∀ (a : Act) (d : Tmp) (v : Value), Act.put a (some d) v = { a with tmps := a.tmps.setIfInBounds d v }) ∧ (∀ (l : List Value) (i : Nat) (a : Value), l.toArray.setIfInBounds i a = (l.set i a).toArray) ∧ (∀ (x : Value) (l : List Value) (a : Value), (x :: l).set 0 a = a :: l) ∧ (∀ (x : Value) (l : List Value) (i : Nat) (a : Value), (x :: l).set (i + 1) a = x :: l.set i a) ∧ (∀ n : Int, IntKind.i64.wrap n = wrap64 n) := ⟨fun _ _ _ => rfl, fun l i a => List.setIfInBounds_toArray l i a, fun _ _ _ => rfl, fun _ _ _ _ => rfl, i64_w⟩
/-! ### impl_matchParts: function 88 -/
mutual
def impl_matchParts.l0 : Nat → List ByteArray → List ByteArray → Int → Option (Bool)
 | 0, _, _, _ => none
 | k + 1, x0, x1, x5 => if x5 ≤ (x1.length : Int) then (if 1 ≤ (x0.length : Int) then (if 0 ≤ x5 then ((impl_matchParts.f k (x0.drop 1) (x1.drop (x5 : Int).toNat)).bind fun t742 => (if t742 = true then (some true) else (impl_matchParts.l0 k x0 x1 (wrap64 (x5 + 1))))) else (none)) else (none)) else (some false)
def impl_matchParts.f : Nat → List ByteArray → List ByteArray → Option (Bool)
 | 0, _, _ => none
 | k + 1, l0, l1 => if (l0.length : Int) = 0 then (some ((l1.length : Int) == 0)) else (if 0 < (l0.length : Int) then (if (rdOf ByteArray.empty l0 0).toList = ([42, 42] : List UInt8) then (impl_matchParts.l0 k l0 l1 0) else (if (l1.length : Int) > 0 then (if 0 < (l1.length : Int) then ((impl_partMatch.f k (rdOf ByteArray.empty l0 0) (rdOf ByteArray.empty l1 0)).bind fun t745 => (if t745 = true then (if 1 ≤ (l0.length : Int) then (if 1 ≤ (l1.length : Int) then ((impl_matchParts.f k (l0.drop 1) (l1.drop 1)).bind fun t748 => (some t748)) else (none)) else (none)) else (some false))) else (none)) else (some false))) else (none))
end
theorem impl_matchParts.mono_l : ∀ k, (∀ y0 y1, LeO (impl_matchParts.f k y0 y1) (impl_matchParts.f (k + 1) y0 y1)) ∧ (∀ y0 y1 y2, LeO (impl_matchParts.l0 k y0 y1 y2) (impl_matchParts.l0 (k + 1) y0 y1 y2))
 | 0 => ⟨fun _ _ r h => by simp [impl_matchParts.f] at h, fun _ _ _ r h => by simp [impl_matchParts.l0] at h⟩
 | k + 1 => by
  obtain ⟨ih0, ih1⟩ := impl_matchParts.mono_l k; refine ⟨?_, ?_⟩
  ·intro y0 y1
   unfold impl_matchParts.f
   repeat' first
   | (with_reducible exact ih0 _ _)
   | (with_reducible exact ih1 _ _ _)
   | (with_reducible exact impl_partMatch.mono _ _ _)
   | (with_reducible exact LeO.refl _)
   | (with_reducible exact LeO.none _)
   | (with_reducible refine LeO.ite ?_ ?_)
   | (with_reducible refine LeO.bind ?_ (fun _ => ?_))
   | exact ih0 _ _
   | exact ih1 _ _ _
   | exact impl_partMatch.mono _ _ _
   | exact LeO.none _
   | refine LeO.ite ?_ ?_
   | refine LeO.bind ?_ (fun _ => ?_)
  ·intro y0 y1 y2
   unfold impl_matchParts.l0
   repeat' first
   | (with_reducible exact ih0 _ _)
   | (with_reducible exact ih1 _ _ _)
   | (with_reducible exact impl_partMatch.mono _ _ _)
   | (with_reducible exact LeO.refl _)
   | (with_reducible exact LeO.none _)
   | (with_reducible refine LeO.ite ?_ ?_)
   | (with_reducible refine LeO.bind ?_ (fun _ => ?_))
   | exact ih0 _ _
   | exact ih1 _ _ _
   | exact impl_partMatch.mono _ _ _
   | exact LeO.none _
   | refine LeO.ite ?_ ?_
   | refine LeO.bind ?_ (fun _ => ?_)
theorem impl_matchParts.mono : ∀ a0 a1 k, LeO (impl_matchParts.f k a0 a1) (impl_matchParts.f (k + 1) a0 a1) := by
 intro a0 a1 k; obtain ⟨ih0, ih1⟩ := impl_matchParts.mono_l k; exact ih0 a0 a1
def impl_matchParts.T10 : Bool × List (List Nat × List Nat) := (true, [([], []), ([0], [0]), ([1], [1]), ([2], [2]), ([3], [3]), ([4, 3], [3, 4]), ([5, 3], [3, 5]), ([3], [3]), ([7, 3], [3, 7]), ([8, 3], [3, 8]), ([6, 9, 3, 3], [3, 6, 9]), ([3, 10], [3, 10]), ([11, 10], [11]), ([12], [12]), ([13, 12], [12, 13]), ([12], [12]), ([15, 12], [12, 15]), ([14, 16, 12, 12], [12, 14, 16]), ([12, 17], [12, 17]), ([18, 17, 0, 1, 2, 3, 4, 5, 6, 7, 8, 9, 10, 11, 12, 13, 14, 15, 16, 17, 18], [18])])
def impl_matchParts.B10 : List Nat := [0, 1, 3, 7, 15, 31, 63, 15, 143, 399, 1023, 2047, 4095, 8191, 16383, 8191, 40959, 131071, 262143, 524287]
theorem impl_matchParts.tab10 : rtab .any (opsOf Tryd.f88 10) = impl_matchParts.T10 := by kernel_rfl
theorem impl_matchParts.bits10 : waitsOk impl_matchParts.T10.2 impl_matchParts.B10 = true := by kernel_rfl
set_option maxHeartbeats 8000000 in
set_option maxRecDepth 100000 in
theorem impl_matchParts.calls (k : Nat) : ∀ (A0 : Option Addr) (c0 : Nat) (l0 : List ByteArray) (A1 : Option Addr) (c1 : Nat) (l1 : List ByteArray) (r : Bool) (w : World) (hr0 : Kd.C Kd.string w A0 l0.length l0) (hc0 : l0.length ≤ c0) (hr1 : Kd.C Kd.string w A1 l1.length l1) (hc1 : l1.length ≤ c1) (h : impl_matchParts.f k l0 l1 = some r),
  Calls Tryd.prog 88 #[.slice A0 l0.length c0, .slice A1 l1.length c1] w fun e w' => e = .returned (.bool r) ∧ Below w.heap.size w w' := by
 induction k using Nat.strongRecOn with
 | _ k ih =>
 intro A0 c0 l0 A1 c1 l1 r w hr0 hc0 hr1 hc1 h
 cases k with
 | zero => exact absurd h (by simp [impl_matchParts.f])
 | succ k =>
 simp only [impl_matchParts.f] at h; have HR0 := Aside0.mk hr0; have HC0 := Aside0.mk hc0; clear hr0 hc0; have HR1 := Aside0.mk hr1; have HC1 := Aside0.mk hc1; clear hr1 hc1; have HB := Aside0.mk (Below.refl w.heap.size w); have H : (if (l0.length : Int) = 0 then (some ((l1.length : Int) == 0)) else (if 0 < (l0.length : Int) then (if (rdOf ByteArray.empty l0 0).toList = ([42, 42] : List UInt8) then (impl_matchParts.l0 k l0 l1 0) else (if (l1.length : Int) > 0 then (if 0 < (l1.length : Int) then ((impl_partMatch.f k (rdOf ByteArray.empty l0 0) (rdOf ByteArray.empty l1 0)).bind fun t745 => (if t745 = true then (if 1 ≤ (l0.length : Int) then (if 1 ≤ (l1.length : Int) then ((impl_matchParts.f k (l0.drop 1) (l1.drop 1)).bind fun t748 => (some t748)) else (none)) else (none)) else (some false))) else (none)) else (some false))) else (none))) = some r := h; clear h
 by_cases c3 : (l0.length : Int) = 0
 ·rw [if_pos c3] at H
  have c3b0 : ((l0.length : Int) == 0) = true := beq_iff_eq.mpr c3; have c3b1 : ((l0.length : Int) != 0) = false := bne_eq_false_iff_eq.mpr c3; clear c3; obtain rfl := Option.some.inj H
  go_enter Tryd.func88, Tryd.ntmps88
  go_wp2
  go_ret
  exact ⟨by first | rfl | (simp [errW_none, errW_some] <;> rfl) | (simp [*, errW_none, errW_some] <;> rfl), by repeat (first | (with_reducible first | exact HB.out | apply below_alloc | apply pw_below_drewN | apply below_drew1) | exact HB.out)⟩
 ·rw [if_neg c3] at H
  have c3b0 : ((l0.length : Int) == 0) = false := beq_eq_false_iff_ne.mpr c3; have c3b1 : ((l0.length : Int) != 0) = true := bne_iff_ne.mpr c3
  have c3b2 : ¬ (l0 = []) := fun h_ => c3 (by rw [h_]; rfl)
  by_cases c4 : 0 < (l0.length : Int)
  ·rw [if_pos c4] at H
   have c4b0 : decide (0 < (l0.length : Int)) = true := decide_eq_true c4; have c4b1 : decide (0 < l0.length) = true := decide_eq_true (by omega); clear c4
   by_cases c5 : (rdOf ByteArray.empty l0 0).toList = ([42, 42] : List UInt8)
   ·rw [if_pos c5] at H
    have c5b0 : ((rdOf ByteArray.empty l0 0).toList == ([42, 42] : List UInt8)) = true := beq_iff_eq.mpr c5; have c5b1 : ((rdOf ByteArray.empty l0 0).toList != ([42, 42] : List UInt8)) = false := bne_eq_false_iff_eq.mpr c5; clear c5; have H' := Aside0.mk H; clear H
    have p739 : 0 ≤ (0 : Int) := (by omega)
    have q739 : 0 < (l0.length : Int) := of_decide_eq_true (by first | (with_reducible assumption) | assumption); obtain ⟨ad739, e739, hx739_0⟩ := Kd.at_string HR0.out 0 p739 q739
    cases e739
    have qi739 : (0 < l0.length) = True := eq_true (by omega); (try rw [show ((0 : Int)).toNat = 0 from rfl] at hx739_0); (try rw [Addr.add_zero'] at hx739_0); replace p739 := eq_true p739; replace q739 := eq_true q739
    go_enter Tryd.func88, Tryd.ntmps88
    go_wp2
    go_loopg [5] k (fun kq v5 w' => ∃ (qa : Int), v5 = .int .i64 qa ∧ Aside0 (impl_matchParts.l0 kq l0 l1 qa = some r) ∧ Aside0 (kq ≤ k) ∧ Aside0 (Below w.heap.size w w'))
    case atStart => exact ⟨(0), (by first | rfl | (simp; done) | (simp [*]; done)), H', ⟨Nat.le_refl _⟩, ⟨by repeat (first | (with_reducible first | exact HB.out | apply below_alloc | apply pw_below_drewN | apply below_drew1) | exact HB.out)⟩⟩
    case round =>
     clear H'; (try clear c1); (try clear p2); (try clear c3); (try clear c3b0); (try clear c3b1); (try clear c3b2); (try clear c4); (try clear c4b0); (try clear c4b1); (try clear c5); (try clear c5b0); (try clear c5b1); (try clear hx739_0); (try clear p739); (try clear q739); obtain ⟨qa, rfl, HA, HK1, HB⟩ := hrel
     cases gk with
     | zero => exact absurd HA.out (by simp [impl_matchParts.l0])
     | succ k1 =>
      have H := HA.out; clear HA; simp only [impl_matchParts.l0] at H
      by_cases c6 : qa ≤ (l1.length : Int)
      ·rw [if_pos c6] at H
       have c6b0 : decide (qa ≤ (l1.length : Int)) = true := decide_eq_true c6; clear c6
       by_cases c7 : 1 ≤ (l0.length : Int)
       ·rw [if_pos c7] at H
        have c7b0 := eq_true c7; have c7b1 : decide (1 ≤ (l0.length : Int)) = true := decide_eq_true c7; clear c7
        by_cases c8 : 0 ≤ qa
        ·rw [if_pos c8] at H
         have c8b0 := eq_true c8; have c8b1 : decide (0 ≤ qa) = true := decide_eq_true c8; clear c8; have c9b0 := eq_true (of_decide_eq_true (by first | (with_reducible assumption) | assumption) : qa ≤ (l1.length : Int)); replace H := Option.bind_eq_some_iff.mp H; obtain ⟨t742, A100, H⟩ := H; replace H : (if t742 = true then (some true) else (impl_matchParts.l0 k1 l0 l1 (wrap64 (qa + 1)))) = some r := H; have A10 := Aside0.mk A100; clear A100
         by_cases c11 : t742 = true
         ·subst c11
          have H1 : (some true) = some r := by rw [if_pos rfl] at H; exact H
          clear H; have H := H1; clear H1; obtain rfl := Option.some.inj H
          try go_wp2
          have n0_ := Aside0.mk (below_drew1 HB.out); clear HB; have HB := n0_; clear n0_; obtain ⟨i013, hi013, _, hsz13, _⟩ := info_parts info9; obtain ⟨A13, hcut13, hA13, hC13⟩ := print_drop_of (P := Tryd.prog) Value.string (⟨#[]⟩ : ByteArray) 56 9 .i64 Tryd.underlying56 hi013 hsz13 (some ad739) c0 l0 1 (by omega) (of_decide_eq_true (by first | (with_reducible assumption) | assumption)) HC0.out; have HR740 := Aside0.mk (Kd.C_of_reads (h1 := fun _ => rfl) (hA13 _ (Kd.reads_of_C HR0.out))); have HC740 := Aside0.mk hC13; clear hA13 hC13 hi013 hsz13; obtain ⟨i014, hi014, _, hsz14, _⟩ := info_parts info9; obtain ⟨A14, hcut14, hA14, hC14⟩ := print_drop_of (P := Tryd.prog) Value.string (⟨#[]⟩ : ByteArray) 56 9 .i64 Tryd.underlying56 hi014 hsz14 A1 c1 l1 qa (of_decide_eq_true (by first | (with_reducible assumption) | assumption)) (of_decide_eq_true (by first | (with_reducible assumption) | assumption)) HC1.out; have HR741 := Aside0.mk (Kd.C_of_reads (h1 := fun _ => rfl) (hA14 _ (Kd.reads_of_C HR1.out))); have HC741 := Aside0.mk hC14; clear hA14 hC14 hi014 hsz14; refine start_ (n := 6) (S := fun w' => True) (ds := []) #[false, false, false, false, false, false] (by kernel_rfl) rfl rfl trivial (fun hHeld => ?_); generalize wr.drew = w12 at HB HR740 HR741 hHeld ⊢; refine pure_ (i := 0) (N := some 22) (v := ?_) (a' := ?_) #[true, false, false, false, false, false] rfl rfl (by kernel_rfl) (fun _ _ _ h => h) (Or.inl ⟨by rfl, ?_⟩) ?_ ?_; rotate_left
          ·intro w'; go_simp; (with_reducible rfl)
          rotate_left; (·simp only [um36]; rfl); refine pure_ (i := 1) (N := some 23) (v := ?_) (a' := ?_) #[true, true, false, false, false, false] rfl rfl (by kernel_rfl) (fun _ _ _ h => h) (Or.inl ⟨by rfl, ?_⟩) ?_ ?_; rotate_left
          ·intro w'; go_simp; (with_reducible rfl)
          rotate_left; (·simp only [um36]; rfl); refine pure_ (i := 2) (N := some 24) (v := ?_) (a' := ?_) #[true, true, true, false, false, false] rfl rfl (by kernel_rfl) (fun _ _ _ h => h) (Or.inl ⟨by rfl, ?_⟩) ?_ ?_; rotate_left
          ·intro w'; go_simp; (with_reducible rfl)
          rotate_left; (·simp only [um36]; rfl); refine pure_ (i := 3) (N := some 25) (v := ?_) (a' := ?_) #[true, true, true, true, false, false] rfl rfl (by kernel_rfl) (fun _ _ _ h => h) (Or.inl ⟨by rfl, ?_⟩) ?_ ?_; rotate_left
          ·intro w'; go_simp; (with_reducible rfl)
          rotate_left; (·simp only [um36]; rfl); refine pure_ (i := 4) (N := some 26) (v := ?_) (a' := ?_) #[true, true, true, true, true, false] rfl rfl (by kernel_rfl) (fun _ _ _ h => h) (Or.inl ⟨by rfl, ?_⟩) ?_ ?_; rotate_left
          ·intro w'; go_simp; (with_reducible rfl)
          rotate_left; (·simp only [um36]; rfl)
          refine one_ (i := 5) (N := some 27) #[true, true, true, true, true, true] rfl rfl (by kernel_rfl) (by decide) (fun K hK => ?_); refine goes_ Tryd.func88 (by kernel_rfl) rfl #[.slice A13 (l0.drop 1).length (c0 - 1), .slice A14 (l1.drop (qa : Int).toNat).length (c1 - qa.toNat)] (by rfl) rfl rfl (by (try simp only [List.map_toArray, List.map_cons, List.map_nil]); first | done | (rw [show (l0.drop 1).length = (l0.length - 1) from List.length_drop] <;> rfl) | (rw [show (l1.drop (qa : Int).toNat).length = (l1.length - qa.toNat) from List.length_drop] <;> rfl) | rfl | (simp only [List.length_drop, List.length_take]; rfl)) ?_; (with_reducible refine (ih k1 (by have := HK1.out; omega) _ _ (l0.drop 1) _ _ (l1.drop (qa : Int).toNat) true _ ?side1 ?side2 ?side3 ?side4 A10.out).mono ?_); (case side1 => repeat (first | exact (Kd.C_below HR740.out HB.out) | (with_reducible refine Kd.C_alloc ?_ _) | (with_reducible refine Kd.C_drewN ?_ _) | (with_reducible refine Kd.C_drew ?_))); (case side2 => exact HC740.out); (case side3 => repeat (first | exact (Kd.C_below HR741.out HB.out) | (with_reducible refine Kd.C_alloc ?_ _) | (with_reducible refine Kd.C_drewN ?_ _) | (with_reducible refine Kd.C_drew ?_))); (case side4 => exact HC741.out); rintro e w15 ⟨rfl, hb⟩; refine ⟨_, rfl, ?_⟩; have n0_ := Aside0.mk (below_step (by repeat (first | (with_reducible first | exact HB.out | apply below_alloc | apply pw_below_drewN | apply below_drew1) | exact HB.out)) hb); clear HB; have HB := n0_; clear n0_; (try clear hb); (try clear hb2); (try clear hk); (try clear hi); refine hK.out _ _ trivial (fun hHeld => ?_); clear hK K; refine norm_ (a' := ?_) ?_ ?_; rotate_left
          ·show Act.put _ (some 27) _ = _
           simp only [um36]; rfl
          refine done_ (by kernel_rfl) ?_
          try go_wp2
          go_ret
          exact ⟨by first | rfl | (simp [errW_none, errW_some] <;> rfl) | (simp [*, errW_none, errW_some] <;> rfl), by repeat (first | (with_reducible first | exact HB.out | apply below_alloc | apply pw_below_drewN | apply below_drew1) | exact HB.out)⟩
         ·replace c11 := Bool.eq_false_iff.mpr c11; subst c11
          have H1 : (impl_matchParts.l0 k1 l0 l1 (wrap64 (qa + 1))) = some r := by rw [if_neg (show ¬ (false = true) by decide)] at H; exact H
          clear H; have H := H1; clear H1; have H' := Aside0.mk H; clear H
          try go_wp2
          have n0_ := Aside0.mk (below_drew1 HB.out); clear HB; have HB := n0_; clear n0_; obtain ⟨i017, hi017, _, hsz17, _⟩ := info_parts info9; obtain ⟨A17, hcut17, hA17, hC17⟩ := print_drop_of (P := Tryd.prog) Value.string (⟨#[]⟩ : ByteArray) 56 9 .i64 Tryd.underlying56 hi017 hsz17 (some ad739) c0 l0 1 (by omega) (of_decide_eq_true (by first | (with_reducible assumption) | assumption)) HC0.out; have HR740 := Aside0.mk (Kd.C_of_reads (h1 := fun _ => rfl) (hA17 _ (Kd.reads_of_C HR0.out))); have HC740 := Aside0.mk hC17; clear hA17 hC17 hi017 hsz17; obtain ⟨i018, hi018, _, hsz18, _⟩ := info_parts info9; obtain ⟨A18, hcut18, hA18, hC18⟩ := print_drop_of (P := Tryd.prog) Value.string (⟨#[]⟩ : ByteArray) 56 9 .i64 Tryd.underlying56 hi018 hsz18 A1 c1 l1 qa (of_decide_eq_true (by first | (with_reducible assumption) | assumption)) (of_decide_eq_true (by first | (with_reducible assumption) | assumption)) HC1.out; have HR741 := Aside0.mk (Kd.C_of_reads (h1 := fun _ => rfl) (hA18 _ (Kd.reads_of_C HR1.out))); have HC741 := Aside0.mk hC18; clear hA18 hC18 hi018 hsz18; refine start_ (n := 6) (S := fun w' => True) (ds := []) #[false, false, false, false, false, false] (by kernel_rfl) rfl rfl trivial (fun hHeld => ?_); generalize wr.drew = w16 at HB HR740 HR741 hHeld ⊢; refine pure_ (i := 0) (N := some 22) (v := ?_) (a' := ?_) #[true, false, false, false, false, false] rfl rfl (by kernel_rfl) (fun _ _ _ h => h) (Or.inl ⟨by rfl, ?_⟩) ?_ ?_; rotate_left
          ·intro w'; go_simp; (with_reducible rfl)
          rotate_left; (·simp only [um36]; rfl); refine pure_ (i := 1) (N := some 23) (v := ?_) (a' := ?_) #[true, true, false, false, false, false] rfl rfl (by kernel_rfl) (fun _ _ _ h => h) (Or.inl ⟨by rfl, ?_⟩) ?_ ?_; rotate_left
          ·intro w'; go_simp; (with_reducible rfl)
          rotate_left; (·simp only [um36]; rfl); refine pure_ (i := 2) (N := some 24) (v := ?_) (a' := ?_) #[true, true, true, false, false, false] rfl rfl (by kernel_rfl) (fun _ _ _ h => h) (Or.inl ⟨by rfl, ?_⟩) ?_ ?_; rotate_left
          ·intro w'; go_simp; (with_reducible rfl)
          rotate_left; (·simp only [um36]; rfl); refine pure_ (i := 3) (N := some 25) (v := ?_) (a' := ?_) #[true, true, true, true, false, false] rfl rfl (by kernel_rfl) (fun _ _ _ h => h) (Or.inl ⟨by rfl, ?_⟩) ?_ ?_; rotate_left
          ·intro w'; go_simp; (with_reducible rfl)
          rotate_left; (·simp only [um36]; rfl); refine pure_ (i := 4) (N := some 26) (v := ?_) (a' := ?_) #[true, true, true, true, true, false] rfl rfl (by kernel_rfl) (fun _ _ _ h => h) (Or.inl ⟨by rfl, ?_⟩) ?_ ?_; rotate_left
          ·intro w'; go_simp; (with_reducible rfl)
          rotate_left; (·simp only [um36]; rfl)
          refine one_ (i := 5) (N := some 27) #[true, true, true, true, true, true] rfl rfl (by kernel_rfl) (by decide) (fun K hK => ?_); refine goes_ Tryd.func88 (by kernel_rfl) rfl #[.slice A17 (l0.drop 1).length (c0 - 1), .slice A18 (l1.drop (qa : Int).toNat).length (c1 - qa.toNat)] (by rfl) rfl rfl (by (try simp only [List.map_toArray, List.map_cons, List.map_nil]); first | done | (rw [show (l0.drop 1).length = (l0.length - 1) from List.length_drop] <;> rfl) | (rw [show (l1.drop (qa : Int).toNat).length = (l1.length - qa.toNat) from List.length_drop] <;> rfl) | rfl | (simp only [List.length_drop, List.length_take]; rfl)) ?_; (with_reducible refine (ih k1 (by have := HK1.out; omega) _ _ (l0.drop 1) _ _ (l1.drop (qa : Int).toNat) false _ ?side1 ?side2 ?side3 ?side4 A10.out).mono ?_); (case side1 => repeat (first | exact (Kd.C_below HR740.out HB.out) | (with_reducible refine Kd.C_alloc ?_ _) | (with_reducible refine Kd.C_drewN ?_ _) | (with_reducible refine Kd.C_drew ?_))); (case side2 => exact HC740.out); (case side3 => repeat (first | exact (Kd.C_below HR741.out HB.out) | (with_reducible refine Kd.C_alloc ?_ _) | (with_reducible refine Kd.C_drewN ?_ _) | (with_reducible refine Kd.C_drew ?_))); (case side4 => exact HC741.out); rintro e w19 ⟨rfl, hb⟩; refine ⟨_, rfl, ?_⟩; have n0_ := Aside0.mk (below_step (by repeat (first | (with_reducible first | exact HB.out | apply below_alloc | apply pw_below_drewN | apply below_drew1) | exact HB.out)) hb); clear HB; have HB := n0_; clear n0_; (try clear hb); (try clear hb2); (try clear hk); (try clear hi); refine hK.out _ _ trivial (fun hHeld => ?_); clear hK K; refine norm_ (a' := ?_) ?_ ?_; rotate_left
          ·show Act.put _ (some 27) _ = _
           simp only [um36]; rfl
          refine done_ (by kernel_rfl) ?_
          try go_wp2
          go_roundg k1
          case measure => have := HK1.out; omega
          case rel => exact ⟨(wrap64 (qa + 1)), (by first | rfl | (simp; done) | (simp [*]; done)), H', ⟨by have := HK1.out; omega⟩, ⟨by repeat (first | (with_reducible first | exact HB.out | apply below_alloc | apply pw_below_drewN | apply below_drew1) | exact HB.out)⟩⟩
        ·rw [if_neg c8] at H
         exact absurd H (by simp)
       ·rw [if_neg c7] at H
        exact absurd H (by simp)
      ·rw [if_neg c6] at H
       have c6b0 : decide (qa ≤ (l1.length : Int)) = false := decide_eq_false c6; clear c6; obtain rfl := Option.some.inj H
       go_wp2
       go_ret
       exact ⟨by first | rfl | (simp [errW_none, errW_some] <;> rfl) | (simp [*, errW_none, errW_some] <;> rfl), by repeat (first | (with_reducible first | exact HB.out | apply below_alloc | apply pw_below_drewN | apply below_drew1) | exact HB.out)⟩
   ·rw [if_neg c5] at H
    have c5b0 : ((rdOf ByteArray.empty l0 0).toList == ([42, 42] : List UInt8)) = false := beq_eq_false_iff_ne.mpr c5; have c5b1 : ((rdOf ByteArray.empty l0 0).toList != ([42, 42] : List UInt8)) = true := bne_iff_ne.mpr c5
    by_cases c20 : (l1.length : Int) > 0
    ·rw [if_pos c20] at H
     have c20b0 : decide (0 < (l1.length : Int)) = true := decide_eq_true c20; have c20b1 : decide (0 < l1.length) = true := decide_eq_true (by omega); clear c20
     by_cases c21 : 0 < (l1.length : Int)
     ·rw [if_pos c21] at H
      have c21b0 : decide (0 < (l1.length : Int)) = true := decide_eq_true c21; have c21b1 : decide (0 < l1.length) = true := decide_eq_true (by omega); clear c21; replace H := Option.bind_eq_some_iff.mp H; obtain ⟨t745, A220, H⟩ := H; replace H : (if t745 = true then (if 1 ≤ (l0.length : Int) then (if 1 ≤ (l1.length : Int) then ((impl_matchParts.f k (l0.drop 1) (l1.drop 1)).bind fun t748 => (some t748)) else (none)) else (none)) else (some false)) = some r := H; have A22 := Aside0.mk A220; clear A220
      by_cases c23 : t745 = true
      ·subst c23
       have H1 : (if 1 ≤ (l0.length : Int) then (if 1 ≤ (l1.length : Int) then ((impl_matchParts.f k (l0.drop 1) (l1.drop 1)).bind fun t748 => (some t748)) else (none)) else (none)) = some r := by rw [if_pos rfl] at H; exact H
       clear H; have H := H1; clear H1
       by_cases c24 : 1 ≤ (l0.length : Int)
       ·rw [if_pos c24] at H
        have c24b0 := eq_true c24; have c24b1 : decide (1 ≤ (l0.length : Int)) = true := decide_eq_true c24; clear c24
        by_cases c25 : 1 ≤ (l1.length : Int)
        ·rw [if_pos c25] at H
         have c25b0 := eq_true c25; have c25b1 : decide (1 ≤ (l1.length : Int)) = true := decide_eq_true c25; clear c25; replace H := Option.bind_eq_some_iff.mp H; obtain ⟨t748, A260, H⟩ := H; replace H : (some t748) = some r := H; have A26 := Aside0.mk A260; clear A260; obtain rfl := Option.some.inj H
         have p739 : 0 ≤ (0 : Int) := (by omega)
         have q739 : 0 < (l0.length : Int) := of_decide_eq_true (by first | (with_reducible assumption) | assumption); obtain ⟨ad739, e739, hx739_0⟩ := Kd.at_string HR0.out 0 p739 q739
         cases e739
         have qi739 : (0 < l0.length) = True := eq_true (by omega); (try rw [show ((0 : Int)).toNat = 0 from rfl] at hx739_0); (try rw [Addr.add_zero'] at hx739_0); replace p739 := eq_true p739; replace q739 := eq_true q739
         go_enter Tryd.func88, Tryd.ntmps88
         try go_wp2
         have n0_ := Aside0.mk (below_drew1 HB.out); clear HB; have HB := n0_; clear n0_
         have p743 : 0 ≤ (0 : Int) := (by omega)
         have q743 : 0 < (l0.length : Int) := of_decide_eq_true (by first | (with_reducible assumption) | assumption); obtain ⟨ad743, e743, hx743_0⟩ := Kd.at_string HR0.out 0 p743 q743; have hw743_0 := hx743_0; (try rw [show ((0 : Int)).toNat = 0 from rfl] at hw743_0); (try rw [show 0 * 1 = 0 from rfl] at hw743_0); (try rw [Addr.add_zero'] at hw743_0)
         obtain rfl : ad739 = ad743 := (by injection e743)
         have qi743 : (0 < l0.length) = True := eq_true (by omega); (try rw [show ((0 : Int)).toNat = 0 from rfl] at hx743_0); (try rw [Addr.add_zero'] at hx743_0); replace hx743_0 := (HB.out.cell (World.block_lt_of_cell? w _ hx743_0)).trans hx743_0; replace p743 := eq_true p743; replace q743 := eq_true q743
         have p744 : 0 ≤ (0 : Int) := (by omega)
         have q744 : 0 < (l1.length : Int) := of_decide_eq_true (by first | (with_reducible assumption) | assumption); obtain ⟨ad744, e744, hx744_0⟩ := Kd.at_string HR1.out 0 p744 q744; have hw744_0 := hx744_0; (try rw [show ((0 : Int)).toNat = 0 from rfl] at hw744_0); (try rw [show 0 * 1 = 0 from rfl] at hw744_0); (try rw [Addr.add_zero'] at hw744_0)
         cases e744
         have qi744 : (0 < l1.length) = True := eq_true (by omega); (try rw [show ((0 : Int)).toNat = 0 from rfl] at hx744_0); (try rw [Addr.add_zero'] at hx744_0); replace hx744_0 := (HB.out.cell (World.block_lt_of_cell? w _ hx744_0)).trans hx744_0; replace p744 := eq_true p744; replace q744 := eq_true q744; refine start_ (n := 20) (S := fun w' => w'.cell? ad739 = some (.string (rdOf ByteArray.empty l0 0)) ∧ w'.cell? ad744 = some (.string (rdOf ByteArray.empty l1 0))) (ds := []) bm36_0 (by kernel_rfl) rfl rfl ⟨((HB.out.cell (World.block_lt_of_cell? w _ hw743_0)).trans hw743_0), ((HB.out.cell (World.block_lt_of_cell? w _ hw744_0)).trans hw744_0)⟩ (fun hHeld => ?_); refine with_tabW impl_matchParts.tab10 impl_matchParts.bits10 (fun HT_ HW_ => ?_); generalize w.drew = w27 at HB hx743_0 hx744_0 hHeld ⊢; refine pure_ (i := 0) (N := some 28) (v := ?_) (a' := ?_) bm36_1 rfl rfl (any_of HT_.out (by kernel_rfl)) (fun _ _ _ h => h) (Or.inl ⟨by rfl, ?_⟩) ?_ ?_; rotate_left
         ·intro w'; go_simp; (with_reducible rfl)
         rotate_left; (·simp only [um36]; rfl); refine pure_ (i := 1) (N := some 29) (v := ?_) (a' := ?_) bm36_2 rfl rfl (any_of HT_.out (by kernel_rfl)) (fun _ _ _ h => h) (Or.inl ⟨by rfl, ?_⟩) ?_ ?_; rotate_left
         ·intro w'; go_simp; (with_reducible rfl)
         rotate_left; (·simp only [um36]; rfl); refine pure_ (i := 2) (N := some 30) (v := ?_) (a' := ?_) bm36_3 rfl rfl (any_of HT_.out (by kernel_rfl)) (fun _ _ _ h => h) (Or.inl ⟨by rfl, ?_⟩) ?_ ?_; rotate_left
         ·intro w'; go_simp; (with_reducible rfl)
         rotate_left; (·simp only [um36]; rfl); refine pure_ (i := 3) (N := some 31) (v := ?_) (a' := ?_) bm36_4 rfl rfl (any_of HT_.out (by kernel_rfl)) (fun _ _ _ h => h) (Or.inl ⟨by rfl, ?_⟩) ?_ ?_; rotate_left
         ·intro w'; go_simp; (with_reducible rfl)
         rotate_left; (·simp only [um36]; rfl); refine pure_ (i := 4) (N := some 32) (v := ?_) (a' := ?_) bm36_5 rfl rfl (any_of HT_.out (by kernel_rfl)) (fun _ _ _ h => h) (Or.inl ⟨by rfl, ?_⟩) ?_ ?_; rotate_left
         ·intro w'; go_simp; (with_reducible rfl)
         rotate_left; (·simp only [um36]; rfl); refine pure_ (i := 5) (N := some 33) (v := ?_) (a' := ?_) bm36_6 rfl rfl (any_of HT_.out (by kernel_rfl)) (fun _ _ _ h => h) (Or.inl ⟨by rfl, ?_⟩) ?_ ?_; rotate_left
         ·intro w'; go_simp; (with_reducible rfl)
         rotate_left; (·simp only [um36]; rfl); refine pure_ (i := 7) (N := some 35) (v := ?_) (a' := ?_) bm36_7 rfl rfl (any_of HT_.out (by kernel_rfl)) (fun _ _ _ h => h) (Or.inl ⟨by rfl, ?_⟩) ?_ ?_; rotate_left
         ·intro w'; go_simp; (with_reducible rfl)
         rotate_left; (·simp only [um36]; rfl); refine pure_ (i := 8) (N := some 36) (v := ?_) (a' := ?_) bm36_8 rfl rfl (any_of HT_.out (by kernel_rfl)) (fun _ _ _ h => h) (Or.inl ⟨by rfl, ?_⟩) ?_ ?_; rotate_left
         ·intro w'; go_simp; (with_reducible rfl)
         rotate_left; (·simp only [um36]; rfl); refine take_ (i := 6) (N := some 34) (v := ?_) (a' := ?_) bm36_9 rfl rfl (take_ofW HT_.out HW_.out (by kernel_rfl)) (fun _ _ _ h => h) (Or.inl ⟨by rfl, ?_⟩) hHeld ?_ ?_; rotate_left
         ·rintro w' ⟨s0, s1⟩; go_simp; (with_reducible rfl)
         rotate_left; (·simp only [um36]; rfl); refine take_ (i := 9) (N := some 37) (v := ?_) (a' := ?_) bm36_10 rfl rfl (take_ofW HT_.out HW_.out (by kernel_rfl)) (fun _ _ _ h => h) (Or.inl ⟨by rfl, ?_⟩) hHeld ?_ ?_; rotate_left
         ·rintro w' ⟨s0, s1⟩; go_simp; (with_reducible rfl)
         rotate_left; (·simp only [um36]; rfl)
         refine one_ (i := 10) (N := some 38) bm36_11 rfl rfl (one_of HT_.out (by kernel_rfl)) (by decide) (fun K hK => ?_); refine goes_ Tryd.func100 (by kernel_rfl) rfl #[.string (rdOf ByteArray.empty l0 0), .string (rdOf ByteArray.empty l1 0)] (by rfl) rfl rfl (by (try simp only [List.map_toArray, List.map_cons, List.map_nil]); first | done | rfl | (simp only [List.length_drop, List.length_take]; rfl)) ?_; (with_reducible refine (impl_partMatch.calls k (rdOf ByteArray.empty l0 0) (rdOf ByteArray.empty l1 0) true _ A22.out).mono ?_); rintro e w28 ⟨rfl, hb⟩; refine ⟨_, rfl, ?_⟩; have n0_ := Aside0.mk (below_step (by repeat (first | (with_reducible first | exact HB.out | apply below_alloc | apply pw_below_drewN | apply below_drew1) | exact HB.out)) hb); clear HB; have HB := n0_; clear n0_; (try clear hb); (try clear hb2); (try clear hk); (try clear hi); obtain ⟨i029, hi029, _, hsz29, _⟩ := info_parts info9; obtain ⟨A29, hcut29, hA29, hC29⟩ := print_drop_of (P := Tryd.prog) Value.string (⟨#[]⟩ : ByteArray) 56 9 .i64 Tryd.underlying56 hi029 hsz29 (some ad739) c0 l0 1 (by omega) (of_decide_eq_true (by first | (with_reducible assumption) | assumption)) HC0.out; have HR746 := Aside0.mk (Kd.C_of_reads (h1 := fun _ => rfl) (hA29 _ (Kd.reads_of_C HR0.out))); have HC746 := Aside0.mk hC29; clear hA29 hC29 hi029 hsz29; obtain ⟨i030, hi030, _, hsz30, _⟩ := info_parts info9; obtain ⟨A30, hcut30, hA30, hC30⟩ := print_drop_of (P := Tryd.prog) Value.string (⟨#[]⟩ : ByteArray) 56 9 .i64 Tryd.underlying56 hi030 hsz30 (some ad744) c1 l1 1 (by omega) (of_decide_eq_true (by first | (with_reducible assumption) | assumption)) HC1.out; have HR747 := Aside0.mk (Kd.C_of_reads (h1 := fun _ => rfl) (hA30 _ (Kd.reads_of_C HR1.out))); have HC747 := Aside0.mk hC30; clear hA30 hC30 hi030 hsz30; refine hK.out _ _ ⟨((HB.out.cell (World.block_lt_of_cell? w _ hw743_0)).trans hw743_0), ((HB.out.cell (World.block_lt_of_cell? w _ hw744_0)).trans hw744_0)⟩ (fun hHeld => ?_); clear hK K; refine norm_ (a' := ?_) ?_ ?_; rotate_left
         ·show Act.put _ (some 38) _ = _
          simp only [um36]; rfl
         refine pure_ (i := 11) (N := some 39) (v := ?_) (a' := ?_) bm36_12 rfl rfl (any_of HT_.out (by kernel_rfl)) (fun _ _ _ h => h) (Or.inl ⟨by rfl, ?_⟩) ?_ ?_; rotate_left
         ·intro w'; go_simp; (with_reducible rfl)
         rotate_left; (·simp only [um36]; rfl); refine pure_ (i := 12) (N := some 40) (v := ?_) (a' := ?_) bm36_13 rfl rfl (any_of HT_.out (by kernel_rfl)) (fun _ _ _ h => h) (Or.inl ⟨by rfl, ?_⟩) ?_ ?_; rotate_left
         ·intro w'; go_simp; (with_reducible rfl)
         rotate_left; (·simp only [um36]; rfl); refine pure_ (i := 13) (N := some 41) (v := ?_) (a' := ?_) bm36_14 rfl rfl (any_of HT_.out (by kernel_rfl)) (fun _ _ _ h => h) (Or.inl ⟨by rfl, ?_⟩) ?_ ?_; rotate_left
         ·intro w'; go_simp; (with_reducible rfl)
         rotate_left; (·simp only [um36]; rfl); refine pure_ (i := 14) (N := some 42) (v := ?_) (a' := ?_) bm36_15 rfl rfl (any_of HT_.out (by kernel_rfl)) (fun _ _ _ h => h) (Or.inl ⟨by rfl, ?_⟩) ?_ ?_; rotate_left
         ·intro w'; go_simp; (with_reducible rfl)
         rotate_left; (·simp only [um36]; rfl); refine pure_ (i := 15) (N := some 43) (v := ?_) (a' := ?_) bm36_16 rfl rfl (any_of HT_.out (by kernel_rfl)) (fun _ _ _ h => h) (Or.inl ⟨by rfl, ?_⟩) ?_ ?_; rotate_left
         ·intro w'; go_simp; (with_reducible rfl)
         rotate_left; (·simp only [um36]; rfl); refine pure_ (i := 16) (N := some 44) (v := ?_) (a' := ?_) bm36_17 rfl rfl (any_of HT_.out (by kernel_rfl)) (fun _ _ _ h => h) (Or.inl ⟨by rfl, ?_⟩) ?_ ?_; rotate_left
         ·intro w'; go_simp; (with_reducible rfl)
         rotate_left; (·simp only [um36]; rfl)
         refine one_ (i := 17) (N := some 45) bm36_18 rfl rfl (one_of HT_.out (by kernel_rfl)) (by decide) (fun K hK => ?_); refine goes_ Tryd.func88 (by kernel_rfl) rfl #[.slice A29 (l0.drop 1).length (c0 - 1), .slice A30 (l1.drop 1).length (c1 - 1)] (by rfl) rfl rfl (by (try simp only [List.map_toArray, List.map_cons, List.map_nil]); first | done | (rw [show (l0.drop 1).length = (l0.length - 1) from List.length_drop] <;> rfl) | (rw [show (l1.drop 1).length = (l1.length - 1) from List.length_drop] <;> rfl) | rfl | (simp only [List.length_drop, List.length_take]; rfl)) ?_; (with_reducible refine (ih k (by omega) _ _ (l0.drop 1) _ _ (l1.drop 1) t748 _ ?side1 ?side2 ?side3 ?side4 A26.out).mono ?_); (case side1 => repeat (first | exact (Kd.C_below HR746.out HB.out) | (with_reducible refine Kd.C_alloc ?_ _) | (with_reducible refine Kd.C_drewN ?_ _) | (with_reducible refine Kd.C_drew ?_))); (case side2 => exact HC746.out); (case side3 => repeat (first | exact (Kd.C_below HR747.out HB.out) | (with_reducible refine Kd.C_alloc ?_ _) | (with_reducible refine Kd.C_drewN ?_ _) | (with_reducible refine Kd.C_drew ?_))); (case side4 => exact HC747.out); rintro e w31 ⟨rfl, hb⟩; refine ⟨_, rfl, ?_⟩; have n0_ := Aside0.mk (below_step (by repeat (first | (with_reducible first | exact HB.out | apply below_alloc | apply pw_below_drewN | apply below_drew1) | exact HB.out)) hb); clear HB; have HB := n0_; clear n0_; (try clear hb); (try clear hb2); (try clear hk); (try clear hi); refine hK.out _ _ ⟨((HB.out.cell (World.block_lt_of_cell? w _ hw743_0)).trans hw743_0), ((HB.out.cell (World.block_lt_of_cell? w _ hw744_0)).trans hw744_0)⟩ (fun hHeld => ?_); clear hK K; refine norm_ (a' := ?_) ?_ ?_; rotate_left
         ·show Act.put _ (some 45) _ = _
          simp only [um36]; rfl
         refine pure_ (i := 18) (N := some 46) (v := ?_) (a' := ?_) bm36_19 rfl rfl (any_of HT_.out (by kernel_rfl)) (fun _ _ _ h => h) (Or.inl ⟨by rfl, ?_⟩) ?_ ?_; rotate_left
         ·intro w'; go_simp; (with_reducible rfl)
         rotate_left; (·simp only [um36]; rfl); refine pure_ (i := 19) (N := some 4) (v := ?_) (a' := ?_) bm36_20 rfl rfl (any_of HT_.out (by kernel_rfl)) (fun _ _ _ h => h) (Or.inl ⟨by rfl, ?_⟩) ?_ ?_; rotate_left
         ·intro w'; go_simp; (with_reducible rfl)
         rotate_left; (·simp only [um36]; rfl)
         refine done_ (done_of HT_.out (by kernel_rfl)) ?_
         try go_wp2
         go_ret
         exact ⟨by first | rfl | (simp [errW_none, errW_some] <;> rfl) | (simp [*, errW_none, errW_some] <;> rfl), by repeat (first | (with_reducible first | exact HB.out | apply below_alloc | apply pw_below_drewN | apply below_drew1) | exact HB.out)⟩
        ·rw [if_neg c25] at H
         exact absurd H (by simp)
       ·rw [if_neg c24] at H
        exact absurd H (by simp)
      ·replace c23 := Bool.eq_false_iff.mpr c23; subst c23
       have H1 : (some false) = some r := by rw [if_neg (show ¬ (false = true) by decide)] at H; exact H
       clear H; have H := H1; clear H1; obtain rfl := Option.some.inj H
       have p739 : 0 ≤ (0 : Int) := (by omega)
       have q739 : 0 < (l0.length : Int) := of_decide_eq_true (by first | (with_reducible assumption) | assumption); obtain ⟨ad739, e739, hx739_0⟩ := Kd.at_string HR0.out 0 p739 q739
       cases e739
       have qi739 : (0 < l0.length) = True := eq_true (by omega); (try rw [show ((0 : Int)).toNat = 0 from rfl] at hx739_0); (try rw [Addr.add_zero'] at hx739_0); replace p739 := eq_true p739; replace q739 := eq_true q739
       go_enter Tryd.func88, Tryd.ntmps88
       try go_wp2
       have n0_ := Aside0.mk (below_drew1 HB.out); clear HB; have HB := n0_; clear n0_
       have p743 : 0 ≤ (0 : Int) := (by omega)
       have q743 : 0 < (l0.length : Int) := of_decide_eq_true (by first | (with_reducible assumption) | assumption); obtain ⟨ad743, e743, hx743_0⟩ := Kd.at_string HR0.out 0 p743 q743; have hw743_0 := hx743_0; (try rw [show ((0 : Int)).toNat = 0 from rfl] at hw743_0); (try rw [show 0 * 1 = 0 from rfl] at hw743_0); (try rw [Addr.add_zero'] at hw743_0)
       obtain rfl : ad739 = ad743 := (by injection e743)
       have qi743 : (0 < l0.length) = True := eq_true (by omega); (try rw [show ((0 : Int)).toNat = 0 from rfl] at hx743_0); (try rw [Addr.add_zero'] at hx743_0); replace hx743_0 := (HB.out.cell (World.block_lt_of_cell? w _ hx743_0)).trans hx743_0; replace p743 := eq_true p743; replace q743 := eq_true q743
       have p744 : 0 ≤ (0 : Int) := (by omega)
       have q744 : 0 < (l1.length : Int) := of_decide_eq_true (by first | (with_reducible assumption) | assumption); obtain ⟨ad744, e744, hx744_0⟩ := Kd.at_string HR1.out 0 p744 q744; have hw744_0 := hx744_0; (try rw [show ((0 : Int)).toNat = 0 from rfl] at hw744_0); (try rw [show 0 * 1 = 0 from rfl] at hw744_0); (try rw [Addr.add_zero'] at hw744_0)
       cases e744
       have qi744 : (0 < l1.length) = True := eq_true (by omega); (try rw [show ((0 : Int)).toNat = 0 from rfl] at hx744_0); (try rw [Addr.add_zero'] at hx744_0); replace hx744_0 := (HB.out.cell (World.block_lt_of_cell? w _ hx744_0)).trans hx744_0; replace p744 := eq_true p744; replace q744 := eq_true q744; refine start_ (n := 20) (S := fun w' => w'.cell? ad739 = some (.string (rdOf ByteArray.empty l0 0)) ∧ w'.cell? ad744 = some (.string (rdOf ByteArray.empty l1 0))) (ds := []) bm36_0 (by kernel_rfl) rfl rfl ⟨((HB.out.cell (World.block_lt_of_cell? w _ hw743_0)).trans hw743_0), ((HB.out.cell (World.block_lt_of_cell? w _ hw744_0)).trans hw744_0)⟩ (fun hHeld => ?_); refine with_tabW impl_matchParts.tab10 impl_matchParts.bits10 (fun HT_ HW_ => ?_); generalize w.drew = w32 at HB hx743_0 hx744_0 hHeld ⊢; refine pure_ (i := 0) (N := some 28) (v := ?_) (a' := ?_) bm36_1 rfl rfl (any_of HT_.out (by kernel_rfl)) (fun _ _ _ h => h) (Or.inl ⟨by rfl, ?_⟩) ?_ ?_; rotate_left
       ·intro w'; go_simp; (with_reducible rfl)
       rotate_left; (·simp only [um36]; rfl); refine pure_ (i := 1) (N := some 29) (v := ?_) (a' := ?_) bm36_2 rfl rfl (any_of HT_.out (by kernel_rfl)) (fun _ _ _ h => h) (Or.inl ⟨by rfl, ?_⟩) ?_ ?_; rotate_left
       ·intro w'; go_simp; (with_reducible rfl)
       rotate_left; (·simp only [um36]; rfl); refine pure_ (i := 2) (N := some 30) (v := ?_) (a' := ?_) bm36_3 rfl rfl (any_of HT_.out (by kernel_rfl)) (fun _ _ _ h => h) (Or.inl ⟨by rfl, ?_⟩) ?_ ?_; rotate_left
       ·intro w'; go_simp; (with_reducible rfl)
       rotate_left; (·simp only [um36]; rfl); refine pure_ (i := 3) (N := some 31) (v := ?_) (a' := ?_) bm36_4 rfl rfl (any_of HT_.out (by kernel_rfl)) (fun _ _ _ h => h) (Or.inl ⟨by rfl, ?_⟩) ?_ ?_; rotate_left
       ·intro w'; go_simp; (with_reducible rfl)
       rotate_left; (·simp only [um36]; rfl); refine pure_ (i := 4) (N := some 32) (v := ?_) (a' := ?_) bm36_5 rfl rfl (any_of HT_.out (by kernel_rfl)) (fun _ _ _ h => h) (Or.inl ⟨by rfl, ?_⟩) ?_ ?_; rotate_left
       ·intro w'; go_simp; (with_reducible rfl)
       rotate_left; (·simp only [um36]; rfl); refine pure_ (i := 5) (N := some 33) (v := ?_) (a' := ?_) bm36_6 rfl rfl (any_of HT_.out (by kernel_rfl)) (fun _ _ _ h => h) (Or.inl ⟨by rfl, ?_⟩) ?_ ?_; rotate_left
       ·intro w'; go_simp; (with_reducible rfl)
       rotate_left; (·simp only [um36]; rfl); refine pure_ (i := 7) (N := some 35) (v := ?_) (a' := ?_) bm36_7 rfl rfl (any_of HT_.out (by kernel_rfl)) (fun _ _ _ h => h) (Or.inl ⟨by rfl, ?_⟩) ?_ ?_; rotate_left
       ·intro w'; go_simp; (with_reducible rfl)
       rotate_left; (·simp only [um36]; rfl); refine pure_ (i := 8) (N := some 36) (v := ?_) (a' := ?_) bm36_8 rfl rfl (any_of HT_.out (by kernel_rfl)) (fun _ _ _ h => h) (Or.inl ⟨by rfl, ?_⟩) ?_ ?_; rotate_left
       ·intro w'; go_simp; (with_reducible rfl)
       rotate_left; (·simp only [um36]; rfl); refine take_ (i := 6) (N := some 34) (v := ?_) (a' := ?_) bm36_9 rfl rfl (take_ofW HT_.out HW_.out (by kernel_rfl)) (fun _ _ _ h => h) (Or.inl ⟨by rfl, ?_⟩) hHeld ?_ ?_; rotate_left
       ·rintro w' ⟨s0, s1⟩; go_simp; (with_reducible rfl)
       rotate_left; (·simp only [um36]; rfl); refine take_ (i := 9) (N := some 37) (v := ?_) (a' := ?_) bm36_10 rfl rfl (take_ofW HT_.out HW_.out (by kernel_rfl)) (fun _ _ _ h => h) (Or.inl ⟨by rfl, ?_⟩) hHeld ?_ ?_; rotate_left
       ·rintro w' ⟨s0, s1⟩; go_simp; (with_reducible rfl)
       rotate_left; (·simp only [um36]; rfl)
       refine one_ (i := 10) (N := some 38) bm36_11 rfl rfl (one_of HT_.out (by kernel_rfl)) (by decide) (fun K hK => ?_); refine goes_ Tryd.func100 (by kernel_rfl) rfl #[.string (rdOf ByteArray.empty l0 0), .string (rdOf ByteArray.empty l1 0)] (by rfl) rfl rfl (by (try simp only [List.map_toArray, List.map_cons, List.map_nil]); first | done | rfl | (simp only [List.length_drop, List.length_take]; rfl)) ?_; (with_reducible refine (impl_partMatch.calls k (rdOf ByteArray.empty l0 0) (rdOf ByteArray.empty l1 0) false _ A22.out).mono ?_); rintro e w33 ⟨rfl, hb⟩; refine ⟨_, rfl, ?_⟩; have n0_ := Aside0.mk (below_step (by repeat (first | (with_reducible first | exact HB.out | apply below_alloc | apply pw_below_drewN | apply below_drew1) | exact HB.out)) hb); clear HB; have HB := n0_; clear n0_; (try clear hb); (try clear hb2); (try clear hk); (try clear hi); refine hK.out _ _ ⟨((HB.out.cell (World.block_lt_of_cell? w _ hw743_0)).trans hw743_0), ((HB.out.cell (World.block_lt_of_cell? w _ hw744_0)).trans hw744_0)⟩ (fun hHeld => ?_); clear hK K; refine norm_ (a' := ?_) ?_ ?_; rotate_left
       ·show Act.put _ (some 38) _ = _
        simp only [um36]; rfl
       refine pure_ (i := 11) (N := some 39) (v := ?_) (a' := ?_) bm36_12 rfl rfl (any_of HT_.out (by kernel_rfl)) (fun _ _ _ h => h) (Or.inl ⟨by rfl, ?_⟩) ?_ ?_; rotate_left
       ·intro w'; go_simp; (with_reducible rfl)
       rotate_left; (·simp only [um36]; rfl); refine pure_ (i := 12) (N := some 40) (v := ?_) (a' := ?_) bm36_13 rfl rfl (any_of HT_.out (by kernel_rfl)) (fun _ _ _ h => h) (Or.inl ⟨by rfl, ?_⟩) ?_ ?_; rotate_left
       ·intro w'; go_simp; (with_reducible rfl)
       rotate_left; (·simp only [um36]; rfl); refine pure_ (i := 13) (N := some 41) (v := undef) (a' := ?_) bm36_14 rfl rfl (any_of HT_.out (by kernel_rfl)) (fun _ _ _ h => h) (Or.inr ⟨by rfl, rfl⟩) ?_ ?_; rotate_left; (·simp only [um36]; rfl); refine pure_ (i := 14) (N := some 42) (v := undef) (a' := ?_) bm36_15 rfl rfl (any_of HT_.out (by kernel_rfl)) (fun _ _ _ h => h) (Or.inr ⟨by rfl, rfl⟩) ?_ ?_; rotate_left; (·simp only [um36]; rfl); refine pure_ (i := 15) (N := some 43) (v := undef) (a' := ?_) bm36_16 rfl rfl (any_of HT_.out (by kernel_rfl)) (fun _ _ _ h => h) (Or.inr ⟨by rfl, rfl⟩) ?_ ?_; rotate_left; (·simp only [um36]; rfl); refine pure_ (i := 16) (N := some 44) (v := undef) (a' := ?_) bm36_17 rfl rfl (any_of HT_.out (by kernel_rfl)) (fun _ _ _ h => h) (Or.inr ⟨by rfl, rfl⟩) ?_ ?_; rotate_left; (·simp only [um36]; rfl); refine pure_ (i := 17) (N := some 45) (v := undef) (a' := ?_) bm36_18 rfl rfl (any_of HT_.out (by kernel_rfl)) (fun _ _ _ h => h) (Or.inr ⟨by rfl, rfl⟩) ?_ ?_; rotate_left; (·simp only [um36]; rfl); refine pure_ (i := 18) (N := some 46) (v := ?_) (a' := ?_) bm36_19 rfl rfl (any_of HT_.out (by kernel_rfl)) (fun _ _ _ h => h) (Or.inl ⟨by rfl, ?_⟩) ?_ ?_; rotate_left
       ·intro w'; go_simp; (with_reducible rfl)
       rotate_left; (·simp only [um36]; rfl); refine pure_ (i := 19) (N := some 4) (v := ?_) (a' := ?_) bm36_20 rfl rfl (any_of HT_.out (by kernel_rfl)) (fun _ _ _ h => h) (Or.inl ⟨by rfl, ?_⟩) ?_ ?_; rotate_left
       ·intro w'; go_simp; (with_reducible rfl)
       rotate_left; (·simp only [um36]; rfl)
       refine done_ (done_of HT_.out (by kernel_rfl)) ?_
       try go_wp2
       go_ret
       exact ⟨by first | rfl | (simp [errW_none, errW_some] <;> rfl) | (simp [*, errW_none, errW_some] <;> rfl), by repeat (first | (with_reducible first | exact HB.out | apply below_alloc | apply pw_below_drewN | apply below_drew1) | exact HB.out)⟩
     ·rw [if_neg c21] at H
      exact absurd H (by simp)
    ·rw [if_neg c20] at H
     have c20b0 : decide (0 < (l1.length : Int)) = false := decide_eq_false c20; have c20b1 : decide (0 < l1.length) = false := decide_eq_false (by omega); clear c20; obtain rfl := Option.some.inj H
     have p739 : 0 ≤ (0 : Int) := (by omega)
     have q739 : 0 < (l0.length : Int) := of_decide_eq_true (by first | (with_reducible assumption) | assumption); obtain ⟨ad739, e739, hx739_0⟩ := Kd.at_string HR0.out 0 p739 q739
     cases e739
     have qi739 : (0 < l0.length) = True := eq_true (by omega); (try rw [show ((0 : Int)).toNat = 0 from rfl] at hx739_0); (try rw [Addr.add_zero'] at hx739_0); replace p739 := eq_true p739; replace q739 := eq_true q739
     go_enter Tryd.func88, Tryd.ntmps88
     try go_wp2
     have n0_ := Aside0.mk (below_drew1 HB.out); clear HB; have HB := n0_; clear n0_; refine start_ (n := 20) (S := fun w' => True) (ds := []) bm36_0 (by kernel_rfl) rfl rfl trivial (fun hHeld => ?_); refine with_tabW impl_matchParts.tab10 impl_matchParts.bits10 (fun HT_ HW_ => ?_); generalize w.drew = w34 at HB hHeld ⊢; refine pure_ (i := 0) (N := some 28) (v := ?_) (a' := ?_) bm36_1 rfl rfl (any_of HT_.out (by kernel_rfl)) (fun _ _ _ h => h) (Or.inl ⟨by rfl, ?_⟩) ?_ ?_; rotate_left
     ·intro w'; go_simp; (with_reducible rfl)
     rotate_left; (·simp only [um36]; rfl); refine pure_ (i := 1) (N := some 29) (v := ?_) (a' := ?_) bm36_2 rfl rfl (any_of HT_.out (by kernel_rfl)) (fun _ _ _ h => h) (Or.inl ⟨by rfl, ?_⟩) ?_ ?_; rotate_left
     ·intro w'; go_simp; (with_reducible rfl)
     rotate_left; (·simp only [um36]; rfl); refine pure_ (i := 2) (N := some 30) (v := ?_) (a' := ?_) bm36_3 rfl rfl (any_of HT_.out (by kernel_rfl)) (fun _ _ _ h => h) (Or.inl ⟨by rfl, ?_⟩) ?_ ?_; rotate_left
     ·intro w'; go_simp; (with_reducible rfl)
     rotate_left; (·simp only [um36]; rfl); refine pure_ (i := 3) (N := some 31) (v := ?_) (a' := ?_) bm36_4 rfl rfl (any_of HT_.out (by kernel_rfl)) (fun _ _ _ h => h) (Or.inl ⟨by rfl, ?_⟩) ?_ ?_; rotate_left
     ·intro w'; go_simp; (with_reducible rfl)
     rotate_left; (·simp only [um36]; rfl); refine pure_ (i := 4) (N := some 32) (v := undef) (a' := ?_) bm36_5 rfl rfl (any_of HT_.out (by kernel_rfl)) (fun _ _ _ h => h) (Or.inr ⟨by rfl, rfl⟩) ?_ ?_; rotate_left; (·simp only [um36]; rfl); refine pure_ (i := 5) (N := some 33) (v := undef) (a' := ?_) bm36_6 rfl rfl (any_of HT_.out (by kernel_rfl)) (fun _ _ _ h => h) (Or.inr ⟨by rfl, rfl⟩) ?_ ?_; rotate_left; (·simp only [um36]; rfl); refine pure_ (i := 6) (N := some 34) (v := undef) (a' := ?_) bm36_21 rfl rfl (any_of HT_.out (by kernel_rfl)) (fun _ _ _ h => h) (Or.inr ⟨by rfl, rfl⟩) ?_ ?_; rotate_left; (·simp only [um36]; rfl); refine pure_ (i := 7) (N := some 35) (v := undef) (a' := ?_) bm36_22 rfl rfl (any_of HT_.out (by kernel_rfl)) (fun _ _ _ h => h) (Or.inr ⟨by rfl, rfl⟩) ?_ ?_; rotate_left; (·simp only [um36]; rfl); refine pure_ (i := 8) (N := some 36) (v := undef) (a' := ?_) bm36_9 rfl rfl (any_of HT_.out (by kernel_rfl)) (fun _ _ _ h => h) (Or.inr ⟨by rfl, rfl⟩) ?_ ?_; rotate_left; (·simp only [um36]; rfl); refine pure_ (i := 9) (N := some 37) (v := undef) (a' := ?_) bm36_10 rfl rfl (any_of HT_.out (by kernel_rfl)) (fun _ _ _ h => h) (Or.inr ⟨by rfl, rfl⟩) ?_ ?_; rotate_left; (·simp only [um36]; rfl); refine pure_ (i := 10) (N := some 38) (v := undef) (a' := ?_) bm36_11 rfl rfl (any_of HT_.out (by kernel_rfl)) (fun _ _ _ h => h) (Or.inr ⟨by rfl, rfl⟩) ?_ ?_; rotate_left; (·simp only [um36]; rfl); refine pure_ (i := 11) (N := some 39) (v := ?_) (a' := ?_) bm36_12 rfl rfl (any_of HT_.out (by kernel_rfl)) (fun _ _ _ h => h) (Or.inl ⟨by rfl, ?_⟩) ?_ ?_; rotate_left
     ·intro w'; go_simp; (with_reducible rfl)
     rotate_left; (·simp only [um36]; rfl); refine pure_ (i := 12) (N := some 40) (v := ?_) (a' := ?_) bm36_13 rfl rfl (any_of HT_.out (by kernel_rfl)) (fun _ _ _ h => h) (Or.inl ⟨by rfl, ?_⟩) ?_ ?_; rotate_left
     ·intro w'; go_simp; (with_reducible rfl)
     rotate_left; (·simp only [um36]; rfl); refine pure_ (i := 13) (N := some 41) (v := undef) (a' := ?_) bm36_14 rfl rfl (any_of HT_.out (by kernel_rfl)) (fun _ _ _ h => h) (Or.inr ⟨by rfl, rfl⟩) ?_ ?_; rotate_left; (·simp only [um36]; rfl); refine pure_ (i := 14) (N := some 42) (v := undef) (a' := ?_) bm36_15 rfl rfl (any_of HT_.out (by kernel_rfl)) (fun _ _ _ h => h) (Or.inr ⟨by rfl, rfl⟩) ?_ ?_; rotate_left; (·simp only [um36]; rfl); refine pure_ (i := 15) (N := some 43) (v := undef) (a' := ?_) bm36_16 rfl rfl (any_of HT_.out (by kernel_rfl)) (fun _ _ _ h => h) (Or.inr ⟨by rfl, rfl⟩) ?_ ?_; rotate_left; (·simp only [um36]; rfl); refine pure_ (i := 16) (N := some 44) (v := undef) (a' := ?_) bm36_17 rfl rfl (any_of HT_.out (by kernel_rfl)) (fun _ _ _ h => h) (Or.inr ⟨by rfl, rfl⟩) ?_ ?_; rotate_left; (·simp only [um36]; rfl); refine pure_ (i := 17) (N := some 45) (v := undef) (a' := ?_) bm36_18 rfl rfl (any_of HT_.out (by kernel_rfl)) (fun _ _ _ h => h) (Or.inr ⟨by rfl, rfl⟩) ?_ ?_; rotate_left; (·simp only [um36]; rfl); refine pure_ (i := 18) (N := some 46) (v := ?_) (a' := ?_) bm36_19 rfl rfl (any_of HT_.out (by kernel_rfl)) (fun _ _ _ h => h) (Or.inl ⟨by rfl, ?_⟩) ?_ ?_; rotate_left
     ·intro w'; go_simp; (with_reducible rfl)
     rotate_left; (·simp only [um36]; rfl); refine pure_ (i := 19) (N := some 4) (v := ?_) (a' := ?_) bm36_20 rfl rfl (any_of HT_.out (by kernel_rfl)) (fun _ _ _ h => h) (Or.inl ⟨by rfl, ?_⟩) ?_ ?_; rotate_left
     ·intro w'; go_simp; (with_reducible rfl)
     rotate_left; (·simp only [um36]; rfl)
     refine done_ (done_of HT_.out (by kernel_rfl)) ?_
     try go_wp2
     go_ret
     exact ⟨by first | rfl | (simp [errW_none, errW_some] <;> rfl) | (simp [*, errW_none, errW_some] <;> rfl), by repeat (first | (with_reducible first | exact HB.out | apply below_alloc | apply pw_below_drewN | apply below_drew1) | exact HB.out)⟩
  ·rw [if_neg c4] at H
   exact absurd H (by simp)

end Go.Proofs.YtkdghhkpmkfjhaaDoor.P


namespace Go.Proofs.YtkdghhkpmkfjhaaDoor.P
open Go.RowKit Go.Proofs.YtkdghhkpmkfjhaaDoorW.PrintWords Go.Proofs.YtkdghhkpmkfjhaaDoorW.PrintLast Go.Proofs.YtkdghhkpmkfjhaaDoorW.PrintMore
attribute [local go_sem] max2_int min2_int max_two min_two max_three min_three max_four min_four
set_option linter.unusedVariables false
set_option linter.unusedSimpArgs false

/-! ### laws_markText: function 71 -/
def laws_markText.l0 : Nat → Int → ByteArray → Option (ByteArray)
 | 0, _, _ => none
 | k + 1, x0, x3 => if x0 > 0 then ((some (([(wrap64 (48 + (Int.tmod x0 10))) % 256] : List Int) : List Int)).bind fun y329 => (if (strOfNums y329).size + x3.size ≤ 9223372036854775807 then (laws_markText.l0 k (wrap64 (Int.tdiv x0 10)) ((strOfNums y329) ++ x3)) else (none))) else (if 1 + x3.size ≤ 9223372036854775807 then (some ((⟨#[109]⟩ : ByteArray) ++ x3)) else (none))
def laws_markText.f (k : Nat) (a0 : Int) : Option (ByteArray) := if a0 ≤ 0 then (some (⟨#[109, 48]⟩ : ByteArray)) else (laws_markText.l0 k a0 (⟨#[]⟩ : ByteArray))
theorem laws_markText.mono_l : ∀ k, (∀ y0 y1, LeO (laws_markText.l0 k y0 y1) (laws_markText.l0 (k + 1) y0 y1))
 | 0 => fun _ _ r h => by simp [laws_markText.l0] at h
 | k + 1 => by
  have ih0 := laws_markText.mono_l k
  ·intro y0 y1
   unfold laws_markText.l0
   repeat' first
   | (with_reducible exact ih0 _ _)
   | (with_reducible exact LeO.refl _)
   | (with_reducible exact LeO.none _)
   | (with_reducible refine LeO.ite ?_ ?_)
   | (with_reducible refine LeO.bind ?_ (fun _ => ?_))
   | exact ih0 _ _
   | exact LeO.none _
   | refine LeO.ite ?_ ?_
   | refine LeO.bind ?_ (fun _ => ?_)
theorem laws_markText.mono : ∀ a0 k, LeO (laws_markText.f k a0) (laws_markText.f (k + 1) a0) := by
 intro a0 k; have ih0 := laws_markText.mono_l k
 unfold laws_markText.f
 repeat' first
   | (with_reducible exact ih0 _ _)
   | (with_reducible exact LeO.refl _)
   | (with_reducible exact LeO.none _)
   | (with_reducible refine LeO.ite ?_ ?_)
   | (with_reducible refine LeO.bind ?_ (fun _ => ?_))
   | exact ih0 _ _
   | exact LeO.none _
   | refine LeO.ite ?_ ?_
   | refine LeO.bind ?_ (fun _ => ?_)
set_option maxHeartbeats 8000000 in
set_option maxRecDepth 100000 in
theorem laws_markText.calls (k : Nat) (a0 : Int) (r : ByteArray) (w : World) (h : laws_markText.f k a0 = some r) :
  Calls Tryd.prog 71 #[.int .i64 a0] w fun e w' => e = .returned (.string r) ∧ Below w.heap.size w w' := by
 have HB := Aside0.mk (Below.refl w.heap.size w); have H : (if a0 ≤ 0 then (some (⟨#[109, 48]⟩ : ByteArray)) else (laws_markText.l0 k a0 (⟨#[]⟩ : ByteArray))) = some r := h; clear h
 by_cases c2 : a0 ≤ 0
 ·rw [if_pos c2] at H
  have c2b0 : decide (a0 ≤ 0) = true := decide_eq_true c2; clear c2; obtain rfl := Option.some.inj H
  go_enter Tryd.func71, Tryd.ntmps71
  go_wp2
  go_ret
  exact ⟨by first | rfl | (simp [errW_none, errW_some] <;> rfl) | (simp [*, errW_none, errW_some] <;> rfl), by repeat (first | (with_reducible first | exact HB.out | apply below_alloc | apply pw_below_drewN | apply below_drew1) | exact HB.out)⟩
 ·rw [if_neg c2] at H
  have c2b0 : decide (a0 ≤ 0) = false := decide_eq_false c2; clear c2; have H' := Aside0.mk H; clear H
  go_enter Tryd.func71, Tryd.ntmps71
  go_wp2
  go_loopg [0, 3] k (fun kq v0 v3 w' => ∃ (x0_1 : Int) (x3_1 : ByteArray), v0 = .int .i64 x0_1 ∧ v3 = .string x3_1 ∧ Aside0 (laws_markText.l0 kq x0_1 x3_1 = some r) ∧ Aside0 (kq ≤ k) ∧ Aside0 (Below w.heap.size w w'))
  case atStart => exact ⟨(a0), ((⟨#[]⟩ : ByteArray)), (by first | rfl | (simp; done) | (simp [*]; done)), (by first | rfl | (simp; done) | (simp [*]; done)), H', ⟨Nat.le_refl _⟩, ⟨by repeat (first | (with_reducible first | exact HB.out | apply below_alloc | apply pw_below_drewN | apply below_drew1) | exact HB.out)⟩⟩
  case round =>
   clear H'; (try clear c2); (try clear c2b0); (try clear p2); obtain ⟨x0_1, x3_1, rfl, rfl, HA, HK1, HB⟩ := hrel
   cases gk with
   | zero => exact absurd HA.out (by simp [laws_markText.l0])
   | succ k1 =>
    have H := HA.out; clear HA; simp only [laws_markText.l0] at H
    by_cases c3 : x0_1 > 0
    ·rw [if_pos c3] at H
     have c3b0 : decide (0 < x0_1) = true := decide_eq_true c3; clear c3
     obtain ⟨y329, hy329⟩ : ∃ y_ : List Int, y_ = (([(wrap64 (48 + (Int.tmod x0_1 10))) % 256] : List Int)) := ⟨_, rfl⟩
     replace H : (if (strOfNums y329).size + x3_1.size ≤ 9223372036854775807 then (laws_markText.l0 k1 (wrap64 (Int.tdiv x0_1 10)) ((strOfNums y329) ++ x3_1)) else (none)) = some r := by first | (rw [hy329]; with_reducible exact H) | (have H2_ := (Option.bind_some _ _).symm.trans H; rw [hy329]; with_reducible exact H2_) | (have H2_ := (Option.bind_some _ _).symm.trans H; with_reducible exact H2_) | with_reducible exact H | (rw [hy329]; exact H) | exact H
     have Ny329 := Aside0.mk hy329; clear hy329
     by_cases c4 : (strOfNums y329).size + x3_1.size ≤ 9223372036854775807
     ·rw [if_pos c4] at H
      have c4b0 := eq_true c4; have c4b1 : decide ((strOfNums y329).size + x3_1.size ≤ 9223372036854775807) = true := decide_eq_true c4
      try have c4b2 : (9223372036854775807 < (strOfNums y329).size + x3_1.size) = False := eq_false (Nat.not_lt.2 c4)
      have H' := Aside0.mk H; clear H
      go_wp2_with (first | ((with_reducible refine gate_dst (N := 12) rfl ?_); refine Kd.R_lit (Kd.int .u8) _ 5 ?hg (N := 12) ?hd (xs := ([(wrap64 (48 + (Int.tmod x0_1 10))) % 256] : List Int)) (inner := [.int .u8 ((wrap64 (48 + (Int.tmod x0_1 10))) % 256)]) (ok := fun _ => True) (okp := fun _ => True) ?hr ?hp (fun _ hk => hk) trivial (Below.refl _ _) (Nat.le_refl _) (by simp) ?_; (case hd => rfl); (case hg => rfl); (case hr => first | (go_simp; done) | (go_simp; rfl)); (case hp => exact (Reps.one (show Kd.M (Kd.int .u8) _ _ _ ((wrap64 (48 + (Int.tmod x0_1 10))) % 256) [.int .u8 ((wrap64 (48 + (Int.tmod x0_1 10))) % 256)] from rfl) (Reps.none _ _))); intro v330 w5 ho6 hb hg_ hnew_; clear hg_ hnew_; (first | rw [← Ny329.out] at ho6 | (simp only [Int.reduceToNat] at ho6; rw [← Ny329.out] at ho6)); have n0_ := Aside0.mk (Kd.R_lower ho6 (below_size (by repeat (first | (with_reducible first | exact HB.out | apply below_alloc | apply pw_below_drewN | apply below_drew1) | exact HB.out)))); have n1_ := Aside0.mk (below_step (by repeat (first | (with_reducible first | exact HB.out | apply below_alloc | apply pw_below_drewN | apply below_drew1) | exact HB.out)) hb); clear HB; have HO331 := n0_; have HB := n1_; clear n0_ n1_; clear hb ho6; have hcv7 := own_string (P := Tryd.prog) Tryd.underlying106 Tryd.underlying5 Tryd.underlying9 (Kd.own_of_R HO331.out)))
      go_roundg k1
      case measure => have := HK1.out; omega
      case rel => exact ⟨(wrap64 (Int.tdiv x0_1 10)), ((strOfNums y329) ++ x3_1), (by first | rfl | (simp; done) | (simp [*]; done)), (by first | rfl | (simp; done) | (simp [*]; done)), H', ⟨by have := HK1.out; omega⟩, ⟨by repeat (first | (with_reducible first | exact HB.out | apply below_alloc | apply pw_below_drewN | apply below_drew1) | exact HB.out)⟩⟩
     ·rw [if_neg c4] at H
      exact absurd H (by simp)
    ·rw [if_neg c3] at H
     have c3b0 : decide (0 < x0_1) = false := decide_eq_false c3; clear c3
     by_cases c8 : 1 + x3_1.size ≤ 9223372036854775807
     ·rw [if_pos c8] at H
      have c8b0 := eq_true c8; have c8b1 : decide (1 + x3_1.size ≤ 9223372036854775807) = true := decide_eq_true c8
      try have c8b2 : (9223372036854775807 < 1 + x3_1.size) = False := eq_false (Nat.not_lt.2 c8)
      obtain rfl := Option.some.inj H
      go_wp2
      go_ret
      exact ⟨by first | rfl | (simp [errW_none, errW_some] <;> rfl) | (simp [*, errW_none, errW_some] <;> rfl), by repeat (first | (with_reducible first | exact HB.out | apply below_alloc | apply pw_below_drewN | apply below_drew1) | exact HB.out)⟩
     ·rw [if_neg c8] at H
      exact absurd H (by simp)

end Go.Proofs.YtkdghhkpmkfjhaaDoor.P


namespace Go.Proofs.YtkdghhkpmkfjhaaDoor.P
open Go.RowKit Go.Proofs.YtkdghhkpmkfjhaaDoorW.PrintWords Go.Proofs.YtkdghhkpmkfjhaaDoorW.PrintLast Go.Proofs.YtkdghhkpmkfjhaaDoorW.PrintMore
attribute [local go_sem] max2_int min2_int max_two min_two max_three min_three max_four min_four
set_option linter.unusedVariables false
set_option linter.unusedSimpArgs false

abbrev tm42 := true
abbrev fm42 := false
abbrev bm42_0 : Array Bool := #[fm42, fm42, fm42, fm42, fm42, fm42, fm42, fm42]
abbrev bm42_1 : Array Bool := #[tm42, fm42, fm42, fm42, fm42, fm42, fm42, fm42]
abbrev bm42_2 : Array Bool := #[tm42, tm42, fm42, fm42, fm42, fm42, fm42, fm42]
abbrev bm42_3 : Array Bool := #[tm42, tm42, tm42, fm42, fm42, fm42, fm42, fm42]
abbrev bm42_4 : Array Bool := #[tm42, tm42, tm42, tm42, fm42, fm42, fm42, fm42]
abbrev bm42_5 : Array Bool := #[tm42, tm42, tm42, tm42, fm42, tm42, fm42, fm42]
abbrev bm42_6 : Array Bool := #[tm42, tm42, tm42, tm42, tm42, tm42, fm42, fm42]
abbrev bm42_7 : Array Bool := #[tm42, tm42, tm42, tm42, tm42, tm42, tm42, fm42]
abbrev bm42_8 : Array Bool := #[tm42, tm42, tm42, tm42, tm42, tm42, tm42, tm42]
theorem um42 : (∀ (a : Act) (d : Tmp) (v : Value), Act.put a (some d) v = { a with tmps := a.tmps.setIfInBounds d v }) ∧ (∀ (l : List Value) (i : Nat) (a : Value), l.toArray.setIfInBounds i a = (l.set i a).toArray) ∧ (∀ (x : Value) (l : List Value) (a : Value), (x :: l).set 0 a = a :: l) ∧ (∀ (x : Value) (l : List Value) (i : Nat) (a : Value), (x :: l).set (i + 1) a = x :: l.set i a) ∧ (∀ n : Int, IntKind.i64.wrap n = wrap64 n) := ⟨fun _ _ _ => rfl, fun l i a => List.setIfInBounds_toArray l i a, fun _ _ _ => rfl, fun _ _ _ _ => rfl, i64_w⟩
/-! ### laws_heldEntryS: function 62 -/
def laws_heldEntryS.l0 : Nat → List (S45) → Int → Int → Option (Int)
 | 0, _, _, _ => none
 | k + 1, x0, x1, x5 => if x5 < (x0.length : Int) then (if 0 ≤ x5 then ((laws_markText.f k x1).bind fun t341 => (if ((rd_T45 x0 x5).f0).toList = t341.toList then ((laws_markText.f k (wrap64 (x1 + 1))).bind fun t343 => (if ((rd_T45 x0 x5).f1).toList = t343.toList then (if (((rd_T45 x0 x5).f2) != ((Int.tmod (wrap64 ((wrap64 (x1 + 1)) + 1)) 3) == 0)) = true then (some (-1)) else (laws_heldEntryS.l0 k x0 (wrap64 ((wrap64 ((wrap64 (x1 + 1)) + 1)) + 1)) (wrap64 (x5 + 1)))) else (some (-1)))) else (some (-1)))) else (none)) else (some x1)
def laws_heldEntryS.f (k : Nat) (l0 : List (S45)) (a1 : Int) : Option (Int) := laws_heldEntryS.l0 k l0 a1 0
theorem laws_heldEntryS.mono_l : ∀ k, (∀ y0 y1 y2, LeO (laws_heldEntryS.l0 k y0 y1 y2) (laws_heldEntryS.l0 (k + 1) y0 y1 y2))
 | 0 => fun _ _ _ r h => by simp [laws_heldEntryS.l0] at h
 | k + 1 => by
  have ih0 := laws_heldEntryS.mono_l k
  ·intro y0 y1 y2
   unfold laws_heldEntryS.l0
   repeat' first
   | (with_reducible exact ih0 _ _ _)
   | (with_reducible exact laws_markText.mono _ _)
   | (with_reducible exact LeO.refl _)
   | (with_reducible exact LeO.none _)
   | (with_reducible refine LeO.ite ?_ ?_)
   | (with_reducible refine LeO.bind ?_ (fun _ => ?_))
   | exact ih0 _ _ _
   | exact laws_markText.mono _ _
   | exact LeO.none _
   | refine LeO.ite ?_ ?_
   | refine LeO.bind ?_ (fun _ => ?_)
theorem laws_heldEntryS.mono : ∀ a0 a1 k, LeO (laws_heldEntryS.f k a0 a1) (laws_heldEntryS.f (k + 1) a0 a1) := by
 intro a0 a1 k; have ih0 := laws_heldEntryS.mono_l k
 unfold laws_heldEntryS.f
 repeat' first
   | (with_reducible exact ih0 _ _ _)
   | (with_reducible exact laws_markText.mono _ _)
   | (with_reducible exact LeO.refl _)
   | (with_reducible exact LeO.none _)
   | (with_reducible refine LeO.ite ?_ ?_)
   | (with_reducible refine LeO.bind ?_ (fun _ => ?_))
   | exact ih0 _ _ _
   | exact laws_markText.mono _ _
   | exact LeO.none _
   | refine LeO.ite ?_ ?_
   | refine LeO.bind ?_ (fun _ => ?_)
def laws_heldEntryS.T4 : Bool × List (List Nat × List Nat) := (true, [([], []), ([], []), ([0, 1], [0, 1]), ([2], [2]), ([3], [3]), ([], []), ([5], [5]), ([4, 6], [4, 6])])
def laws_heldEntryS.B4 : List Nat := [0, 0, 3, 7, 15, 0, 32, 127]
theorem laws_heldEntryS.tab4 : rtab .any (opsOf Tryd.f62 4) = laws_heldEntryS.T4 := by kernel_rfl
theorem laws_heldEntryS.bits4 : waitsOk laws_heldEntryS.T4.2 laws_heldEntryS.B4 = true := by kernel_rfl
def laws_heldEntryS.T7 : Bool × List (List Nat × List Nat) := (true, [([], []), ([], []), ([0, 1], [0, 1]), ([2], [2]), ([3], [3]), ([], []), ([5], [5]), ([4, 6], [4, 6])])
def laws_heldEntryS.B7 : List Nat := [0, 0, 3, 7, 15, 0, 32, 127]
theorem laws_heldEntryS.tab7 : rtab .any (opsOf Tryd.f62 7) = laws_heldEntryS.T7 := by kernel_rfl
theorem laws_heldEntryS.bits7 : waitsOk laws_heldEntryS.T7.2 laws_heldEntryS.B7 = true := by kernel_rfl
set_option maxHeartbeats 8000000 in
set_option maxRecDepth 100000 in
theorem laws_heldEntryS.calls (k : Nat) (A0 : Option Addr) (c0 : Nat) (l0 : List (S45)) (a1 : Int) (r : Int) (w : World) (hr0 : Kd.C k45 w A0 l0.length l0) (hc0 : l0.length ≤ c0) (h : laws_heldEntryS.f k l0 a1 = some r) :
  Calls Tryd.prog 62 #[.slice A0 l0.length c0, .int .i64 a1] w fun e w' => e = .returned (.int .i64 r) ∧ Below w.heap.size w w' := by
 have HR0 := Aside0.mk hr0; have HC0 := Aside0.mk hc0; clear hr0 hc0; have HB := Aside0.mk (Below.refl w.heap.size w); have H : (laws_heldEntryS.l0 k l0 a1 0) = some r := h; clear h; have H' := Aside0.mk H; clear H
 go_enter Tryd.func62, Tryd.ntmps62
 go_wp2
 go_loopg [1, 5] k (fun kq v1 v5 w' => ∃ (qc : Int) (qa : Int), v1 = .int .i64 qc ∧ v5 = .int .i64 qa ∧ Aside0 (laws_heldEntryS.l0 kq l0 qc qa = some r) ∧ Aside0 (kq ≤ k) ∧ Aside0 (Below w.heap.size w w'))
 case atStart => exact ⟨(a1), (0), (by first | rfl | (simp; done) | (simp [*]; done)), (by first | rfl | (simp; done) | (simp [*]; done)), H', ⟨Nat.le_refl _⟩, ⟨by repeat (first | (with_reducible first | exact HB.out | apply below_alloc | apply pw_below_drewN | apply below_drew1) | exact HB.out)⟩⟩
 case round =>
  clear H'; (try clear p2); obtain ⟨qc, qa, rfl, rfl, HA, HK1, HB⟩ := hrel
  cases gk with
  | zero => exact absurd HA.out (by simp [laws_heldEntryS.l0])
  | succ k1 =>
   have H := HA.out; clear HA; simp only [laws_heldEntryS.l0] at H
   by_cases c3 : qa < (l0.length : Int)
   ·rw [if_pos c3] at H
    have c3b0 : decide (qa < (l0.length : Int)) = true := decide_eq_true c3; clear c3
    by_cases c4 : 0 ≤ qa
    ·rw [if_pos c4] at H
     have c4b0 : decide (0 ≤ qa) = true := decide_eq_true c4; clear c4; replace H := Option.bind_eq_some_iff.mp H; obtain ⟨t341, A50, H⟩ := H; replace H : (if ((rd_T45 l0 qa).f0).toList = t341.toList then ((laws_markText.f k1 (wrap64 (qc + 1))).bind fun t343 => (if ((rd_T45 l0 qa).f1).toList = t343.toList then (if (((rd_T45 l0 qa).f2) != ((Int.tmod (wrap64 ((wrap64 (qc + 1)) + 1)) 3) == 0)) = true then (some (-1)) else (laws_heldEntryS.l0 k1 l0 (wrap64 ((wrap64 ((wrap64 (qc + 1)) + 1)) + 1)) (wrap64 (qa + 1)))) else (some (-1)))) else (some (-1))) = some r := H; have A5 := Aside0.mk A50; clear A50
     by_cases c6 : ((rd_T45 l0 qa).f0).toList = t341.toList
     ·rw [if_pos c6] at H
      have c6b0 : (((rd_T45 l0 qa).f0).toList == t341.toList) = true := beq_iff_eq.mpr c6; have c6b1 : (((rd_T45 l0 qa).f0).toList != t341.toList) = false := bne_eq_false_iff_eq.mpr c6; clear c6; replace H := Option.bind_eq_some_iff.mp H; obtain ⟨t343, A70, H⟩ := H; replace H : (if ((rd_T45 l0 qa).f1).toList = t343.toList then (if (((rd_T45 l0 qa).f2) != ((Int.tmod (wrap64 ((wrap64 (qc + 1)) + 1)) 3) == 0)) = true then (some (-1)) else (laws_heldEntryS.l0 k1 l0 (wrap64 ((wrap64 ((wrap64 (qc + 1)) + 1)) + 1)) (wrap64 (qa + 1)))) else (some (-1))) = some r := H; have A7 := Aside0.mk A70; clear A70
      by_cases c8 : ((rd_T45 l0 qa).f1).toList = t343.toList
      ·rw [if_pos c8] at H
       have c8b0 : (((rd_T45 l0 qa).f1).toList == t343.toList) = true := beq_iff_eq.mpr c8; have c8b1 : (((rd_T45 l0 qa).f1).toList != t343.toList) = false := bne_eq_false_iff_eq.mpr c8; clear c8
       by_cases c9 : (((rd_T45 l0 qa).f2) != ((Int.tmod (wrap64 ((wrap64 (qc + 1)) + 1)) 3) == 0)) = true
       ·rw [if_pos c9] at H
        have c9b0 : (((rd_T45 l0 qa).f2) != ((Int.tmod (wrap64 ((wrap64 (qc + 1)) + 1)) 3) == 0)) = true := c9; (try (have c9b1 : decide (((rd_T45 l0 qa).f2) = ((Int.tmod (wrap64 ((wrap64 (qc + 1)) + 1)) 3) == 0)) = false := by simpa using c9)); (try (have c9b2 : (((rd_T45 l0 qa).f2) == ((Int.tmod (wrap64 ((wrap64 (qc + 1)) + 1)) 3) == 0)) = false := by simpa using c9)); (try (have c9b3 : ¬ (((rd_T45 l0 qa).f2) = ((Int.tmod (wrap64 ((wrap64 (qc + 1)) + 1)) 3) == 0)) := by simpa using c9)); clear c9; obtain rfl := Option.some.inj H
        try go_wp2
        have qb := Aside0.mk (below_drew1 HB.out); clear HB; have HB := qb; clear qb; have p340 : 0 ≤ (qa : Int) := of_decide_eq_true (by first | (with_reducible assumption) | assumption); have q340 : qa < (l0.length : Int) := of_decide_eq_true (by first | (with_reducible assumption) | assumption); obtain ⟨ad340, e340, hx340_0, hx340_1, hx340_2⟩ := at_T45 HR0.out qa p340 q340; have hw340_2 := hx340_2; have hw340_1 := hx340_1; have hw340_0 := hx340_0
        cases e340
        replace hx340_0 := (HB.out.cell (World.block_lt_of_cell? w _ hx340_0)).trans hx340_0; replace hx340_1 := (HB.out.cell (World.block_lt_of_cell? w _ hx340_1)).trans hx340_1; replace hx340_2 := (HB.out.cell (World.block_lt_of_cell? w _ hx340_2)).trans hx340_2; replace p340 := eq_true p340; replace q340 := eq_true q340; refine start_ (n := 8) (S := fun w' => w'.cell? (ad340.add ((qa).toNat * 3)) = some (.string ((rd_T45 l0 qa).f0)) ∧ w'.cell? ⟨(ad340.add ((qa).toNat * 3)).block, (ad340.add ((qa).toNat * 3)).off + 1, none⟩ = some (.string ((rd_T45 l0 qa).f1)) ∧ w'.cell? ⟨(ad340.add ((qa).toNat * 3)).block, (ad340.add ((qa).toNat * 3)).off + 2, none⟩ = some (.bool ((rd_T45 l0 qa).f2))) (ds := []) bm42_0 (by kernel_rfl) rfl rfl ⟨((HB.out.cell (World.block_lt_of_cell? w _ hw340_0)).trans hw340_0), ((HB.out.cell (World.block_lt_of_cell? w _ hw340_1)).trans hw340_1), ((HB.out.cell (World.block_lt_of_cell? w _ hw340_2)).trans hw340_2)⟩ (fun hHeld => ?_); refine with_tabW laws_heldEntryS.tab4 laws_heldEntryS.bits4 (fun HT_ HW_ => ?_); generalize wr.drew = w10 at HB hx340_0 hx340_1 hx340_2 hHeld ⊢; refine pure_ (i := 0) (N := some 12) (v := ?_) (a' := ?_) bm42_1 rfl rfl (any_of HT_.out (by kernel_rfl)) (fun _ _ _ h => h) (Or.inl ⟨by rfl, ?_⟩) ?_ ?_; rotate_left
        ·intro w'; go_simp; (with_reducible rfl)
        rotate_left; (·simp only [um42]; rfl); refine pure_ (i := 1) (N := some 13) (v := ?_) (a' := ?_) bm42_2 rfl rfl (any_of HT_.out (by kernel_rfl)) (fun _ _ _ h => h) (Or.inl ⟨by rfl, ?_⟩) ?_ ?_; rotate_left
        ·intro w'; go_simp; (with_reducible rfl)
        rotate_left; (·simp only [um42]; rfl); refine pure_ (i := 2) (N := some 14) (v := ?_) (a' := ?_) bm42_3 rfl rfl (any_of HT_.out (by kernel_rfl)) (fun _ _ _ h => h) (Or.inl ⟨by rfl, ?_⟩) ?_ ?_; rotate_left
        ·intro w'; go_simp; (with_reducible rfl)
        rotate_left; (·simp only [um42]; rfl); refine pure_ (i := 3) (N := some 15) (v := ?_) (a' := ?_) bm42_4 rfl rfl (any_of HT_.out (by kernel_rfl)) (fun _ _ _ h => h) (Or.inl ⟨by rfl, ?_⟩) ?_ ?_; rotate_left
        ·intro w'; go_simp; (with_reducible rfl)
        rotate_left; (·simp only [um42]; rfl); refine pure_ (i := 5) (N := some 17) (v := ?_) (a' := ?_) bm42_5 rfl rfl (any_of HT_.out (by kernel_rfl)) (fun _ _ _ h => h) (Or.inl ⟨by rfl, ?_⟩) ?_ ?_; rotate_left
        ·intro w'; go_simp; (with_reducible rfl)
        rotate_left; (·simp only [um42]; rfl); refine take_ (i := 4) (N := some 16) (v := ?_) (a' := ?_) bm42_6 rfl rfl (take_ofW HT_.out HW_.out (by kernel_rfl)) (fun _ _ _ h => h) (Or.inl ⟨by rfl, ?_⟩) hHeld ?_ ?_; rotate_left
        ·rintro w' ⟨s0, s1, s2⟩; go_simp; (with_reducible rfl)
        rotate_left; (·simp only [um42]; rfl)
        refine one_ (i := 6) (N := some 18) bm42_7 rfl rfl (one_of HT_.out (by kernel_rfl)) (by decide) (fun K hK => ?_); refine goes_ Tryd.func71 (by kernel_rfl) rfl #[.int .i64 qc] (by rfl) rfl rfl (by (try simp only [List.map_toArray, List.map_cons, List.map_nil]); first | done | rfl | (simp only [List.length_drop, List.length_take]; rfl)) ?_; (with_reducible refine (laws_markText.calls k1 qc t341 _ A5.out).mono ?_); rintro e w11 ⟨rfl, hb⟩; refine ⟨_, rfl, ?_⟩; have qb := Aside0.mk (below_step (by repeat (first | (with_reducible first | exact HB.out | apply below_alloc | apply pw_below_drewN | apply below_drew1) | exact HB.out)) hb); clear HB; have HB := qb; clear qb; (try clear hb); (try clear hb2); (try clear hk); (try clear hi); refine hK.out _ _ ⟨((HB.out.cell (World.block_lt_of_cell? w _ hw340_0)).trans hw340_0), ((HB.out.cell (World.block_lt_of_cell? w _ hw340_1)).trans hw340_1), ((HB.out.cell (World.block_lt_of_cell? w _ hw340_2)).trans hw340_2)⟩ (fun hHeld => ?_); clear hK K; refine norm_ (a' := ?_) ?_ ?_; rotate_left
        ·show Act.put _ (some 18) _ = _
         simp only [um42]; rfl
        refine pure_ (i := 7) (N := some 19) (v := ?_) (a' := ?_) bm42_8 rfl rfl (any_of HT_.out (by kernel_rfl)) (fun _ _ _ h => h) (Or.inl ⟨by rfl, ?_⟩) ?_ ?_; rotate_left
        ·intro w'; go_simp; (with_reducible rfl)
        rotate_left; (·simp only [um42]; rfl)
        refine done_ (done_of HT_.out (by kernel_rfl)) ?_
        try go_wp2
        have qb := Aside0.mk (below_drew1 HB.out); clear HB; have HB := qb; clear qb; have p342 : 0 ≤ (qa : Int) := of_decide_eq_true (by first | (with_reducible assumption) | assumption); have q342 : qa < (l0.length : Int) := of_decide_eq_true (by first | (with_reducible assumption) | assumption); obtain ⟨ad342, e342, hx342_0, hx342_1, hx342_2⟩ := at_T45 HR0.out qa p342 q342; have hw342_2 := hx342_2; have hw342_1 := hx342_1; have hw342_0 := hx342_0
        obtain rfl : ad340 = ad342 := (by injection e342)
        replace hx342_0 := (HB.out.cell (World.block_lt_of_cell? w _ hx342_0)).trans hx342_0; replace hx342_1 := (HB.out.cell (World.block_lt_of_cell? w _ hx342_1)).trans hx342_1; replace hx342_2 := (HB.out.cell (World.block_lt_of_cell? w _ hx342_2)).trans hx342_2; replace p342 := eq_true p342; replace q342 := eq_true q342; refine start_ (n := 8) (S := fun w' => w'.cell? (ad340.add ((qa).toNat * 3)) = some (.string ((rd_T45 l0 qa).f0)) ∧ w'.cell? ⟨(ad340.add ((qa).toNat * 3)).block, (ad340.add ((qa).toNat * 3)).off + 1, none⟩ = some (.string ((rd_T45 l0 qa).f1)) ∧ w'.cell? ⟨(ad340.add ((qa).toNat * 3)).block, (ad340.add ((qa).toNat * 3)).off + 2, none⟩ = some (.bool ((rd_T45 l0 qa).f2))) (ds := []) bm42_0 (by kernel_rfl) rfl rfl ⟨((HB.out.cell (World.block_lt_of_cell? w _ hw342_0)).trans hw342_0), ((HB.out.cell (World.block_lt_of_cell? w _ hw342_1)).trans hw342_1), ((HB.out.cell (World.block_lt_of_cell? w _ hw342_2)).trans hw342_2)⟩ (fun hHeld => ?_); refine with_tabW laws_heldEntryS.tab7 laws_heldEntryS.bits7 (fun HT_ HW_ => ?_); generalize w11.drew = w12 at HB hx342_0 hx342_1 hx342_2 hHeld ⊢; refine pure_ (i := 0) (N := some 22) (v := ?_) (a' := ?_) bm42_1 rfl rfl (any_of HT_.out (by kernel_rfl)) (fun _ _ _ h => h) (Or.inl ⟨by rfl, ?_⟩) ?_ ?_; rotate_left
        ·intro w'; go_simp; (with_reducible rfl)
        rotate_left; (·simp only [um42]; rfl); refine pure_ (i := 1) (N := some 23) (v := ?_) (a' := ?_) bm42_2 rfl rfl (any_of HT_.out (by kernel_rfl)) (fun _ _ _ h => h) (Or.inl ⟨by rfl, ?_⟩) ?_ ?_; rotate_left
        ·intro w'; go_simp; (with_reducible rfl)
        rotate_left; (·simp only [um42]; rfl); refine pure_ (i := 2) (N := some 24) (v := ?_) (a' := ?_) bm42_3 rfl rfl (any_of HT_.out (by kernel_rfl)) (fun _ _ _ h => h) (Or.inl ⟨by rfl, ?_⟩) ?_ ?_; rotate_left
        ·intro w'; go_simp; (with_reducible rfl)
        rotate_left; (·simp only [um42]; rfl); refine pure_ (i := 3) (N := some 25) (v := ?_) (a' := ?_) bm42_4 rfl rfl (any_of HT_.out (by kernel_rfl)) (fun _ _ _ h => h) (Or.inl ⟨by rfl, ?_⟩) ?_ ?_; rotate_left
        ·intro w'; go_simp; (with_reducible rfl)
        rotate_left; (·simp only [um42]; rfl); refine pure_ (i := 5) (N := some 27) (v := ?_) (a' := ?_) bm42_5 rfl rfl (any_of HT_.out (by kernel_rfl)) (fun _ _ _ h => h) (Or.inl ⟨by rfl, ?_⟩) ?_ ?_; rotate_left
        ·intro w'; go_simp; (with_reducible rfl)
        rotate_left; (·simp only [um42]; rfl); refine take_ (i := 4) (N := some 26) (v := ?_) (a' := ?_) bm42_6 rfl rfl (take_ofW HT_.out HW_.out (by kernel_rfl)) (fun _ _ _ h => h) (Or.inl ⟨by rfl, ?_⟩) hHeld ?_ ?_; rotate_left
        ·rintro w' ⟨s0, s1, s2⟩; go_simp; (with_reducible rfl)
        rotate_left; (·simp only [um42]; rfl)
        refine one_ (i := 6) (N := some 28) bm42_7 rfl rfl (one_of HT_.out (by kernel_rfl)) (by decide) (fun K hK => ?_); refine goes_ Tryd.func71 (by kernel_rfl) rfl #[.int .i64 (wrap64 (qc + 1))] (by rfl) rfl rfl (by (try simp only [List.map_toArray, List.map_cons, List.map_nil]); first | done | rfl | (simp only [List.length_drop, List.length_take]; rfl)) ?_; (with_reducible refine (laws_markText.calls k1 (wrap64 (qc + 1)) t343 _ A7.out).mono ?_); rintro e w13 ⟨rfl, hb⟩; refine ⟨_, rfl, ?_⟩; have qb := Aside0.mk (below_step (by repeat (first | (with_reducible first | exact HB.out | apply below_alloc | apply pw_below_drewN | apply below_drew1) | exact HB.out)) hb); clear HB; have HB := qb; clear qb; (try clear hb); (try clear hb2); (try clear hk); (try clear hi); refine hK.out _ _ ⟨((HB.out.cell (World.block_lt_of_cell? w _ hw342_0)).trans hw342_0), ((HB.out.cell (World.block_lt_of_cell? w _ hw342_1)).trans hw342_1), ((HB.out.cell (World.block_lt_of_cell? w _ hw342_2)).trans hw342_2)⟩ (fun hHeld => ?_); clear hK K; refine norm_ (a' := ?_) ?_ ?_; rotate_left
        ·show Act.put _ (some 28) _ = _
         simp only [um42]; rfl
        refine pure_ (i := 7) (N := some 29) (v := ?_) (a' := ?_) bm42_8 rfl rfl (any_of HT_.out (by kernel_rfl)) (fun _ _ _ h => h) (Or.inl ⟨by rfl, ?_⟩) ?_ ?_; rotate_left
        ·intro w'; go_simp; (with_reducible rfl)
        rotate_left; (·simp only [um42]; rfl)
        refine done_ (done_of HT_.out (by kernel_rfl)) ?_; have p344 : 0 ≤ (qa : Int) := of_decide_eq_true (by first | (with_reducible assumption) | assumption); have q344 : qa < (l0.length : Int) := of_decide_eq_true (by first | (with_reducible assumption) | assumption); obtain ⟨ad344, e344, hx344_0, hx344_1, hx344_2⟩ := at_T45 HR0.out qa p344 q344
        obtain rfl : ad340 = ad344 := (by injection e344)
        replace hx344_0 := (HB.out.cell (World.block_lt_of_cell? w _ hx344_0)).trans hx344_0; replace hx344_1 := (HB.out.cell (World.block_lt_of_cell? w _ hx344_1)).trans hx344_1; replace hx344_2 := (HB.out.cell (World.block_lt_of_cell? w _ hx344_2)).trans hx344_2; replace p344 := eq_true p344; replace q344 := eq_true q344
        try go_wp2
        go_ret
        exact ⟨by first | rfl | (simp [errW_none, errW_some] <;> rfl) | (simp [*, errW_none, errW_some] <;> rfl), by repeat (first | (with_reducible first | exact HB.out | apply below_alloc | apply pw_below_drewN | apply below_drew1) | exact HB.out)⟩
       ·rw [if_neg c9] at H
        have c9b0 : (((rd_T45 l0 qa).f2) != ((Int.tmod (wrap64 ((wrap64 (qc + 1)) + 1)) 3) == 0)) = false := by simpa using c9
        (try (have c9b1 : decide (((rd_T45 l0 qa).f2) = ((Int.tmod (wrap64 ((wrap64 (qc + 1)) + 1)) 3) == 0)) = true := by simpa using c9)); (try (have c9b2 : (((rd_T45 l0 qa).f2) == ((Int.tmod (wrap64 ((wrap64 (qc + 1)) + 1)) 3) == 0)) = true := by simpa using c9)); clear c9; have H' := Aside0.mk H; clear H
        try go_wp2
        have qb := Aside0.mk (below_drew1 HB.out); clear HB; have HB := qb; clear qb; have p340 : 0 ≤ (qa : Int) := of_decide_eq_true (by first | (with_reducible assumption) | assumption); have q340 : qa < (l0.length : Int) := of_decide_eq_true (by first | (with_reducible assumption) | assumption); obtain ⟨ad340, e340, hx340_0, hx340_1, hx340_2⟩ := at_T45 HR0.out qa p340 q340; have hw340_2 := hx340_2; have hw340_1 := hx340_1; have hw340_0 := hx340_0
        cases e340
        replace hx340_0 := (HB.out.cell (World.block_lt_of_cell? w _ hx340_0)).trans hx340_0; replace hx340_1 := (HB.out.cell (World.block_lt_of_cell? w _ hx340_1)).trans hx340_1; replace hx340_2 := (HB.out.cell (World.block_lt_of_cell? w _ hx340_2)).trans hx340_2; replace p340 := eq_true p340; replace q340 := eq_true q340; refine start_ (n := 8) (S := fun w' => w'.cell? (ad340.add ((qa).toNat * 3)) = some (.string ((rd_T45 l0 qa).f0)) ∧ w'.cell? ⟨(ad340.add ((qa).toNat * 3)).block, (ad340.add ((qa).toNat * 3)).off + 1, none⟩ = some (.string ((rd_T45 l0 qa).f1)) ∧ w'.cell? ⟨(ad340.add ((qa).toNat * 3)).block, (ad340.add ((qa).toNat * 3)).off + 2, none⟩ = some (.bool ((rd_T45 l0 qa).f2))) (ds := []) bm42_0 (by kernel_rfl) rfl rfl ⟨((HB.out.cell (World.block_lt_of_cell? w _ hw340_0)).trans hw340_0), ((HB.out.cell (World.block_lt_of_cell? w _ hw340_1)).trans hw340_1), ((HB.out.cell (World.block_lt_of_cell? w _ hw340_2)).trans hw340_2)⟩ (fun hHeld => ?_); refine with_tabW laws_heldEntryS.tab4 laws_heldEntryS.bits4 (fun HT_ HW_ => ?_); generalize wr.drew = w14 at HB hx340_0 hx340_1 hx340_2 hHeld ⊢; refine pure_ (i := 0) (N := some 12) (v := ?_) (a' := ?_) bm42_1 rfl rfl (any_of HT_.out (by kernel_rfl)) (fun _ _ _ h => h) (Or.inl ⟨by rfl, ?_⟩) ?_ ?_; rotate_left
        ·intro w'; go_simp; (with_reducible rfl)
        rotate_left; (·simp only [um42]; rfl); refine pure_ (i := 1) (N := some 13) (v := ?_) (a' := ?_) bm42_2 rfl rfl (any_of HT_.out (by kernel_rfl)) (fun _ _ _ h => h) (Or.inl ⟨by rfl, ?_⟩) ?_ ?_; rotate_left
        ·intro w'; go_simp; (with_reducible rfl)
        rotate_left; (·simp only [um42]; rfl); refine pure_ (i := 2) (N := some 14) (v := ?_) (a' := ?_) bm42_3 rfl rfl (any_of HT_.out (by kernel_rfl)) (fun _ _ _ h => h) (Or.inl ⟨by rfl, ?_⟩) ?_ ?_; rotate_left
        ·intro w'; go_simp; (with_reducible rfl)
        rotate_left; (·simp only [um42]; rfl); refine pure_ (i := 3) (N := some 15) (v := ?_) (a' := ?_) bm42_4 rfl rfl (any_of HT_.out (by kernel_rfl)) (fun _ _ _ h => h) (Or.inl ⟨by rfl, ?_⟩) ?_ ?_; rotate_left
        ·intro w'; go_simp; (with_reducible rfl)
        rotate_left; (·simp only [um42]; rfl); refine pure_ (i := 5) (N := some 17) (v := ?_) (a' := ?_) bm42_5 rfl rfl (any_of HT_.out (by kernel_rfl)) (fun _ _ _ h => h) (Or.inl ⟨by rfl, ?_⟩) ?_ ?_; rotate_left
        ·intro w'; go_simp; (with_reducible rfl)
        rotate_left; (·simp only [um42]; rfl); refine take_ (i := 4) (N := some 16) (v := ?_) (a' := ?_) bm42_6 rfl rfl (take_ofW HT_.out HW_.out (by kernel_rfl)) (fun _ _ _ h => h) (Or.inl ⟨by rfl, ?_⟩) hHeld ?_ ?_; rotate_left
        ·rintro w' ⟨s0, s1, s2⟩; go_simp; (with_reducible rfl)
        rotate_left; (·simp only [um42]; rfl)
        refine one_ (i := 6) (N := some 18) bm42_7 rfl rfl (one_of HT_.out (by kernel_rfl)) (by decide) (fun K hK => ?_); refine goes_ Tryd.func71 (by kernel_rfl) rfl #[.int .i64 qc] (by rfl) rfl rfl (by (try simp only [List.map_toArray, List.map_cons, List.map_nil]); first | done | rfl | (simp only [List.length_drop, List.length_take]; rfl)) ?_; (with_reducible refine (laws_markText.calls k1 qc t341 _ A5.out).mono ?_); rintro e w15 ⟨rfl, hb⟩; refine ⟨_, rfl, ?_⟩; have qb := Aside0.mk (below_step (by repeat (first | (with_reducible first | exact HB.out | apply below_alloc | apply pw_below_drewN | apply below_drew1) | exact HB.out)) hb); clear HB; have HB := qb; clear qb; (try clear hb); (try clear hb2); (try clear hk); (try clear hi); refine hK.out _ _ ⟨((HB.out.cell (World.block_lt_of_cell? w _ hw340_0)).trans hw340_0), ((HB.out.cell (World.block_lt_of_cell? w _ hw340_1)).trans hw340_1), ((HB.out.cell (World.block_lt_of_cell? w _ hw340_2)).trans hw340_2)⟩ (fun hHeld => ?_); clear hK K; refine norm_ (a' := ?_) ?_ ?_; rotate_left
        ·show Act.put _ (some 18) _ = _
         simp only [um42]; rfl
        refine pure_ (i := 7) (N := some 19) (v := ?_) (a' := ?_) bm42_8 rfl rfl (any_of HT_.out (by kernel_rfl)) (fun _ _ _ h => h) (Or.inl ⟨by rfl, ?_⟩) ?_ ?_; rotate_left
        ·intro w'; go_simp; (with_reducible rfl)
        rotate_left; (·simp only [um42]; rfl)
        refine done_ (done_of HT_.out (by kernel_rfl)) ?_
        try go_wp2
        have qb := Aside0.mk (below_drew1 HB.out); clear HB; have HB := qb; clear qb; have p342 : 0 ≤ (qa : Int) := of_decide_eq_true (by first | (with_reducible assumption) | assumption); have q342 : qa < (l0.length : Int) := of_decide_eq_true (by first | (with_reducible assumption) | assumption); obtain ⟨ad342, e342, hx342_0, hx342_1, hx342_2⟩ := at_T45 HR0.out qa p342 q342; have hw342_2 := hx342_2; have hw342_1 := hx342_1; have hw342_0 := hx342_0
        obtain rfl : ad340 = ad342 := (by injection e342)
        replace hx342_0 := (HB.out.cell (World.block_lt_of_cell? w _ hx342_0)).trans hx342_0; replace hx342_1 := (HB.out.cell (World.block_lt_of_cell? w _ hx342_1)).trans hx342_1; replace hx342_2 := (HB.out.cell (World.block_lt_of_cell? w _ hx342_2)).trans hx342_2; replace p342 := eq_true p342; replace q342 := eq_true q342; refine start_ (n := 8) (S := fun w' => w'.cell? (ad340.add ((qa).toNat * 3)) = some (.string ((rd_T45 l0 qa).f0)) ∧ w'.cell? ⟨(ad340.add ((qa).toNat * 3)).block, (ad340.add ((qa).toNat * 3)).off + 1, none⟩ = some (.string ((rd_T45 l0 qa).f1)) ∧ w'.cell? ⟨(ad340.add ((qa).toNat * 3)).block, (ad340.add ((qa).toNat * 3)).off + 2, none⟩ = some (.bool ((rd_T45 l0 qa).f2))) (ds := []) bm42_0 (by kernel_rfl) rfl rfl ⟨((HB.out.cell (World.block_lt_of_cell? w _ hw342_0)).trans hw342_0), ((HB.out.cell (World.block_lt_of_cell? w _ hw342_1)).trans hw342_1), ((HB.out.cell (World.block_lt_of_cell? w _ hw342_2)).trans hw342_2)⟩ (fun hHeld => ?_); refine with_tabW laws_heldEntryS.tab7 laws_heldEntryS.bits7 (fun HT_ HW_ => ?_); generalize w15.drew = w16 at HB hx342_0 hx342_1 hx342_2 hHeld ⊢; refine pure_ (i := 0) (N := some 22) (v := ?_) (a' := ?_) bm42_1 rfl rfl (any_of HT_.out (by kernel_rfl)) (fun _ _ _ h => h) (Or.inl ⟨by rfl, ?_⟩) ?_ ?_; rotate_left
        ·intro w'; go_simp; (with_reducible rfl)
        rotate_left; (·simp only [um42]; rfl); refine pure_ (i := 1) (N := some 23) (v := ?_) (a' := ?_) bm42_2 rfl rfl (any_of HT_.out (by kernel_rfl)) (fun _ _ _ h => h) (Or.inl ⟨by rfl, ?_⟩) ?_ ?_; rotate_left
        ·intro w'; go_simp; (with_reducible rfl)
        rotate_left; (·simp only [um42]; rfl); refine pure_ (i := 2) (N := some 24) (v := ?_) (a' := ?_) bm42_3 rfl rfl (any_of HT_.out (by kernel_rfl)) (fun _ _ _ h => h) (Or.inl ⟨by rfl, ?_⟩) ?_ ?_; rotate_left
        ·intro w'; go_simp; (with_reducible rfl)
        rotate_left; (·simp only [um42]; rfl); refine pure_ (i := 3) (N := some 25) (v := ?_) (a' := ?_) bm42_4 rfl rfl (any_of HT_.out (by kernel_rfl)) (fun _ _ _ h => h) (Or.inl ⟨by rfl, ?_⟩) ?_ ?_; rotate_left
        ·intro w'; go_simp; (with_reducible rfl)
        rotate_left; (·simp only [um42]; rfl); refine pure_ (i := 5) (N := some 27) (v := ?_) (a' := ?_) bm42_5 rfl rfl (any_of HT_.out (by kernel_rfl)) (fun _ _ _ h => h) (Or.inl ⟨by rfl, ?_⟩) ?_ ?_; rotate_left
        ·intro w'; go_simp; (with_reducible rfl)
        rotate_left; (·simp only [um42]; rfl); refine take_ (i := 4) (N := some 26) (v := ?_) (a' := ?_) bm42_6 rfl rfl (take_ofW HT_.out HW_.out (by kernel_rfl)) (fun _ _ _ h => h) (Or.inl ⟨by rfl, ?_⟩) hHeld ?_ ?_; rotate_left
        ·rintro w' ⟨s0, s1, s2⟩; go_simp; (with_reducible rfl)
        rotate_left; (·simp only [um42]; rfl)
        refine one_ (i := 6) (N := some 28) bm42_7 rfl rfl (one_of HT_.out (by kernel_rfl)) (by decide) (fun K hK => ?_); refine goes_ Tryd.func71 (by kernel_rfl) rfl #[.int .i64 (wrap64 (qc + 1))] (by rfl) rfl rfl (by (try simp only [List.map_toArray, List.map_cons, List.map_nil]); first | done | rfl | (simp only [List.length_drop, List.length_take]; rfl)) ?_; (with_reducible refine (laws_markText.calls k1 (wrap64 (qc + 1)) t343 _ A7.out).mono ?_); rintro e w17 ⟨rfl, hb⟩; refine ⟨_, rfl, ?_⟩; have qb := Aside0.mk (below_step (by repeat (first | (with_reducible first | exact HB.out | apply below_alloc | apply pw_below_drewN | apply below_drew1) | exact HB.out)) hb); clear HB; have HB := qb; clear qb; (try clear hb); (try clear hb2); (try clear hk); (try clear hi); refine hK.out _ _ ⟨((HB.out.cell (World.block_lt_of_cell? w _ hw342_0)).trans hw342_0), ((HB.out.cell (World.block_lt_of_cell? w _ hw342_1)).trans hw342_1), ((HB.out.cell (World.block_lt_of_cell? w _ hw342_2)).trans hw342_2)⟩ (fun hHeld => ?_); clear hK K; refine norm_ (a' := ?_) ?_ ?_; rotate_left
        ·show Act.put _ (some 28) _ = _
         simp only [um42]; rfl
        refine pure_ (i := 7) (N := some 29) (v := ?_) (a' := ?_) bm42_8 rfl rfl (any_of HT_.out (by kernel_rfl)) (fun _ _ _ h => h) (Or.inl ⟨by rfl, ?_⟩) ?_ ?_; rotate_left
        ·intro w'; go_simp; (with_reducible rfl)
        rotate_left; (·simp only [um42]; rfl)
        refine done_ (done_of HT_.out (by kernel_rfl)) ?_; have p344 : 0 ≤ (qa : Int) := of_decide_eq_true (by first | (with_reducible assumption) | assumption); have q344 : qa < (l0.length : Int) := of_decide_eq_true (by first | (with_reducible assumption) | assumption); obtain ⟨ad344, e344, hx344_0, hx344_1, hx344_2⟩ := at_T45 HR0.out qa p344 q344
        obtain rfl : ad340 = ad344 := (by injection e344)
        replace hx344_0 := (HB.out.cell (World.block_lt_of_cell? w _ hx344_0)).trans hx344_0; replace hx344_1 := (HB.out.cell (World.block_lt_of_cell? w _ hx344_1)).trans hx344_1; replace hx344_2 := (HB.out.cell (World.block_lt_of_cell? w _ hx344_2)).trans hx344_2; replace p344 := eq_true p344; replace q344 := eq_true q344
        try go_wp2
        go_roundg k1
        case measure => have := HK1.out; omega
        case rel => exact ⟨(wrap64 ((wrap64 ((wrap64 (qc + 1)) + 1)) + 1)), (wrap64 (qa + 1)), (by first | rfl | (simp; done) | (simp [*]; done)), (by first | rfl | (simp; done) | (simp [*]; done)), H', ⟨by have := HK1.out; omega⟩, ⟨by repeat (first | (with_reducible first | exact HB.out | apply below_alloc | apply pw_below_drewN | apply below_drew1) | exact HB.out)⟩⟩
      ·rw [if_neg c8] at H
       have c8b0 : (((rd_T45 l0 qa).f1).toList == t343.toList) = false := beq_eq_false_iff_ne.mpr c8; have c8b1 : (((rd_T45 l0 qa).f1).toList != t343.toList) = true := bne_iff_ne.mpr c8; obtain rfl := Option.some.inj H
       try go_wp2
       have qb := Aside0.mk (below_drew1 HB.out); clear HB; have HB := qb; clear qb; have p340 : 0 ≤ (qa : Int) := of_decide_eq_true (by first | (with_reducible assumption) | assumption); have q340 : qa < (l0.length : Int) := of_decide_eq_true (by first | (with_reducible assumption) | assumption); obtain ⟨ad340, e340, hx340_0, hx340_1, hx340_2⟩ := at_T45 HR0.out qa p340 q340; have hw340_2 := hx340_2; have hw340_1 := hx340_1; have hw340_0 := hx340_0
       cases e340
       replace hx340_0 := (HB.out.cell (World.block_lt_of_cell? w _ hx340_0)).trans hx340_0; replace hx340_1 := (HB.out.cell (World.block_lt_of_cell? w _ hx340_1)).trans hx340_1; replace hx340_2 := (HB.out.cell (World.block_lt_of_cell? w _ hx340_2)).trans hx340_2; replace p340 := eq_true p340; replace q340 := eq_true q340; refine start_ (n := 8) (S := fun w' => w'.cell? (ad340.add ((qa).toNat * 3)) = some (.string ((rd_T45 l0 qa).f0)) ∧ w'.cell? ⟨(ad340.add ((qa).toNat * 3)).block, (ad340.add ((qa).toNat * 3)).off + 1, none⟩ = some (.string ((rd_T45 l0 qa).f1)) ∧ w'.cell? ⟨(ad340.add ((qa).toNat * 3)).block, (ad340.add ((qa).toNat * 3)).off + 2, none⟩ = some (.bool ((rd_T45 l0 qa).f2))) (ds := []) bm42_0 (by kernel_rfl) rfl rfl ⟨((HB.out.cell (World.block_lt_of_cell? w _ hw340_0)).trans hw340_0), ((HB.out.cell (World.block_lt_of_cell? w _ hw340_1)).trans hw340_1), ((HB.out.cell (World.block_lt_of_cell? w _ hw340_2)).trans hw340_2)⟩ (fun hHeld => ?_); refine with_tabW laws_heldEntryS.tab4 laws_heldEntryS.bits4 (fun HT_ HW_ => ?_); generalize wr.drew = w18 at HB hx340_0 hx340_1 hx340_2 hHeld ⊢; refine pure_ (i := 0) (N := some 12) (v := ?_) (a' := ?_) bm42_1 rfl rfl (any_of HT_.out (by kernel_rfl)) (fun _ _ _ h => h) (Or.inl ⟨by rfl, ?_⟩) ?_ ?_; rotate_left
       ·intro w'; go_simp; (with_reducible rfl)
       rotate_left; (·simp only [um42]; rfl); refine pure_ (i := 1) (N := some 13) (v := ?_) (a' := ?_) bm42_2 rfl rfl (any_of HT_.out (by kernel_rfl)) (fun _ _ _ h => h) (Or.inl ⟨by rfl, ?_⟩) ?_ ?_; rotate_left
       ·intro w'; go_simp; (with_reducible rfl)
       rotate_left; (·simp only [um42]; rfl); refine pure_ (i := 2) (N := some 14) (v := ?_) (a' := ?_) bm42_3 rfl rfl (any_of HT_.out (by kernel_rfl)) (fun _ _ _ h => h) (Or.inl ⟨by rfl, ?_⟩) ?_ ?_; rotate_left
       ·intro w'; go_simp; (with_reducible rfl)
       rotate_left; (·simp only [um42]; rfl); refine pure_ (i := 3) (N := some 15) (v := ?_) (a' := ?_) bm42_4 rfl rfl (any_of HT_.out (by kernel_rfl)) (fun _ _ _ h => h) (Or.inl ⟨by rfl, ?_⟩) ?_ ?_; rotate_left
       ·intro w'; go_simp; (with_reducible rfl)
       rotate_left; (·simp only [um42]; rfl); refine pure_ (i := 5) (N := some 17) (v := ?_) (a' := ?_) bm42_5 rfl rfl (any_of HT_.out (by kernel_rfl)) (fun _ _ _ h => h) (Or.inl ⟨by rfl, ?_⟩) ?_ ?_; rotate_left
       ·intro w'; go_simp; (with_reducible rfl)
       rotate_left; (·simp only [um42]; rfl); refine take_ (i := 4) (N := some 16) (v := ?_) (a' := ?_) bm42_6 rfl rfl (take_ofW HT_.out HW_.out (by kernel_rfl)) (fun _ _ _ h => h) (Or.inl ⟨by rfl, ?_⟩) hHeld ?_ ?_; rotate_left
       ·rintro w' ⟨s0, s1, s2⟩; go_simp; (with_reducible rfl)
       rotate_left; (·simp only [um42]; rfl)
       refine one_ (i := 6) (N := some 18) bm42_7 rfl rfl (one_of HT_.out (by kernel_rfl)) (by decide) (fun K hK => ?_); refine goes_ Tryd.func71 (by kernel_rfl) rfl #[.int .i64 qc] (by rfl) rfl rfl (by (try simp only [List.map_toArray, List.map_cons, List.map_nil]); first | done | rfl | (simp only [List.length_drop, List.length_take]; rfl)) ?_; (with_reducible refine (laws_markText.calls k1 qc t341 _ A5.out).mono ?_); rintro e w19 ⟨rfl, hb⟩; refine ⟨_, rfl, ?_⟩; have qb := Aside0.mk (below_step (by repeat (first | (with_reducible first | exact HB.out | apply below_alloc | apply pw_below_drewN | apply below_drew1) | exact HB.out)) hb); clear HB; have HB := qb; clear qb; (try clear hb); (try clear hb2); (try clear hk); (try clear hi); refine hK.out _ _ ⟨((HB.out.cell (World.block_lt_of_cell? w _ hw340_0)).trans hw340_0), ((HB.out.cell (World.block_lt_of_cell? w _ hw340_1)).trans hw340_1), ((HB.out.cell (World.block_lt_of_cell? w _ hw340_2)).trans hw340_2)⟩ (fun hHeld => ?_); clear hK K; refine norm_ (a' := ?_) ?_ ?_; rotate_left
       ·show Act.put _ (some 18) _ = _
        simp only [um42]; rfl
       refine pure_ (i := 7) (N := some 19) (v := ?_) (a' := ?_) bm42_8 rfl rfl (any_of HT_.out (by kernel_rfl)) (fun _ _ _ h => h) (Or.inl ⟨by rfl, ?_⟩) ?_ ?_; rotate_left
       ·intro w'; go_simp; (with_reducible rfl)
       rotate_left; (·simp only [um42]; rfl)
       refine done_ (done_of HT_.out (by kernel_rfl)) ?_
       try go_wp2
       have qb := Aside0.mk (below_drew1 HB.out); clear HB; have HB := qb; clear qb; have p342 : 0 ≤ (qa : Int) := of_decide_eq_true (by first | (with_reducible assumption) | assumption); have q342 : qa < (l0.length : Int) := of_decide_eq_true (by first | (with_reducible assumption) | assumption); obtain ⟨ad342, e342, hx342_0, hx342_1, hx342_2⟩ := at_T45 HR0.out qa p342 q342; have hw342_2 := hx342_2; have hw342_1 := hx342_1; have hw342_0 := hx342_0
       obtain rfl : ad340 = ad342 := (by injection e342)
       replace hx342_0 := (HB.out.cell (World.block_lt_of_cell? w _ hx342_0)).trans hx342_0; replace hx342_1 := (HB.out.cell (World.block_lt_of_cell? w _ hx342_1)).trans hx342_1; replace hx342_2 := (HB.out.cell (World.block_lt_of_cell? w _ hx342_2)).trans hx342_2; replace p342 := eq_true p342; replace q342 := eq_true q342; refine start_ (n := 8) (S := fun w' => w'.cell? (ad340.add ((qa).toNat * 3)) = some (.string ((rd_T45 l0 qa).f0)) ∧ w'.cell? ⟨(ad340.add ((qa).toNat * 3)).block, (ad340.add ((qa).toNat * 3)).off + 1, none⟩ = some (.string ((rd_T45 l0 qa).f1)) ∧ w'.cell? ⟨(ad340.add ((qa).toNat * 3)).block, (ad340.add ((qa).toNat * 3)).off + 2, none⟩ = some (.bool ((rd_T45 l0 qa).f2))) (ds := []) bm42_0 (by kernel_rfl) rfl rfl ⟨((HB.out.cell (World.block_lt_of_cell? w _ hw342_0)).trans hw342_0), ((HB.out.cell (World.block_lt_of_cell? w _ hw342_1)).trans hw342_1), ((HB.out.cell (World.block_lt_of_cell? w _ hw342_2)).trans hw342_2)⟩ (fun hHeld => ?_); refine with_tabW laws_heldEntryS.tab7 laws_heldEntryS.bits7 (fun HT_ HW_ => ?_); generalize w19.drew = w20 at HB hx342_0 hx342_1 hx342_2 hHeld ⊢; refine pure_ (i := 0) (N := some 22) (v := ?_) (a' := ?_) bm42_1 rfl rfl (any_of HT_.out (by kernel_rfl)) (fun _ _ _ h => h) (Or.inl ⟨by rfl, ?_⟩) ?_ ?_; rotate_left
       ·intro w'; go_simp; (with_reducible rfl)
       rotate_left; (·simp only [um42]; rfl); refine pure_ (i := 1) (N := some 23) (v := ?_) (a' := ?_) bm42_2 rfl rfl (any_of HT_.out (by kernel_rfl)) (fun _ _ _ h => h) (Or.inl ⟨by rfl, ?_⟩) ?_ ?_; rotate_left
       ·intro w'; go_simp; (with_reducible rfl)
       rotate_left; (·simp only [um42]; rfl); refine pure_ (i := 2) (N := some 24) (v := ?_) (a' := ?_) bm42_3 rfl rfl (any_of HT_.out (by kernel_rfl)) (fun _ _ _ h => h) (Or.inl ⟨by rfl, ?_⟩) ?_ ?_; rotate_left
       ·intro w'; go_simp; (with_reducible rfl)
       rotate_left; (·simp only [um42]; rfl); refine pure_ (i := 3) (N := some 25) (v := ?_) (a' := ?_) bm42_4 rfl rfl (any_of HT_.out (by kernel_rfl)) (fun _ _ _ h => h) (Or.inl ⟨by rfl, ?_⟩) ?_ ?_; rotate_left
       ·intro w'; go_simp; (with_reducible rfl)
       rotate_left; (·simp only [um42]; rfl); refine pure_ (i := 5) (N := some 27) (v := ?_) (a' := ?_) bm42_5 rfl rfl (any_of HT_.out (by kernel_rfl)) (fun _ _ _ h => h) (Or.inl ⟨by rfl, ?_⟩) ?_ ?_; rotate_left
       ·intro w'; go_simp; (with_reducible rfl)
       rotate_left; (·simp only [um42]; rfl); refine take_ (i := 4) (N := some 26) (v := ?_) (a' := ?_) bm42_6 rfl rfl (take_ofW HT_.out HW_.out (by kernel_rfl)) (fun _ _ _ h => h) (Or.inl ⟨by rfl, ?_⟩) hHeld ?_ ?_; rotate_left
       ·rintro w' ⟨s0, s1, s2⟩; go_simp; (with_reducible rfl)
       rotate_left; (·simp only [um42]; rfl)
       refine one_ (i := 6) (N := some 28) bm42_7 rfl rfl (one_of HT_.out (by kernel_rfl)) (by decide) (fun K hK => ?_); refine goes_ Tryd.func71 (by kernel_rfl) rfl #[.int .i64 (wrap64 (qc + 1))] (by rfl) rfl rfl (by (try simp only [List.map_toArray, List.map_cons, List.map_nil]); first | done | rfl | (simp only [List.length_drop, List.length_take]; rfl)) ?_; (with_reducible refine (laws_markText.calls k1 (wrap64 (qc + 1)) t343 _ A7.out).mono ?_); rintro e w21 ⟨rfl, hb⟩; refine ⟨_, rfl, ?_⟩; have qb := Aside0.mk (below_step (by repeat (first | (with_reducible first | exact HB.out | apply below_alloc | apply pw_below_drewN | apply below_drew1) | exact HB.out)) hb); clear HB; have HB := qb; clear qb; (try clear hb); (try clear hb2); (try clear hk); (try clear hi); refine hK.out _ _ ⟨((HB.out.cell (World.block_lt_of_cell? w _ hw342_0)).trans hw342_0), ((HB.out.cell (World.block_lt_of_cell? w _ hw342_1)).trans hw342_1), ((HB.out.cell (World.block_lt_of_cell? w _ hw342_2)).trans hw342_2)⟩ (fun hHeld => ?_); clear hK K; refine norm_ (a' := ?_) ?_ ?_; rotate_left
       ·show Act.put _ (some 28) _ = _
        simp only [um42]; rfl
       refine pure_ (i := 7) (N := some 29) (v := ?_) (a' := ?_) bm42_8 rfl rfl (any_of HT_.out (by kernel_rfl)) (fun _ _ _ h => h) (Or.inl ⟨by rfl, ?_⟩) ?_ ?_; rotate_left
       ·intro w'; go_simp; (with_reducible rfl)
       rotate_left; (·simp only [um42]; rfl)
       refine done_ (done_of HT_.out (by kernel_rfl)) ?_
       try go_wp2
       go_ret
       exact ⟨by first | rfl | (simp [errW_none, errW_some] <;> rfl) | (simp [*, errW_none, errW_some] <;> rfl), by repeat (first | (with_reducible first | exact HB.out | apply below_alloc | apply pw_below_drewN | apply below_drew1) | exact HB.out)⟩
     ·rw [if_neg c6] at H
      have c6b0 : (((rd_T45 l0 qa).f0).toList == t341.toList) = false := beq_eq_false_iff_ne.mpr c6; have c6b1 : (((rd_T45 l0 qa).f0).toList != t341.toList) = true := bne_iff_ne.mpr c6; obtain rfl := Option.some.inj H
      try go_wp2
      have qb := Aside0.mk (below_drew1 HB.out); clear HB; have HB := qb; clear qb; have p340 : 0 ≤ (qa : Int) := of_decide_eq_true (by first | (with_reducible assumption) | assumption); have q340 : qa < (l0.length : Int) := of_decide_eq_true (by first | (with_reducible assumption) | assumption); obtain ⟨ad340, e340, hx340_0, hx340_1, hx340_2⟩ := at_T45 HR0.out qa p340 q340; have hw340_2 := hx340_2; have hw340_1 := hx340_1; have hw340_0 := hx340_0
      cases e340
      replace hx340_0 := (HB.out.cell (World.block_lt_of_cell? w _ hx340_0)).trans hx340_0; replace hx340_1 := (HB.out.cell (World.block_lt_of_cell? w _ hx340_1)).trans hx340_1; replace hx340_2 := (HB.out.cell (World.block_lt_of_cell? w _ hx340_2)).trans hx340_2; replace p340 := eq_true p340; replace q340 := eq_true q340; refine start_ (n := 8) (S := fun w' => w'.cell? (ad340.add ((qa).toNat * 3)) = some (.string ((rd_T45 l0 qa).f0)) ∧ w'.cell? ⟨(ad340.add ((qa).toNat * 3)).block, (ad340.add ((qa).toNat * 3)).off + 1, none⟩ = some (.string ((rd_T45 l0 qa).f1)) ∧ w'.cell? ⟨(ad340.add ((qa).toNat * 3)).block, (ad340.add ((qa).toNat * 3)).off + 2, none⟩ = some (.bool ((rd_T45 l0 qa).f2))) (ds := []) bm42_0 (by kernel_rfl) rfl rfl ⟨((HB.out.cell (World.block_lt_of_cell? w _ hw340_0)).trans hw340_0), ((HB.out.cell (World.block_lt_of_cell? w _ hw340_1)).trans hw340_1), ((HB.out.cell (World.block_lt_of_cell? w _ hw340_2)).trans hw340_2)⟩ (fun hHeld => ?_); refine with_tabW laws_heldEntryS.tab4 laws_heldEntryS.bits4 (fun HT_ HW_ => ?_); generalize wr.drew = w22 at HB hx340_0 hx340_1 hx340_2 hHeld ⊢; refine pure_ (i := 0) (N := some 12) (v := ?_) (a' := ?_) bm42_1 rfl rfl (any_of HT_.out (by kernel_rfl)) (fun _ _ _ h => h) (Or.inl ⟨by rfl, ?_⟩) ?_ ?_; rotate_left
      ·intro w'; go_simp; (with_reducible rfl)
      rotate_left; (·simp only [um42]; rfl); refine pure_ (i := 1) (N := some 13) (v := ?_) (a' := ?_) bm42_2 rfl rfl (any_of HT_.out (by kernel_rfl)) (fun _ _ _ h => h) (Or.inl ⟨by rfl, ?_⟩) ?_ ?_; rotate_left
      ·intro w'; go_simp; (with_reducible rfl)
      rotate_left; (·simp only [um42]; rfl); refine pure_ (i := 2) (N := some 14) (v := ?_) (a' := ?_) bm42_3 rfl rfl (any_of HT_.out (by kernel_rfl)) (fun _ _ _ h => h) (Or.inl ⟨by rfl, ?_⟩) ?_ ?_; rotate_left
      ·intro w'; go_simp; (with_reducible rfl)
      rotate_left; (·simp only [um42]; rfl); refine pure_ (i := 3) (N := some 15) (v := ?_) (a' := ?_) bm42_4 rfl rfl (any_of HT_.out (by kernel_rfl)) (fun _ _ _ h => h) (Or.inl ⟨by rfl, ?_⟩) ?_ ?_; rotate_left
      ·intro w'; go_simp; (with_reducible rfl)
      rotate_left; (·simp only [um42]; rfl); refine pure_ (i := 5) (N := some 17) (v := ?_) (a' := ?_) bm42_5 rfl rfl (any_of HT_.out (by kernel_rfl)) (fun _ _ _ h => h) (Or.inl ⟨by rfl, ?_⟩) ?_ ?_; rotate_left
      ·intro w'; go_simp; (with_reducible rfl)
      rotate_left; (·simp only [um42]; rfl); refine take_ (i := 4) (N := some 16) (v := ?_) (a' := ?_) bm42_6 rfl rfl (take_ofW HT_.out HW_.out (by kernel_rfl)) (fun _ _ _ h => h) (Or.inl ⟨by rfl, ?_⟩) hHeld ?_ ?_; rotate_left
      ·rintro w' ⟨s0, s1, s2⟩; go_simp; (with_reducible rfl)
      rotate_left; (·simp only [um42]; rfl)
      refine one_ (i := 6) (N := some 18) bm42_7 rfl rfl (one_of HT_.out (by kernel_rfl)) (by decide) (fun K hK => ?_); refine goes_ Tryd.func71 (by kernel_rfl) rfl #[.int .i64 qc] (by rfl) rfl rfl (by (try simp only [List.map_toArray, List.map_cons, List.map_nil]); first | done | rfl | (simp only [List.length_drop, List.length_take]; rfl)) ?_; (with_reducible refine (laws_markText.calls k1 qc t341 _ A5.out).mono ?_); rintro e w23 ⟨rfl, hb⟩; refine ⟨_, rfl, ?_⟩; have qb := Aside0.mk (below_step (by repeat (first | (with_reducible first | exact HB.out | apply below_alloc | apply pw_below_drewN | apply below_drew1) | exact HB.out)) hb); clear HB; have HB := qb; clear qb; (try clear hb); (try clear hb2); (try clear hk); (try clear hi); refine hK.out _ _ ⟨((HB.out.cell (World.block_lt_of_cell? w _ hw340_0)).trans hw340_0), ((HB.out.cell (World.block_lt_of_cell? w _ hw340_1)).trans hw340_1), ((HB.out.cell (World.block_lt_of_cell? w _ hw340_2)).trans hw340_2)⟩ (fun hHeld => ?_); clear hK K; refine norm_ (a' := ?_) ?_ ?_; rotate_left
      ·show Act.put _ (some 18) _ = _
       simp only [um42]; rfl
      refine pure_ (i := 7) (N := some 19) (v := ?_) (a' := ?_) bm42_8 rfl rfl (any_of HT_.out (by kernel_rfl)) (fun _ _ _ h => h) (Or.inl ⟨by rfl, ?_⟩) ?_ ?_; rotate_left
      ·intro w'; go_simp; (with_reducible rfl)
      rotate_left; (·simp only [um42]; rfl)
      refine done_ (done_of HT_.out (by kernel_rfl)) ?_
      try go_wp2
      go_ret
      exact ⟨by first | rfl | (simp [errW_none, errW_some] <;> rfl) | (simp [*, errW_none, errW_some] <;> rfl), by repeat (first | (with_reducible first | exact HB.out | apply below_alloc | apply pw_below_drewN | apply below_drew1) | exact HB.out)⟩
    ·rw [if_neg c4] at H
     exact absurd H (by simp)
   ·rw [if_neg c3] at H
    have c3b0 : decide (qa < (l0.length : Int)) = false := decide_eq_false c3; clear c3; obtain rfl := Option.some.inj H
    go_wp2
    go_ret
    exact ⟨by first | rfl | (simp [errW_none, errW_some] <;> rfl) | (simp [*, errW_none, errW_some] <;> rfl), by repeat (first | (with_reducible first | exact HB.out | apply below_alloc | apply pw_below_drewN | apply below_drew1) | exact HB.out)⟩

end Go.Proofs.YtkdghhkpmkfjhaaDoor.P


namespace Go.Proofs.YtkdghhkpmkfjhaaDoor.P
open Go.RowKit Go.Proofs.YtkdghhkpmkfjhaaDoorW.PrintWords Go.Proofs.YtkdghhkpmkfjhaaDoorW.PrintLast Go.Proofs.YtkdghhkpmkfjhaaDoorW.PrintMore
attribute [local go_sem] max2_int min2_int max_two min_two max_three min_three max_four min_four
set_option linter.unusedVariables false
set_option linter.unusedSimpArgs false

/-! ### laws_heldTree: function 28 -/
def laws_heldTree.f (k : Nat) (l0_0 : List (S45)) (a1 : Int) : Option (Int) := (laws_heldEntryS.f k l0_0 a1).bind fun t346 => (if t346 < 0 then (some (-1)) else (some t346))
theorem laws_heldTree.mono : ∀ a0 a1 k, LeO (laws_heldTree.f k a0 a1) (laws_heldTree.f (k + 1) a0 a1) := by
 intro a0 a1 k
 unfold laws_heldTree.f
 repeat' first
   | (with_reducible exact laws_heldEntryS.mono _ _ _)
   | (with_reducible exact LeO.refl _)
   | (with_reducible exact LeO.none _)
   | (with_reducible refine LeO.ite ?_ ?_)
   | (with_reducible refine LeO.bind ?_ (fun _ => ?_))
   | exact laws_heldEntryS.mono _ _ _
   | exact LeO.none _
   | refine LeO.ite ?_ ?_
   | refine LeO.bind ?_ (fun _ => ?_)
set_option maxHeartbeats 8000000 in
set_option maxRecDepth 100000 in
theorem laws_heldTree.calls (k : Nat) (A0_0 : Option Addr) (c0_0 : Nat) (l0_0 : List (S45)) (a1 : Int) (r : Int) (w : World) (hr0_0 : Kd.C k45 w A0_0 l0_0.length l0_0) (hc0_0 : l0_0.length ≤ c0_0) (h : laws_heldTree.f k l0_0 a1 = some r) :
  Calls Tryd.prog 28 #[.agg #[.slice A0_0 l0_0.length c0_0], .int .i64 a1] w fun e w' => e = .returned (.int .i64 r) ∧ Below w.heap.size w w' := by
 have hu29 := Tryd.underlying29; have HR0_0 := Aside0.mk hr0_0; have HC0_0 := Aside0.mk hc0_0; clear hr0_0 hc0_0; have HB := Aside0.mk (Below.refl w.heap.size w); have H : ((laws_heldEntryS.f k l0_0 a1).bind fun t346 => (if t346 < 0 then (some (-1)) else (some t346))) = some r := h; clear h; replace H := Option.bind_eq_some_iff.mp H; obtain ⟨t346, A30, H⟩ := H; replace H : (if t346 < 0 then (some (-1)) else (some t346)) = some r := H; have A3 := Aside0.mk A30; clear A30
 by_cases c4 : t346 < 0
 ·rw [if_pos c4] at H
  have c4b0 : decide (t346 < 0) = true := decide_eq_true c4; clear c4; obtain rfl := Option.some.inj H
  go_enter Tryd.func28, Tryd.ntmps28
  go_wp2_with (first | ((with_reducible refine gate_dst (N := 2) rfl ?_); refine box_event ?hg (N := 2) ?hd (cs := #[.slice A0_0 l0_0.length c0_0]) (t := 29) ?hr ?_; (case hd => rfl); (case hg => rfl); (case hr => first | (go_simp; done) | (go_simp; rfl)); intro gb345 hg w5 hbox hb; have n0_ := Aside0.mk (below_step (by repeat (first | (with_reducible first | exact HB.out | apply below_alloc | apply pw_below_drewN | apply below_drew1) | exact HB.out)) hb); have n1_ := Aside0.mk (hbox); have n2_ := Aside0.mk ((by rw [hg]; exact (below_size (by repeat (first | (with_reducible first | exact HB.out | apply below_alloc | apply pw_below_drewN | apply below_drew1) | exact HB.out))) : w.heap.size ≤ gb345)); have n3_ := Aside0.mk ((by rw [hg]; exact (below_size (by repeat (first | (with_reducible first | exact HB.out | apply below_alloc | apply pw_below_drewN | apply below_drew1) | exact HB.out))) : w.heap.size ≤ gb345)); clear HB; have HB := n0_; have BK345 := n1_; have GW345 := n2_; have GE345 := n3_; clear n0_ n1_ n2_ n3_; clear hb hbox hg; have hcz6_0 : w5.cell? ⟨gb345, 0, none⟩ = some (.slice A0_0 l0_0.length c0_0) := (blk_cell BK345.out 0).trans rfl; have hfz6_0 := blk_frozen BK345.out 0) | ((with_reducible refine gate_callee (f := 62) rfl ?_); refine goesL_ (some 8) rfl rfl Tryd.func62 (by kernel_rfl) rfl #[.slice A0_0 l0_0.length c0_0, .int .i64 a1] rfl (by (try simp only [List.map_toArray, List.map_cons, List.map_nil]); first | done | rfl | (simp only [List.length_drop, List.length_take]; rfl)) ?_; (with_reducible refine (laws_heldEntryS.calls k _ _ l0_0 a1 t346 _ ?side1 ?side2 A3.out).mono ?_); (case side1 => repeat (first | exact (Kd.C_below HR0_0.out HB.out) | (with_reducible refine Kd.C_alloc ?_ _) | (with_reducible refine Kd.C_drewN ?_ _) | (with_reducible refine Kd.C_drew ?_))); (case side2 => exact HC0_0.out); rintro e w7 ⟨rfl, hb⟩; refine ⟨_, rfl, ?_⟩; have n0_ := Aside0.mk (blk_below (g := gb345) (o := .cells #[.slice A0_0 l0_0.length c0_0] 29 (0, 0)) (by (with_reducible repeat (first | apply blk_drewN | apply blk_drew | apply blk_alloc)); exact BK345.out) hb); have n1_ := Aside0.mk (below_step (by repeat (first | (with_reducible first | exact HB.out | apply below_alloc | apply pw_below_drewN | apply below_drew1 | refine below_set ?_ GE345.out) | exact HB.out)) hb); clear BK345; clear HB; have BK345 := n0_; have HB := n1_; clear n0_ n1_; (try clear hb); (try clear hb2); (try clear hk); (try clear hi)))
  go_ret
  exact ⟨by first | rfl | (simp [errW_none, errW_some] <;> rfl) | (simp [*, errW_none, errW_some] <;> rfl), by repeat (first | (with_reducible first | exact HB.out | apply below_alloc | apply pw_below_drewN | apply below_drew1 | refine below_set ?_ GE345.out) | exact HB.out)⟩
 ·rw [if_neg c4] at H
  have c4b0 : decide (t346 < 0) = false := decide_eq_false c4; clear c4; obtain rfl := Option.some.inj H
  go_enter Tryd.func28, Tryd.ntmps28
  go_wp2_with (first | ((with_reducible refine gate_dst (N := 2) rfl ?_); refine box_event ?hg (N := 2) ?hd (cs := #[.slice A0_0 l0_0.length c0_0]) (t := 29) ?hr ?_; (case hd => rfl); (case hg => rfl); (case hr => first | (go_simp; done) | (go_simp; rfl)); intro gb345 hg w8 hbox hb; have n0_ := Aside0.mk (below_step (by repeat (first | (with_reducible first | exact HB.out | apply below_alloc | apply pw_below_drewN | apply below_drew1) | exact HB.out)) hb); have n1_ := Aside0.mk (hbox); have n2_ := Aside0.mk ((by rw [hg]; exact (below_size (by repeat (first | (with_reducible first | exact HB.out | apply below_alloc | apply pw_below_drewN | apply below_drew1) | exact HB.out))) : w.heap.size ≤ gb345)); have n3_ := Aside0.mk ((by rw [hg]; exact (below_size (by repeat (first | (with_reducible first | exact HB.out | apply below_alloc | apply pw_below_drewN | apply below_drew1) | exact HB.out))) : w.heap.size ≤ gb345)); clear HB; have HB := n0_; have BK345 := n1_; have GW345 := n2_; have GE345 := n3_; clear n0_ n1_ n2_ n3_; clear hb hbox hg; have hcz9_0 : w8.cell? ⟨gb345, 0, none⟩ = some (.slice A0_0 l0_0.length c0_0) := (blk_cell BK345.out 0).trans rfl; have hfz9_0 := blk_frozen BK345.out 0) | ((with_reducible refine gate_callee (f := 62) rfl ?_); refine goesL_ (some 8) rfl rfl Tryd.func62 (by kernel_rfl) rfl #[.slice A0_0 l0_0.length c0_0, .int .i64 a1] rfl (by (try simp only [List.map_toArray, List.map_cons, List.map_nil]); first | done | rfl | (simp only [List.length_drop, List.length_take]; rfl)) ?_; (with_reducible refine (laws_heldEntryS.calls k _ _ l0_0 a1 t346 _ ?side1 ?side2 A3.out).mono ?_); (case side1 => repeat (first | exact (Kd.C_below HR0_0.out HB.out) | (with_reducible refine Kd.C_alloc ?_ _) | (with_reducible refine Kd.C_drewN ?_ _) | (with_reducible refine Kd.C_drew ?_))); (case side2 => exact HC0_0.out); rintro e w10 ⟨rfl, hb⟩; refine ⟨_, rfl, ?_⟩; have n0_ := Aside0.mk (blk_below (g := gb345) (o := .cells #[.slice A0_0 l0_0.length c0_0] 29 (0, 0)) (by (with_reducible repeat (first | apply blk_drewN | apply blk_drew | apply blk_alloc)); exact BK345.out) hb); have n1_ := Aside0.mk (below_step (by repeat (first | (with_reducible first | exact HB.out | apply below_alloc | apply pw_below_drewN | apply below_drew1 | refine below_set ?_ GE345.out) | exact HB.out)) hb); clear BK345; clear HB; have BK345 := n0_; have HB := n1_; clear n0_ n1_; (try clear hb); (try clear hb2); (try clear hk); (try clear hi)))
  go_ret
  exact ⟨by first | rfl | (simp [errW_none, errW_some] <;> rfl) | (simp [*, errW_none, errW_some] <;> rfl), by repeat (first | (with_reducible first | exact HB.out | apply below_alloc | apply pw_below_drewN | apply below_drew1 | refine below_set ?_ GE345.out) | exact HB.out)⟩

end Go.Proofs.YtkdghhkpmkfjhaaDoor.P


namespace Go.Proofs.YtkdghhkpmkfjhaaDoor.P
open Go.RowKit Go.Proofs.YtkdghhkpmkfjhaaDoorW.PrintWords Go.Proofs.YtkdghhkpmkfjhaaDoorW.PrintLast Go.Proofs.YtkdghhkpmkfjhaaDoorW.PrintMore
attribute [local go_sem] max2_int min2_int max_two min_two max_three min_three max_four min_four
set_option linter.unusedVariables false
set_option linter.unusedSimpArgs false

/-! ### laws_markStringS: function 40 -/
def laws_markStringS.l0 : Nat → List ByteArray → Int → Int → Option (Int × List ByteArray)
 | 0, _, _, _ => none
 | k + 1, x0, x1, x5 => if x5 < (x0.length : Int) then ((laws_markText.f k x1).bind fun t546 => (if 0 ≤ x5 then (laws_markStringS.l0 k (x0.set (x5 : Int).toNat t546) (wrap64 (x1 + 1)) (wrap64 (x5 + 1))) else (none))) else (some (x1, x0))
def laws_markStringS.f (k : Nat) (l0 : List ByteArray) (a1 : Int) : Option (Int × List ByteArray) := laws_markStringS.l0 k l0 a1 0
theorem laws_markStringS.mono_l : ∀ k, (∀ y0 y1 y2, LeO (laws_markStringS.l0 k y0 y1 y2) (laws_markStringS.l0 (k + 1) y0 y1 y2))
 | 0 => fun _ _ _ r h => by simp [laws_markStringS.l0] at h
 | k + 1 => by
  have ih0 := laws_markStringS.mono_l k
  ·intro y0 y1 y2
   unfold laws_markStringS.l0
   repeat' first
   | (with_reducible exact ih0 _ _ _)
   | (with_reducible exact laws_markText.mono _ _)
   | (with_reducible exact LeO.refl _)
   | (with_reducible exact LeO.none _)
   | (with_reducible refine LeO.ite ?_ ?_)
   | (with_reducible refine LeO.bind ?_ (fun _ => ?_))
   | exact ih0 _ _ _
   | exact laws_markText.mono _ _
   | exact LeO.none _
   | refine LeO.ite ?_ ?_
   | refine LeO.bind ?_ (fun _ => ?_)
theorem laws_markStringS.mono : ∀ a0 a1 k, LeO (laws_markStringS.f k a0 a1) (laws_markStringS.f (k + 1) a0 a1) := by
 intro a0 a1 k; have ih0 := laws_markStringS.mono_l k
 unfold laws_markStringS.f
 repeat' first
   | (with_reducible exact ih0 _ _ _)
   | (with_reducible exact laws_markText.mono _ _)
   | (with_reducible exact LeO.refl _)
   | (with_reducible exact LeO.none _)
   | (with_reducible refine LeO.ite ?_ ?_)
   | (with_reducible refine LeO.bind ?_ (fun _ => ?_))
   | exact ih0 _ _ _
   | exact laws_markText.mono _ _
   | exact LeO.none _
   | refine LeO.ite ?_ ?_
   | refine LeO.bind ?_ (fun _ => ?_)
set_option maxHeartbeats 8000000 in
set_option maxRecDepth 100000 in
theorem laws_markStringS.calls (k : Nat) (P0_ : Nat → Prop) (u9000_ : Value) (l0 : List ByteArray) (a1 : Int) (r1 : Int) (r2 : List ByteArray) (w0 w : World) (hB : Below w0.heap.size w0 w) (ho0 : Kd.R Kd.string 9 w w0.heap.size P0_ u9000_ l0) (h : laws_markStringS.f k l0 a1 = some (r1, r2)) :
  Calls Tryd.prog 40 #[u9000_, .int .i64 a1] w fun e w' => e = .returned (.int .i64 r1) ∧ Kd.R Kd.string 9 w' w0.heap.size (fun k_ => (P0_ k_ ∨ w.heap.size ≤ k_)) u9000_ r2 ∧ Below w0.heap.size w0 w' ∧ Kept w w' (fun k_ => P0_ k_) := by
 have HO0 := Aside0.mk (show Kd.R Kd.string 9 w w0.heap.size (fun k_ => (P0_ k_ ∨ w.heap.size ≤ k_)) u9000_ l0 from Kd.R_mono ho0 (fun k_ hk => (.inl hk))); have HK := Aside0.mk (Kept.refl w (fun k_ => P0_ k_)); have HW0 := Aside0.mk hB.size; have HB := Aside0.mk hB; clear hB; have H : (laws_markStringS.l0 k l0 a1 0) = some (r1, r2) := h; clear h; have H' := Aside0.mk H; clear H
 go_enter Tryd.func40, Tryd.ntmps40
 go_wp2
 go_loopg [1, 5] k (fun kq v1 v5 w' => ∃ (x0_1 : List ByteArray) (x1_1 : Int) (qa : Int), v1 = .int .i64 x1_1 ∧ v5 = .int .i64 qa ∧ Aside0 (laws_markStringS.l0 kq x0_1 x1_1 qa = some (r1, r2)) ∧ Aside0 (kq ≤ k) ∧ Aside0 (Kd.R Kd.string 9 w' w0.heap.size (fun k_ => (P0_ k_ ∨ w.heap.size ≤ k_)) u9000_ x0_1) ∧ Aside0 (Kept w w' (fun k_ => P0_ k_)) ∧ Aside0 (Below w0.heap.size w0 w'))
 case atStart => exact ⟨(l0), (a1), (0), (by first | rfl | (simp; done) | (simp [*]; done)), (by first | rfl | (simp; done) | (simp [*]; done)), H', ⟨Nat.le_refl _⟩, ⟨by (with_reducible repeat (first | apply Kd.R_alloc | apply Kd.R_drewN | apply Kd.R_drew)); exact HO0.out⟩, ⟨by repeat (first | (with_reducible first | exact HK.out | apply Kept.alloc | apply Kept.drewN | apply Kept.drew) | exact HK.out)⟩, ⟨by repeat (first | (with_reducible first | exact HB.out | apply below_alloc | apply pw_below_drewN | apply below_drew1) | exact HB.out)⟩⟩
 case round =>
  clear H'; (try clear p2); obtain ⟨x0_1, x1_1, qa, rfl, rfl, HA, HK1, HO_0, HK, HB⟩ := hrel
  cases gk with
  | zero => exact absurd HA.out (by simp [laws_markStringS.l0])
  | succ k1 =>
   have H := HA.out; clear HA; simp only [laws_markStringS.l0] at H
   by_cases c3 : qa < (x0_1.length : Int)
   ·rw [if_pos c3] at H
    have c3b0 : decide (qa < (x0_1.length : Int)) = true := decide_eq_true c3; clear c3; replace H := Option.bind_eq_some_iff.mp H; obtain ⟨t546, A40, H⟩ := H; replace H : (if 0 ≤ qa then (laws_markStringS.l0 k1 (x0_1.set (qa : Int).toNat t546) (wrap64 (x1_1 + 1)) (wrap64 (qa + 1))) else (none)) = some (r1, r2) := H; have A4 := Aside0.mk A40; clear A40
    by_cases c5 : 0 ≤ qa
    ·rw [if_pos c5] at H
     have c5b0 : decide (0 ≤ qa) = true := decide_eq_true c5; clear c5
     obtain ⟨y547, hy547⟩ : ∃ y_ : List ByteArray, y_ = (x0_1.set (qa : Int).toNat t546) := ⟨_, rfl⟩
     replace H : (laws_markStringS.l0 k1 y547 (wrap64 (x1_1 + 1)) (wrap64 (qa + 1))) = some (r1, r2) := by first | (rw [hy547]; with_reducible exact H) | (have H2_ := (Option.bind_some _ _).symm.trans H; rw [hy547]; with_reducible exact H2_) | (have H2_ := (Option.bind_some _ _).symm.trans H; with_reducible exact H2_) | with_reducible exact H | (rw [hy547]; exact H) | exact H
     have Ny547 := Aside0.mk hy547; clear hy547; have H' := Aside0.mk H; clear H; obtain ⟨Ao7, co7, eo7⟩ := Kd.R_slice HO_0.out; subst eo7
     go_wp2_with (first | ((with_reducible refine gate_callee (f := 71) rfl ?_); refine goesL_ (some 15) rfl rfl Tryd.func71 (by kernel_rfl) rfl #[.int .i64 x1_1] rfl (by (try simp only [List.map_toArray, List.map_cons, List.map_nil]); first | done | rfl | (simp only [List.length_drop, List.length_take]; rfl)) ?_; (with_reducible refine (laws_markText.calls k1 x1_1 t546 _ A4.out).mono ?_); rintro e w8 ⟨rfl, hb⟩; refine ⟨_, rfl, ?_⟩; have n0_ := Aside0.mk (Kd.R_below (by (with_reducible repeat (first | apply Kd.R_alloc | apply Kd.R_drewN | apply Kd.R_drew)); exact HO_0.out) hb); have n1_ := Aside0.mk (Kept.below (S := (fun k_ => P0_ k_)) (by repeat (first | (with_reducible first | exact HK.out | apply Kept.alloc | apply Kept.drewN | apply Kept.drew) | exact HK.out)) hb); have n2_ := Aside0.mk (below_step (by repeat (first | (with_reducible first | exact HB.out | apply below_alloc | apply pw_below_drewN | apply below_drew1) | exact HB.out)) hb); clear HO_0; clear HK; clear HB; have HO_0 := n0_; have HK := n1_; have HB := n2_; clear n0_ n1_ n2_; (try clear hb); (try clear hb2); (try clear hk); (try clear hi); have p6 : 0 ≤ (qa : Int) := of_decide_eq_true (by first | (with_reducible assumption) | assumption); have q6 : (qa : Int) < ((x0_1.length : Int) : Int) := of_decide_eq_true (by first | (with_reducible assumption) | assumption); obtain ⟨go6, co6, eo6, gb6, gl6, cl6, HG6⟩ := Kd.R_form HO_0.out (by omega); (first | cases eo6 | (injection eo6 with ea_ en_ ec_; (first | subst ea_ | (injection ea_ with ea_; subst ea_)); subst ec_; clear en_)); have GB6 := Aside0.mk gb6; have GG6 := Aside0.mk HG6; clear gb6 gl6 HG6; have HMgo6 := Aside0.mk (show (P0_ go6 ∨ w.heap.size ≤ go6) from (HO_0.out.1 _ rfl)); obtain ⟨hx6_0, hf6_0⟩ := Kd.R_celln (⟨#[]⟩ : ByteArray) HO_0.out (qa : Int) p6 q6; replace p6 := eq_true p6; replace q6 := eq_true q6; obtain ⟨hy9_, hz9_⟩ := Kd.R_celln (⟨#[]⟩ : ByteArray) HO_0.out (qa : Int) (of_decide_eq_true (by first | (with_reducible assumption) | assumption)) (of_decide_eq_true (by first | (with_reducible assumption) | assumption)); have HP9 := Kd.R_putg HO_0.out (qa : Int) t546) | ((with_reducible refine gate_store (t := 9) (p := 16) rfl ?_); refine store_event (t := 9) (p := 16) (v := ?vo_w10) (w1 := (w8.setCell ⟨go6, (qa : Int).toNat, none⟩ (.string t546))) ?hg ?ho ?hn ?hr ?_; (case ho => rfl); (case hg => rfl); (case hn => rfl); (case hr => first | (go_simp; done) | (go_simp; rfl)); intro w10 hw; have hg : w8.grownBy w10 (some go6) := (by rw [hw]; exact HP9.2); have hp_ : Kd.R Kd.string 9 w10 w0.heap.size (fun k_ => (P0_ k_ ∨ w.heap.size ≤ k_)) (.slice (some ⟨go6, 0, none⟩) x0_1.length co7) y547 := (by rw [hw, Ny547.out]; exact HP9.1); clear HP9; have n0_ := Aside0.mk (hp_); have n1_ := Aside0.mk ((by rw [hw]; exact below_set (HB.out) GB6.out : Below w0.heap.size w0 w10)); have n2_ := Aside0.mk (Kept.of_grown (S := (fun k_ => P0_ k_)) hg (by repeat (first | (with_reducible first | exact HK.out | apply Kept.alloc | apply Kept.drewN | apply Kept.drew) | exact HK.out)) (fun k_ e_ => (HO_0.out.1 k_ e_))); clear HO_0; clear HB; clear HK; have HO_0 := n0_; have HB := n1_; have HK := n2_; clear n0_ n1_ n2_; clear hg hw hp_))
     go_roundg k1
     case measure => have := HK1.out; omega
     case rel => exact ⟨(y547), (wrap64 (x1_1 + 1)), (wrap64 (qa + 1)), (by first | rfl | (simp; done) | (simp [*]; done)), (by first | rfl | (simp; done) | (simp [*]; done)), H', ⟨by have := HK1.out; omega⟩, ⟨by (with_reducible repeat (first | apply Kd.R_alloc | apply Kd.R_drewN | apply Kd.R_drew)); exact HO_0.out⟩, ⟨by repeat (first | (with_reducible first | exact HK.out | apply Kept.alloc | apply Kept.drewN | apply Kept.drew) | exact HK.out)⟩, ⟨by repeat (first | (with_reducible first | exact HB.out | apply below_alloc | apply pw_below_drewN | apply below_drew1) | exact HB.out)⟩⟩
    ·rw [if_neg c5] at H
     exact absurd H (by simp)
   ·rw [if_neg c3] at H
    have c3b0 : decide (qa < (x0_1.length : Int)) = false := decide_eq_false c3; clear c3; simp only [Option.some.injEq, Prod.mk.injEq] at H; obtain ⟨rfl, rfl⟩ := H; obtain ⟨Ao11, co11, eo11⟩ := Kd.R_slice HO_0.out; subst eo11
    go_wp2
    go_ret
    exact ⟨by first | rfl | (simp [errW_none, errW_some] <;> rfl) | (simp [*, errW_none, errW_some] <;> rfl), by (with_reducible repeat (first | apply Kd.R_alloc | apply Kd.R_drewN | apply Kd.R_drew)); exact HO_0.out, by repeat (first | (with_reducible first | exact HB.out | apply below_alloc | apply pw_below_drewN | apply below_drew1) | exact HB.out), by repeat (first | (with_reducible first | exact HK.out | apply Kept.alloc | apply Kept.drewN | apply Kept.drew) | exact HK.out)⟩

end Go.Proofs.YtkdghhkpmkfjhaaDoor.P

