/- Several texts of this claim in one file: YtkdghhkpmkfjhaaDoorShelf, YtkdghhkpmkfjhaaDoorMade, YtkdghhkpmkfjhaaDoorBase, YtkdghhkpmkfjhaaDoorBegins, YtkdghhkpmkfjhaaDoorEntries, YtkdghhkpmkfjhaaDoorTexts, YtkdghhkpmkfjhaaDoorMarkText, YtkdghhkpmkfjhaaDoorEntryMarks, YtkdghhkpmkfjhaaDoorSmall, YtkdghhkpmkfjhaaDoorOpens. -/
import Derived.Shelf.Small.Strs
import Derived.Shelf.Strings.Search1
import Derived.Shelf.Strings.Search2
import Derived.Shelf.Strings.Search3
import Derived.Shelf.Strings.Count
import Derived.Shelf.LaysM
import Derived.Shelf.Strings.Shaped
import Derived.Shelf.Strings.Split
import Derived.Shelf.Strings.SplitShaped
import Derived.Shelf.Unicode.DecodeSlow
import Derived.Test.YtkdghhkpmkfjhaaDoorProg
import Derived.Test.YtkdghhkpmkfjhaaDoorM1
import Derived.Lib.Strings
import Derived.Test.YtkdghhkpmkfjhaaDoorM3
import Derived.Test.YtkdghhkpmkfjhaaDoorM2
import Derived.Deep.Slices
import Derived.SizedLaws
import Derived.ChangeArms
import Derived.WideShapes
import Derived.Handed
namespace Go.Proofs
open Go.Shelf
def Tryd.lays146_ren : Go.Shelf.Ren := ⟨fun | 146 => 89 | 221 => 101 | 268 => 110 | 138 => 111 | 143 => 112 | 195 => 132 | 197 => 133 | 218 => 134 | 219 => 135 | 260 => 141 | 217 => 142 | 225 => 143 | 224 => 144 | 267 => 145 | 266 => 147 | 314 => 148 | n => n, fun | 9 => 9 | 31 => 56 | 3 => 3 | 4 => 4 | 0 => 0 | 105 => 144 | 21 => 21 | 5 => 5 | 46 => 112 | 119 => 156 | 139 => 159 | 138 => 158 | 146 => 160 | 51 => 133 | n => n, fun | 1 => 0 | 3 => 1 | 4 => 2 | n => n⟩
theorem Tryd.lays146 : Go.Proofs.Lays.n146 Tryd.prog Tryd.lays146_ren := {
  mixed := by kernel_rfl
  f138 := Tryd.func111.trans (congrArg some (by kernel_rfl))
  f143 := Tryd.func112.trans (congrArg some (by kernel_rfl))
  f146 := Tryd.func89.trans (congrArg some (by kernel_rfl))
  f195 := Tryd.func132.trans (congrArg some (by kernel_rfl))
  f197 := Tryd.func133.trans (congrArg some (by kernel_rfl))
  f217 := Tryd.func142.trans (congrArg some (by kernel_rfl))
  f218 := Tryd.func134.trans (congrArg some (by kernel_rfl))
  f219 := Tryd.func135.trans (congrArg some (by kernel_rfl))
  f221 := Tryd.func101.trans (congrArg some (by kernel_rfl))
  f224 := Tryd.func144.trans (congrArg some (by kernel_rfl))
  f225 := Tryd.func143.trans (congrArg some (by kernel_rfl))
  f260 := Tryd.func141.trans (congrArg some (by kernel_rfl))
  f266 := Tryd.func147.trans (congrArg some (by kernel_rfl))
  f267 := Tryd.func145.trans (congrArg some (by kernel_rfl))
  f268 := Tryd.func110.trans (congrArg some (by kernel_rfl))
  f314 := Tryd.func148.trans (congrArg some (by kernel_rfl))
  t0 := Tryd.underlying0
  a0 := Tryd.isAgg0
  z0 := Tryd.sizeOf0
  v0 := Tryd.zeroValue0
  t3 := Tryd.underlying3
  a3 := Tryd.isAgg3
  z3 := Tryd.sizeOf3
  v3 := Tryd.zeroValue3
  t4 := Tryd.underlying4
  a4 := Tryd.isAgg4
  z4 := Tryd.sizeOf4
  v4 := Tryd.zeroValue4
  t5 := Tryd.underlying5
  a5 := Tryd.isAgg5
  z5 := Tryd.sizeOf5
  v5 := Tryd.zeroValue5
  t9 := Tryd.underlying9
  a9 := Tryd.isAgg9
  z9 := Tryd.sizeOf9
  v9 := Tryd.zeroValue9
  t21 := Tryd.underlying21
  a21 := Tryd.isAgg21
  z21 := Tryd.sizeOf21
  v21 := Tryd.zeroValue21
  t31 := Tryd.underlying56
  a31 := Tryd.isAgg56
  z31 := Tryd.sizeOf56
  v31 := Tryd.zeroValue56
  t46 := Tryd.underlying112
  a46 := Tryd.isAgg112
  z46 := Tryd.sizeOf112
  v46 := Tryd.zeroValue112
  t51 := Tryd.underlying133
  a51 := Tryd.isAgg133
  z51 := Tryd.sizeOf133
  v51 := Tryd.zeroValue133
  t105 := Tryd.underlying144
  a105 := Tryd.isAgg144
  z105 := Tryd.sizeOf144
  v105 := Tryd.zeroValue144
  t119 := Tryd.underlying156
  a119 := Tryd.isAgg156
  z119 := Tryd.sizeOf156
  t138 := Tryd.underlying158
  a138 := Tryd.isAgg158
  z138 := Tryd.sizeOf158
  v138 := Tryd.zeroValue158
  t139 := Tryd.underlying159
  a139 := Tryd.isAgg159
  z139 := Tryd.sizeOf159
  v139 := Tryd.zeroValue159
  t146 := Tryd.underlying160
  a146 := Tryd.isAgg160
  z146 := Tryd.sizeOf160
  v146 := Tryd.zeroValue160
  g1 := by kernel_rfl
  g3 := by kernel_rfl
  g4 := by kernel_rfl }
open Go.RowKit Go.Lib in
/-- strings.Split. (LAID: no walk: one application.) -/
theorem Tryd.strings_Split (s sep : ByteArray) (m : Int) (w : World) (hs : s.size < 4294967281) (hm : w.cell? ⟨0, 0, none⟩ = some (.int .i64 m)) (h1 : 1 ≤ sep.size) :
    Calls Tryd.prog 89 #[.string s, .string sep] w fun e w' =>
      e = .returned (.slice (some ⟨w.heap.size, 0, none⟩) (Lib.countB s sep + 1) (Lib.countB s sep + 1)) ∧ w' = w.alloc (.cells ((Lib.splitB sep 0 (Lib.countB s sep) s).map Value.string).toArray 9) := Any.strings_Split Tryd.lays146 (by kernel_rfl) s sep m w hs hm h1
end Go.Proofs


namespace Go.Proofs.YtkdghhkpmkfjhaaDoor.Ow
open Go Go.Proofs.YtkdghhkpmkfjhaaDoorW.PrintWords

theorem reps_map {α : Type} (enc : α → Value) (h1 : ∀ x, (enc x).oneCell' = true) (w : World) (base : Nat) (ok : Nat → Prop) (xs : List α) : Reps ((Kd.scalar enc h1).M w base ok) 1 xs (xs.map enc) := by
  refine ⟨by rw [List.length_map, Nat.mul_one], fun j p hj => ?_⟩
  have hl : j < xs.length := (List.getElem?_eq_some_iff.1 hj).1
  show ((xs.map enc).drop (j * 1)).take 1 = [enc p]
  rw [Nat.mul_one, List.drop_eq_getElem_cons (by rw [List.length_map]; exact hl), List.take_succ_cons, List.take_zero, List.getElem_map]
  have := (List.getElem?_eq_some_iff.1 hj).2
  rw [this]

/-- A new block of cells that are so encoded is a row of one's own. -/
theorem R_new_block {α : Type} (enc : α → Value) (h1 : ∀ x, (enc x).oneCell' = true) (e : Nat) (w : World) (xs : List α) (hl : xs.length ≤ maxLen) :
    Kd.R (Kd.scalar enc h1) e (w.alloc (.cells (xs.map enc).toArray e)) w.heap.size (fun _ => True) (.slice (some ⟨w.heap.size, 0, none⟩) xs.length xs.length) xs := by
  refine ⟨fun _ _ => trivial, xs.map enc, ⟨by rw [List.length_map]; exact (Nat.mul_one _).symm, .inr ⟨w.heap.size, xs.length, (xs.map enc).toArray, rfl, Nat.le_refl _, ?_, Nat.le_refl _, hl, ?_, ?_⟩⟩, reps_map enc h1 _ _ _ _⟩
  · exact heap_alloc_new w _
  · show (xs.map enc).toArray.size = xs.length * 1
    simp
  · show (xs.map enc).toArray.toList.take (xs.length * 1) = xs.map enc
    rw [Nat.mul_one]
    exact List.take_of_length_le (by simp)
end Go.Proofs.YtkdghhkpmkfjhaaDoor.Ow


namespace Go.Proofs.YtkdghhkpmkfjhaaDoor.Pure
open Go Go.RowKit Go.Proofs.YtkdghhkpmkfjhaaDoorW.PrintWords Go.Proofs.YtkdghhkpmkfjhaaDoorW.PrintLast
set_option linter.unusedVariables false
set_option linter.unusedSimpArgs false

theorem w64 {n : Int} (h0 : -9223372036854775808 ≤ n) (h1 : n ≤ 9223372036854775807) : wrap64 n = n := by
  unfold wrap64
  omega
theorem u64w (n : Int) : IntKind.u64.wrap n = n % 18446744073709551616 := by
  simp [IntKind.wrap, IntKind.bits, IntKind.signed]
theorem u64_in {n : Int} (h0 : 0 ≤ n) (h1 : n < 18446744073709551616) : IntKind.u64.wrap n = n := by
  rw [u64w]
  exact Int.emod_eq_of_lt h0 h1
theorem u64_range (n : Int) : 0 ≤ IntKind.u64.wrap n ∧ IntKind.u64.wrap n < 18446744073709551616 := by
  rw [u64w]
  omega

theorem size_toList (s : ByteArray) : s.data.toList.length = s.size := rfl
theorem bt_getD (s : ByteArray) (i : Nat) : bt s (i : Int) = ((s.data.toList.getD i 0).toNat : Int) := by
  unfold bt
  simp only [Int.toNat_natCast]
  split
  · rename_i h
    rw [List.getD_eq_getElem?_getD, List.getElem?_eq_getElem (by exact h)]
    rfl
  · rename_i h
    rw [List.getD_eq_getElem?_getD, List.getElem?_eq_none (by exact Nat.le_of_not_lt h)]
    rfl
theorem bt0 (s : ByteArray) (i : Int) : 0 ≤ bt s i := (bt_range s i).1
theorem bt1 (s : ByteArray) (i : Int) : bt s i ≤ 255 := (bt_range s i).2

theorem ba_ext {s t : ByteArray} (h : s.data.toList = t.data.toList) : s = t := by
  cases s with
  | mk a => cases t with
    | mk b => exact congrArg ByteArray.mk (Array.toList_inj.1 h)
theorem data_append (s t : ByteArray) : (s ++ t).data.toList = s.data.toList ++ t.data.toList := by
  simp [ByteArray.data_append]
theorem son_data (xs : List Int) : (strOfNums xs).data.toList = xs.map fun n => UInt8.ofNat n.toNat := by
  have := strOfNums_data xs
  exact this
theorem son_size (xs : List Int) : (strOfNums xs).size = xs.length := by
  rw [← size_toList, son_data, List.length_map]
theorem son_append (xs ys : List Int) : strOfNums (xs ++ ys) = strOfNums xs ++ strOfNums ys := by
  apply ba_ext
  rw [data_append, son_data, son_data, son_data, List.map_append]
theorem ba_empty : (⟨#[]⟩ : ByteArray).data.toList = [] := rfl
theorem ba_append_empty (s : ByteArray) : s ++ (⟨#[]⟩ : ByteArray) = s := ba_ext (by rw [data_append, ba_empty, List.append_nil])
theorem ba_empty_append (s : ByteArray) : (⟨#[]⟩ : ByteArray) ++ s = s := ba_ext (by rw [data_append, ba_empty, List.nil_append])

/-- One number of rounds for what each wants some. -/
theorem ev_of {α : Type} {g : Nat → Option α} {r : α} (K : Nat) (h : ∀ k, K < k → g k = some r) : Ev g r := ⟨K + 1, fun k hk => h k (by omega)⟩

theorem bytesOf_len (s : ByteArray) : (bytesOf s).length = s.size := by
  unfold bytesOf
  rw [List.length_map, size_toList]
theorem son_bytesOf (s : ByteArray) : strOfNums (bytesOf s) = s := by
  apply ba_ext
  rw [son_data, bytesOf, List.map_map]
  have : ((fun n : Int => UInt8.ofNat n.toNat) ∘ fun b : UInt8 => (b.toNat : Int)) = id := by
    funext b
    simp
  rw [this, List.map_id]
theorem ba_assoc (a b c : ByteArray) : a ++ b ++ c = a ++ (b ++ c) := ba_ext (by simp only [data_append, List.append_assoc])

/-! ### rounds enough, and what comes out -/
section
variable {α β : Type}
theorem Ev.pos {c : Prop} [Decidable c] {A B : Nat → Option α} {r : α} (h : c) (e : Ev A r) : Ev (fun k => if c then A k else B k) r := Ev.congr (fun k => by rw [if_pos h]) e
theorem Ev.neg {c : Prop} [Decidable c] {A B : Nat → Option α} {r : α} (h : ¬ c) (e : Ev B r) : Ev (fun k => if c then A k else B k) r := Ev.congr (fun k => by rw [if_neg h]) e
theorem Ev.both {c : Prop} [Decidable c] {A B : Nat → Option α} {r s : α} (h1 : c → Ev A r) (h2 : ¬ c → Ev B s) : Ev (fun k => if c then A k else B k) (if c then r else s) := by
  by_cases h : c
  · rw [if_pos h]
    exact Ev.pos h (h1 h)
  · rw [if_neg h]
    exact Ev.neg h (h2 h)
theorem Ev.sb {y : β} {f : Nat → β → Option α} {r : α} (e : Ev (fun k => f k y) r) : Ev (fun k => (some y).bind (f k)) r := e
/-- With rounds enough, something comes out of which Q holds. -/
def Evs (g : Nat → Option α) (Q : α → Prop) : Prop := ∃ r, Q r ∧ Ev g r
theorem Evs.of {g : Nat → Option α} {Q : α → Prop} {r : α} (h : Ev g r) (hq : Q r) : Evs g Q := ⟨r, hq, h⟩
theorem Evs.ret {Q : α → Prop} {r : α} (hq : Q r) : Evs (fun _ => some r) Q := ⟨r, hq, Ev.now r⟩
theorem Evs.mono {g : Nat → Option α} {Q R : α → Prop} (h : Evs g Q) (hq : ∀ r, Q r → R r) : Evs g R := by
  obtain ⟨r, a, b⟩ := h
  exact ⟨r, hq r a, b⟩
theorem Evs.step {g f : Nat → Option α} {Q : α → Prop} (h : ∀ k, g (k + 1) = f k) (e : Evs f Q) : Evs g Q := by
  obtain ⟨r, a, b⟩ := e
  exact ⟨r, a, Ev.step h b⟩
theorem Evs.congr {g f : Nat → Option α} {Q : α → Prop} (h : ∀ k, g k = f k) (e : Evs f Q) : Evs g Q := by
  obtain ⟨r, a, b⟩ := e
  exact ⟨r, a, Ev.congr h b⟩
theorem Evs.bind {g : Nat → Option α} {f : Nat → α → Option β} {Q : α → Prop} {R : β → Prop} (e : Evs g Q) (h : ∀ a, Q a → Evs (fun k => f k a) R) : Evs (fun k => (g k).bind (f k)) R := by
  obtain ⟨a, ha, ea⟩ := e
  obtain ⟨r, hr, er⟩ := h a ha
  exact ⟨r, hr, Ev.bind ea er⟩
theorem Evs.sb {y : β} {f : Nat → β → Option α} {Q : α → Prop} (e : Evs (fun k => f k y) Q) : Evs (fun k => (some y).bind (f k)) Q := e
theorem Evs.pos {c : Prop} [Decidable c] {A B : Nat → Option α} {Q : α → Prop} (h : c) (e : Evs A Q) : Evs (fun k => if c then A k else B k) Q := Evs.congr (fun k => by rw [if_pos h]) e
theorem Evs.neg {c : Prop} [Decidable c] {A B : Nat → Option α} {Q : α → Prop} (h : ¬ c) (e : Evs B Q) : Evs (fun k => if c then A k else B k) Q := Evs.congr (fun k => by rw [if_neg h]) e
theorem Evs.ite {c : Prop} [Decidable c] {A B : Nat → Option α} {Q : α → Prop} (h1 : c → Evs A Q) (h2 : ¬ c → Evs B Q) : Evs (fun k => if c then A k else B k) Q := by
  by_cases h : c
  · exact Evs.pos h (h1 h)
  · exact Evs.neg h (h2 h)
theorem Evs.rounds {g : Nat → Option α} {Q : α → Prop} (h : Evs g Q) : ∃ k r, Q r ∧ g k = some r := by
  obtain ⟨r, hq, e⟩ := h
  obtain ⟨k, hk⟩ := Ev.rounds e
  exact ⟨k, r, hq, hk⟩
end

end Go.Proofs.YtkdghhkpmkfjhaaDoor.Pure


namespace Go.Proofs.YtkdghhkpmkfjhaaDoor.Pure
open Go Go.RowKit Go.Proofs.YtkdghhkpmkfjhaaDoorW.PrintWords Go.Proofs.YtkdghhkpmkfjhaaDoorW.PrintLast
set_option linter.unusedVariables false
set_option linter.unusedSimpArgs false

/-- p lies under d. -/
def begins (d p : ByteArray) : Bool := Lib.hasPrefix p.data.toList (d.data.toList ++ [47])
theorem begins_iff (d p : ByteArray) : begins d p = true ↔ (d.size < p.size ∧ p.extract 0 d.size = d ∧ bt p (d.size : Int) = 47) := by
  unfold begins Lib.hasPrefix
  rw [List.isPrefixOf_iff_prefix, List.prefix_iff_eq_take]
  have hd : d.data.toList.length = d.size := size_toList d
  have hp : p.data.toList.length = p.size := size_toList p
  have hx : (p.extract 0 d.size).data.toList = p.data.toList.take d.size := by
    rw [ByteArray.data_extract, Array.toList_extract, List.extract_eq_take_drop, List.drop_zero, Nat.sub_zero]
  constructor
  · intro h
    have hl := congrArg List.length h
    simp only [List.length_append, List.length_take, List.length_cons, List.length_nil] at hl
    have hlt : d.size < p.size := by omega
    rw [List.length_append, List.length_singleton, List.take_succ_eq_append_getElem (by omega)] at h
    obtain ⟨h1, h2⟩ := List.append_inj' h (by simp)
    refine ⟨hlt, ba_ext (by rw [hx, h1, hd]), ?_⟩
    rw [bt_getD, List.getD_eq_getElem?_getD, List.getElem?_eq_getElem (by omega)]
    have h3 := (List.cons.inj h2).1
    simp only [hd] at h3
    simp [← h3]
  · rintro ⟨h1, h2, h3⟩
    rw [List.length_append, List.length_singleton, List.take_succ_eq_append_getElem (by omega)]
    rw [bt_getD, List.getD_eq_getElem?_getD, List.getElem?_eq_getElem (by omega)] at h3
    have h4 : p.data.toList.take d.size = d.data.toList := by rw [← hx, h2]
    simp only [hd]
    rw [h4]
    congr 1
    congr 1
    apply UInt8.toNat_inj.1
    have : ((p.data.toList[d.size]'(by omega)).toNat : Int) = 47 := by simpa using h3
    have h5 : (p.data.toList[d.size]'(by omega)).toNat = 47 := by omega
    rw [h5]
    rfl

end Go.Proofs.YtkdghhkpmkfjhaaDoor.Pure


namespace Go.Proofs.YtkdghhkpmkfjhaaDoor.Pure
open Go Go.RowKit Go.Proofs.YtkdghhkpmkfjhaaDoor.P Go.Proofs.YtkdghhkpmkfjhaaDoorW.PrintWords Go.Proofs.YtkdghhkpmkfjhaaDoorW.PrintLast
set_option linter.unusedVariables false
set_option linter.unusedSimpArgs false

abbrev LEntry := S62
abbrev Entry := S45
def ofE (a : LEntry) : Entry := ⟨a.f0, a.f1, a.f2⟩

theorem getD_nat {α : Type} (d : α) {l : List α} {i : Nat} (h : i < l.length) : l.getD (i : Int).toNat d = l[i] := by
  rw [Int.toNat_natCast, List.getD_eq_getElem?_getD, List.getElem?_eq_getElem h]
  rfl
theorem rdE_eq {l : List Entry} {i : Nat} (h : i < l.length) : rd_T45 l (i : Int) = l[i] := getD_nat _ h
theorem rdLE_eq {l : List LEntry} {i : Nat} (h : i < l.length) : rd_T62 l (i : Int) = l[i] := getD_nat _ h

theorem szEntry_eq (a b : ByteArray) (r : Bool) (c : Int) (ha : a.size ≤ 140737488351232) (hb : b.size ≤ 140737488351232) (h0 : 0 ≤ c) (h1 : c ≤ 1048576) :
    laws_szEntry.f a b r c = some (if c - (a.size : Int) < 0 then -1 else if c - (a.size : Int) - (b.size : Int) < 0 then -1 else c - (a.size : Int) - (b.size : Int)) := by
  unfold laws_szEntry.f
  rw [w64 (n := c - (a.size : Int)) (by omega) (by omega), w64 (n := c - (a.size : Int) - (b.size : Int)) (by omega) (by omega)]
  split
  · rfl
  · split <;> rfl
/-- What szEntryS tells: no room, or what is left, and that all is small. -/
def RoomE (l : List LEntry) (left r : Int) : Prop := r = -1 ∨ (0 ≤ r ∧ r ≤ left ∧ (l.length : Int) ≤ left ∧ ∀ s ∈ l, (s.f0.size : Int) ≤ left ∧ (s.f1.size : Int) ≤ left)
theorem szE_l0 (l : List LEntry) (hl : l.length ≤ 8796093022208) (hz : ∀ s ∈ l, s.f0.size ≤ 140737488351232 ∧ s.f1.size ≤ 140737488351232) (left : Int) (h1 : left ≤ 1048576) : ∀ (d i : Nat) (c : Int), i + d = l.length → 0 ≤ c → c ≤ left → (∀ j, (h : j < l.length) → j < i → (l[j].f0.size : Int) ≤ left ∧ (l[j].f1.size : Int) ≤ left) →
    ∃ r, Ev (fun k => laws_szEntryS.l0 k l c (i : Int)) r ∧ (r = -1 ∨ (0 ≤ r ∧ r ≤ left ∧ ∀ s ∈ l, (s.f0.size : Int) ≤ left ∧ (s.f1.size : Int) ≤ left))
  | 0, i, c, hd, h0, hc, ha => by
    refine ⟨c, Ev.step (fun k => laws_szEntryS.l0.eq_2 ..) (Ev.neg (by omega) (Ev.now _)), .inr ⟨h0, hc, fun s hs => ?_⟩⟩
    obtain ⟨j, hj, rfl⟩ := List.getElem_of_mem hs
    exact ha j hj (by omega)
  | d + 1, i, c, hd, h0, hc, ha => by
    have hi : i < l.length := by omega
    obtain ⟨hs0, hs1⟩ := hz l[i] (List.getElem_mem hi)
    have e := szEntry_eq l[i].f0 l[i].f1 l[i].f2 c hs0 hs1 h0 (by omega)
    by_cases hn : c - (l[i].f0.size : Int) < 0 ∨ c - (l[i].f0.size : Int) - (l[i].f1.size : Int) < 0
    · refine ⟨-1, Ev.step (fun k => laws_szEntryS.l0.eq_2 ..) (Ev.pos (by omega) (Ev.pos (by omega) ?_)), .inl rfl⟩
      have e2 : laws_szEntry.f l[i].f0 l[i].f1 l[i].f2 c = some (-1) := by
        rw [e]
        split
        · rfl
        · rw [if_pos (by omega)]
      rw [rdLE_eq hi, e2]
      exact Ev.sb (Ev.pos (by omega) (Ev.now _))
    · obtain ⟨r, hr, h⟩ := szE_l0 l hl hz left h1 d (i + 1) (c - (l[i].f0.size : Int) - (l[i].f1.size : Int)) (by omega) (by omega) (by omega) (fun j h hj => by
        rcases Nat.lt_or_ge j i with h' | h'
        · exact ha j h h'
        · obtain rfl : j = i := by omega
          omega)
      refine ⟨r, Ev.step (fun k => laws_szEntryS.l0.eq_2 ..) (Ev.pos (by omega) (Ev.pos (by omega) ?_)), h⟩
      rw [rdLE_eq hi, e, if_neg (by omega), if_neg (by omega), w64 (n := (i : Int) + 1) (by omega) (by omega)]
      exact Ev.sb (Ev.neg (by omega) hr)
theorem szTree_ev (l : List LEntry) (hl : l.length ≤ 8796093022208) (hz : ∀ s ∈ l, s.f0.size ≤ 140737488351232 ∧ s.f1.size ≤ 140737488351232) (left : Int) (h0 : 0 ≤ left) (h1 : left ≤ 1048576) :
    ∃ r, Ev (fun k => laws_szTree.f k l left) r ∧ RoomE l left r := by
  unfold laws_szTree.f laws_szEntryS.f RoomE
  rw [w64 (n := left - (l.length : Int)) (by omega) (by omega)]
  by_cases hn : left - (l.length : Int) < 0
  · exact ⟨-1, Ev.bind (Ev.pos hn (Ev.now _)) (Ev.pos (by omega) (Ev.now _)), .inl rfl⟩
  · obtain ⟨r, hr, h⟩ := szE_l0 l hl hz left h1 l.length 0 (left - (l.length : Int)) (by omega) (by omega) (by omega) (fun j h hj => by omega)
    rcases h with h | ⟨a, b, c⟩
    · exact ⟨-1, Ev.bind (Ev.neg hn hr) (Ev.pos (by omega) (Ev.now _)), .inl rfl⟩
    · exact ⟨r, Ev.bind (Ev.neg hn hr) (Ev.neg (by omega) (Ev.now _)), .inr ⟨a, b, by omega, c⟩⟩
theorem toE_l0 (l : List LEntry) (hl : l.length ≤ 8796093022208) : ∀ (d i : Nat) (o : List Entry), i + d = l.length → o.length = l.length → o.take i = (l.map ofE).take i →
    Ev (fun k => laws_toEntryS.l0 k l o (i : Int)) (l.map ofE)
  | 0, i, o, hd, ho, ha => by
    rw [List.take_of_length_le (by omega), List.take_of_length_le (by rw [List.length_map]; omega)] at ha
    exact Ev.step (fun k => laws_toEntryS.l0.eq_2 ..) (Ev.neg (by omega) (by rw [ha]; exact Ev.now _))
  | d + 1, i, o, hd, ho, ha => by
    have hi : i < l.length := by omega
    refine Ev.step (fun k => laws_toEntryS.l0.eq_2 ..) (Ev.pos (by omega) (Ev.pos (by omega) ?_))
    rw [rdLE_eq hi, laws_toEntry.f, w64 (n := (i : Int) + 1) (by omega) (by omega), Int.toNat_natCast]
    refine Ev.sb (Ev.pos (by omega) (toE_l0 l hl d (i + 1) (o.set i (ofE l[i])) (by omega) (by rw [List.length_set, ho]) ?_))
    rw [List.take_succ_eq_append_getElem (by rw [List.length_set]; omega), List.take_succ_eq_append_getElem (by rw [List.length_map]; omega), List.getElem_set_self, List.getElem_map, List.take_set_of_le (by omega), ha]
theorem toTree_ev (l : List LEntry) (hl : l.length ≤ 3518437208883) : Ev (fun k => laws_toTree.f k l) (l.map ofE) := by
  unfold laws_toTree.f laws_toEntryS.f
  refine Ev.bind (Ev.pos (by omega) (Ev.pos (by omega) ?_)) (Ev.now _)
  rw [Int.toNat_natCast]
  exact toE_l0 l (by omega) l.length 0 _ (by omega) (by simp) (by simp)
theorem eqE_l0 (l : List Entry) (hl : l.length ≤ 8796093022208) : ∀ (d i : Nat), i + d = l.length → Ev (fun k => laws_eqEntryS.l0 k l l (i : Int)) true
  | 0, i, hd => Ev.step (fun k => laws_eqEntryS.l0.eq_2 ..) (Ev.neg (by omega) (Ev.now _))
  | d + 1, i, hd => by
    refine Ev.step (fun k => laws_eqEntryS.l0.eq_2 ..) (Ev.pos (by omega) (Ev.pos (by omega) (Ev.pos (by omega) ?_)))
    rw [laws_eqEntry.f, if_pos rfl, if_pos rfl, if_neg (by simp), w64 (n := (i : Int) + 1) (by omega) (by omega)]
    exact Ev.sb (Ev.pos rfl (eqE_l0 l hl d (i + 1) (by omega)))
theorem eqTree_ev (l : List Entry) (hl : l.length ≤ 8796093022208) : Ev (fun k => laws_eqTree.f k l l) true := by
  unfold laws_eqTree.f laws_eqEntryS.f
  exact Ev.bind (Ev.pos rfl (eqE_l0 l hl l.length 0 (by omega))) (Ev.pos rfl (Ev.now _))

end Go.Proofs.YtkdghhkpmkfjhaaDoor.Pure


namespace Go.Proofs.YtkdghhkpmkfjhaaDoor.Pure
open Go Go.RowKit Go.Proofs.YtkdghhkpmkfjhaaDoor.P Go.Proofs.YtkdghhkpmkfjhaaDoorW.PrintWords Go.Proofs.YtkdghhkpmkfjhaaDoorW.PrintLast
set_option linter.unusedVariables false
set_option linter.unusedSimpArgs false

theorem rd_eq {α : Type} (d : α) {l : List α} {i : Nat} (h : i < l.length) : rdOf d l (i : Int) = l[i] := by
  unfold rdOf
  rw [Int.toNat_natCast, List.getD_eq_getElem?_getD, List.getElem?_eq_getElem h]
  rfl

/-- What szStringS tells: no room, or what is left, and that all is small. -/
def RoomTexts (l : List ByteArray) (left r : Int) : Prop := r = -1 ∨ (0 ≤ r ∧ r ≤ left ∧ (l.length : Int) ≤ left ∧ ∀ s ∈ l, (s.size : Int) ≤ left)
theorem sz_l0 (l : List ByteArray) (hl : l.length ≤ 8796093022208) (hz : ∀ s ∈ l, s.size ≤ 140737488351232) (left : Int) (h1 : left ≤ 1048576) : ∀ (d i : Nat) (c : Int), i + d = l.length → 0 ≤ c → c ≤ left → (∀ j, (h : j < l.length) → j < i → (l[j].size : Int) ≤ left) →
    ∃ r, Ev (fun k => laws_szStringS.l0 k l c (i : Int)) r ∧ (r = -1 ∨ (0 ≤ r ∧ r ≤ left ∧ ∀ s ∈ l, (s.size : Int) ≤ left))
  | 0, i, c, hd, h0, hc, ha => by
    refine ⟨c, Ev.step (f := fun _ => some c) (fun k => ?_) (Ev.now _), .inr ⟨h0, hc, fun s hs => ?_⟩⟩
    · simp only [laws_szStringS.l0]
      rw [if_neg (by omega)]
    · obtain ⟨j, hj, rfl⟩ := List.getElem_of_mem hs
      exact ha j hj (by omega)
  | d + 1, i, c, hd, h0, hc, ha => by
    have hi : i < l.length := by omega
    have hsz := hz l[i] (List.getElem_mem hi)
    by_cases hn : c - (l[i].size : Int) < 0
    · refine ⟨-1, Ev.step (f := fun _ => some (-1)) (fun k => ?_) (Ev.now _), .inl rfl⟩
      simp only [laws_szStringS.l0]
      rw [if_pos (by omega), if_pos (by omega), rd_eq _ hi, w64 (by omega) (by omega), if_pos hn]
    · obtain ⟨r, hr, h⟩ := sz_l0 l hl hz left h1 d (i + 1) (c - (l[i].size : Int)) (by omega) (by omega) (by omega) (fun j h hj => by
        rcases Nat.lt_or_ge j i with h' | h'
        · exact ha j h h'
        · obtain rfl : j = i := by omega
          omega)
      refine ⟨r, Ev.step (fun k => ?_) hr, h⟩
      simp only [laws_szStringS.l0]
      rw [if_pos (by omega), if_pos (by omega), rd_eq _ hi, w64 (by omega) (by omega), if_neg hn, w64 (by omega) (by omega)]
      rfl
theorem szTexts (l : List ByteArray) (hl : l.length * 16 ≤ 140737488351232) (hz : ∀ s ∈ l, s.size ≤ 140737488351232) (left : Int) (h0 : 0 ≤ left) (h1 : left ≤ 1048576) :
    ∃ r, Ev (fun k => laws_szStringS.f k l left) r ∧ RoomTexts l left r := by
  unfold laws_szStringS.f RoomTexts
  rw [w64 (by omega) (by omega)]
  by_cases hn : left - (l.length : Int) < 0
  · exact ⟨-1, Ev.pos hn (Ev.now _), .inl rfl⟩
  · obtain ⟨r, hr, h⟩ := sz_l0 l (by omega) hz left h1 l.length 0 (left - (l.length : Int)) (by omega) (by omega) (by omega) (fun j h hj => by omega)
    refine ⟨r, Ev.neg hn hr, ?_⟩
    rcases h with h | ⟨a, b, c⟩
    · exact .inl h
    · exact .inr ⟨a, b, by omega, c⟩
theorem to_l0 (l : List ByteArray) (hl : l.length ≤ 8796093022208) : ∀ (d i : Nat) (o : List ByteArray), i + d = l.length → o.length = l.length → (∀ j, (h : j < o.length) → (h' : j < l.length) → j < i → o[j] = l[j]) →
    Ev (fun k => laws_toStringS.l0 k l o (i : Int)) l
  | 0, i, o, hd, ho, ha => by
    refine Ev.step (f := fun _ => some l) (fun k => ?_) (Ev.now _)
    simp only [laws_toStringS.l0]
    rw [if_neg (by omega)]
    congr 1
    exact List.ext_getElem ho (fun j h h' => ha j h h' (by omega))
  | d + 1, i, o, hd, ho, ha => by
    have hi : i < l.length := by omega
    refine Ev.step (fun k => ?_) (to_l0 l hl d (i + 1) (o.set i l[i]) (by omega) (by rw [List.length_set, ho]) (fun j h h' hj => ?_))
    · simp only [laws_toStringS.l0]
      rw [if_pos (by omega), if_pos (by omega), if_pos (by omega), rd_eq _ hi, w64 (by omega) (by omega), Int.toNat_natCast]
      rfl
    · rw [List.getElem_set]
      split
      · rename_i e
        subst e
        rfl
      · exact ha j (by simpa using h) h' (by omega)
theorem toTexts (l : List ByteArray) (hl : l.length * 16 ≤ 140737488351232) : Ev (fun k => laws_toStringS.f k l) l := by
  unfold laws_toStringS.f
  refine Ev.pos (by omega) (Ev.pos (by omega) ?_)
  rw [Int.toNat_natCast]
  exact to_l0 l (by omega) l.length 0 (List.replicate l.length ⟨#[]⟩) (by omega) (by simp) (fun j h h' hj => by omega)
theorem eq_l0 (l : List ByteArray) (hl : l.length ≤ 8796093022208) : ∀ (d i : Nat), i + d = l.length → Ev (fun k => laws_eqStringS.l0 k l l (i : Int)) true
  | 0, i, hd => by
    refine Ev.step (f := fun _ => some true) (fun k => ?_) (Ev.now _)
    simp only [laws_eqStringS.l0]
    rw [if_neg (by omega)]
  | d + 1, i, hd => by
    refine Ev.step (fun k => ?_) (eq_l0 l hl d (i + 1) (by omega))
    simp only [laws_eqStringS.l0]
    rw [if_pos (by omega), if_pos (by omega), if_pos (by omega), if_pos (by trivial), w64 (by omega) (by omega)]
    rfl
theorem eqTexts (l : List ByteArray) (hl : l.length ≤ 8796093022208) : Ev (fun k => laws_eqStringS.f k l l) true := by
  unfold laws_eqStringS.f
  exact Ev.pos rfl (eq_l0 l hl l.length 0 (by omega))

end Go.Proofs.YtkdghhkpmkfjhaaDoor.Pure


namespace Go.Proofs.YtkdghhkpmkfjhaaDoor.Pure
open Go Go.RowKit Go.Proofs.YtkdghhkpmkfjhaaDoor.P Go.Proofs.YtkdghhkpmkfjhaaDoorW.PrintWords Go.Proofs.YtkdghhkpmkfjhaaDoorW.PrintLast
set_option linter.unusedVariables false
set_option linter.unusedSimpArgs false

/-! ### marks -/
theorem mark_l0 : ∀ (m : Nat) (x : Int) (t : ByteArray), 0 ≤ x → x ≤ m → t.size + m ≤ 100000000 → ∃ r, Ev (fun k => laws_markText.l0 k x t) r
  | 0, x, t, h0, h1, h2 => ⟨_, Ev.step (fun k => laws_markText.l0.eq_2 ..) (Ev.neg (by omega) (Ev.pos (by omega) (Ev.now _)))⟩
  | m + 1, x, t, h0, h1, h2 => by
    by_cases h : x > 0
    · have hd : Int.tdiv x 10 = x / 10 := Int.tdiv_eq_ediv_of_nonneg h0
      obtain ⟨r, hr⟩ := mark_l0 m (Int.tdiv x 10) (strOfNums [(wrap64 (48 + (Int.tmod x 10))) % 256] ++ t) (by omega) (by omega) (by rw [ByteArray.size_append, son_size]; simp; omega)
      refine ⟨r, Ev.step (fun k => laws_markText.l0.eq_2 ..) (Ev.pos h (Ev.sb (Ev.pos (by rw [son_size]; simp; omega) ?_)))⟩
      rw [w64 (n := Int.tdiv x 10) (by omega) (by omega)]
      exact hr
    · exact ⟨_, Ev.step (fun k => laws_markText.l0.eq_2 ..) (Ev.neg h (Ev.pos (by omega) (Ev.now _)))⟩
theorem mark_ev (n : Nat) (h : n ≤ 10000000) : ∃ r, Ev (fun k => laws_markText.f k (n : Int)) r := by
  unfold laws_markText.f
  by_cases h0 : (n : Int) ≤ 0
  · exact ⟨_, Ev.pos h0 (Ev.now _)⟩
  · obtain ⟨r, hr⟩ := mark_l0 n n ⟨#[]⟩ (by omega) (by omega) (by have : (⟨#[]⟩ : ByteArray).size = 0 := rfl; omega)
    exact ⟨r, Ev.neg h0 hr⟩
noncomputable def mark (n : Nat) : ByteArray := if h : n ≤ 10000000 then (mark_ev n h).choose else ⟨#[]⟩
theorem mark_spec (n : Nat) (h : n ≤ 10000000) : Ev (fun k => laws_markText.f k (n : Int)) (mark n) := by
  unfold mark
  rw [dif_pos h]
  exact (mark_ev n h).choose_spec

end Go.Proofs.YtkdghhkpmkfjhaaDoor.Pure


namespace Go.Proofs.YtkdghhkpmkfjhaaDoor.Pure
open Go Go.RowKit Go.Proofs.YtkdghhkpmkfjhaaDoor.P Go.Proofs.YtkdghhkpmkfjhaaDoorW.PrintWords Go.Proofs.YtkdghhkpmkfjhaaDoorW.PrintLast
set_option linter.unusedVariables false
set_option linter.unusedSimpArgs false

noncomputable def EM (i : Nat) : Entry := ⟨mark (1 + 3 * i), mark (2 + 3 * i), (Int.tmod ((3 + 3 * i : Nat) : Int) 3 == 0)⟩
def MarkedE (l : List Entry) (i : Nat) : Prop := ∀ j, (h : j < l.length) → j < i → l[j] = EM j
theorem rdE_set {l : List Entry} {i : Nat} (h : i < l.length) (a : Entry) : rd_T45 (l.set i a) (i : Int) = a := by
  rw [rdE_eq (by rw [List.length_set]; exact h), List.getElem_set_self]
theorem marksE_ev : ∀ (d i : Nat) (l : List Entry), i + d = l.length → l.length ≤ 1100000 → MarkedE l i → Evs (fun k => laws_markEntryS.l0 k l ((1 + 3 * i : Nat) : Int) (i : Int)) (fun r => r.1 = ((1 + 3 * l.length : Nat) : Int) ∧ r.2.length = l.length ∧ MarkedE r.2 l.length)
  | 0, i, l, hd, hl, hm => by
    refine Evs.step (fun k => laws_markEntryS.l0.eq_2 ..) (Evs.neg (by omega) (Evs.ret ⟨by show ((1 + 3 * i : Nat) : Int) = _; omega, rfl, fun j h _ => hm j h (by omega)⟩))
  | d + 1, i, l, hd, hl, hm => by
    have hi : i < l.length := by omega
    refine Evs.step (fun k => laws_markEntryS.l0.eq_2 ..) (Evs.pos (by omega) (Evs.bind (Evs.of (mark_spec (1 + 3 * i) (by omega)) (Q := fun t => t = mark (1 + 3 * i)) rfl) (fun t ht => Evs.pos (by omega) ?_)))
    subst ht
    rw [Int.toNat_natCast, w64 (n := ((1 + 3 * i : Nat) : Int) + 1) (by omega) (by omega), show ((1 + 3 * i : Nat) : Int) + 1 = ((2 + 3 * i : Nat) : Int) from by omega, w64 (n := ((2 + 3 * i : Nat) : Int) + 1) (by omega) (by omega), show ((2 + 3 * i : Nat) : Int) + 1 = ((3 + 3 * i : Nat) : Int) from by omega, w64 (n := ((3 + 3 * i : Nat) : Int) + 1) (by omega) (by omega), show ((3 + 3 * i : Nat) : Int) + 1 = ((1 + 3 * (i + 1) : Nat) : Int) from by omega, w64 (n := (i : Int) + 1) (by omega) (by omega), show (i : Int) + 1 = ((i + 1 : Nat) : Int) from by omega]
    refine Evs.sb (Evs.bind (Evs.of (mark_spec (2 + 3 * i) (by omega)) (Q := fun t => t = mark (2 + 3 * i)) rfl) (fun t ht => ?_))
    subst ht
    refine Evs.sb ?_
    simp only [rdE_set hi, List.set_set]
    have e2 : ∀ a : Entry, rd_T45 (l.set i a) (i : Int) = a := rdE_set hi
    have := marksE_ev d (i + 1) (l.set i (EM i)) (by rw [List.length_set]; omega) (by rw [List.length_set]; exact hl) (fun j h hj => by
      rw [List.getElem_set]
      split
      · rename_i e
        rw [e]
      · exact hm j (by simpa using h) (by omega))
    rw [List.length_set] at this
    exact this
theorem heldE_ev (l : List Entry) (hl : l.length ≤ 1100000) (hm : MarkedE l l.length) : ∀ (d i : Nat), i + d = l.length → Ev (fun k => laws_heldEntryS.l0 k l ((1 + 3 * i : Nat) : Int) (i : Int)) ((1 + 3 * l.length : Nat) : Int)
  | 0, i, hd => by
    have e : ((1 + 3 * l.length : Nat) : Int) = ((1 + 3 * i : Nat) : Int) := by omega
    rw [e]
    exact Ev.step (fun k => laws_heldEntryS.l0.eq_2 ..) (Ev.neg (by omega) (Ev.now _))
  | d + 1, i, hd => by
    refine Ev.step (fun k => laws_heldEntryS.l0.eq_2 ..) (Ev.pos (by omega) (Ev.pos (by omega) (Ev.bind (mark_spec (1 + 3 * i) (by omega)) ?_)))
    rw [rdE_eq (show i < l.length by omega), hm i (by omega) (by omega)]
    rw [w64 (n := ((1 + 3 * i : Nat) : Int) + 1) (by omega) (by omega), show ((1 + 3 * i : Nat) : Int) + 1 = ((2 + 3 * i : Nat) : Int) from by omega, w64 (n := ((2 + 3 * i : Nat) : Int) + 1) (by omega) (by omega), show ((2 + 3 * i : Nat) : Int) + 1 = ((3 + 3 * i : Nat) : Int) from by omega, w64 (n := ((3 + 3 * i : Nat) : Int) + 1) (by omega) (by omega), show ((3 + 3 * i : Nat) : Int) + 1 = ((1 + 3 * (i + 1) : Nat) : Int) from by omega, w64 (n := (i : Int) + 1) (by omega) (by omega), show (i : Int) + 1 = ((i + 1 : Nat) : Int) from by omega]
    exact Ev.pos rfl (Ev.bind (mark_spec (2 + 3 * i) (by omega)) (Ev.pos rfl (Ev.neg (by simp [EM]) (heldE_ev l hl hm d (i + 1) (by omega)))))
/-- Marked, and held. -/
theorem markedTree_ev (l : List Entry) (hl : l.length ≤ 1100000) : ∃ L : List Entry, L.length = l.length ∧ Ev (fun k => laws_markTree.f k l 1) (((1 + 3 * l.length : Nat) : Int), L) ∧ Ev (fun k => laws_heldTree.f k L 1) ((1 + 3 * l.length : Nat) : Int) := by
  obtain ⟨p, ⟨p1, p2, p3⟩, hp⟩ := marksE_ev l.length 0 l (by omega) hl (fun j _ hj => by omega)
  refine ⟨p.2, p2, ?_, ?_⟩
  · unfold laws_markTree.f laws_markEntryS.f
    refine Ev.bind hp ?_
    rw [← p1]
    exact Ev.now _
  · unfold laws_heldTree.f laws_heldEntryS.f
    have := heldE_ev p.2 (by omega) (by rw [p2]; exact p3) p.2.length 0 (by omega)
    rw [p2] at this
    exact Ev.bind this (Ev.neg (by omega) (Ev.now _))

end Go.Proofs.YtkdghhkpmkfjhaaDoor.Pure


namespace Go.Proofs.YtkdghhkpmkfjhaaDoor.Pure
open Go Go.Proofs.YtkdghhkpmkfjhaaDoor.P
/-- The sizes of what a reading at type 62 gives. -/
def Small62 (x : S62) : Prop := (x.f0.size ≤ 140737488351232) ∧ ((x.f1.size ≤ 140737488351232) ∧ (True))
/-- The sizes of what a reading at type 95 gives. -/
def Small95 (x : S95) : Prop := (True) ∧ ((x.f1.size ≤ 140737488351232) ∧ (True))
/-- The sizes of what a reading at type 97 gives. -/
def Small97 (x : S97) : Prop := (x.f0.size ≤ 140737488351232) ∧ ((Small95 x.f1) ∧ (Small95 x.f2))
end Go.Proofs.YtkdghhkpmkfjhaaDoor.Pure


namespace Go.Proofs.YtkdghhkpmkfjhaaDoor.Ow
open Go Go.Proofs.YtkdghhkpmkfjhaaDoorW.PrintWords

/-- A reading at type t is a value of kind d, of which S holds. -/
def Opens (P : Program) (t : TypeId) {α : Type} (d : Kd α) (S : α → Prop) : Prop :=
  ∀ (H : Type) (enc : TypeId × Value → H) (w : World) (fuel : Nat) (cs : List Value) (x : DataW H × List MemPlace),
    DataW.trod enc P w 0 (fun _ => true) true fuel t cs = some x → (∀ n ∈ x.1.weights P t, n ≤ 140737488351232) → ∃ y : α, d.K w y cs ∧ S y

theorem opens_string {P : Program} {t : TypeId} (ht : P.underlying t = some .string) : Opens P t Kd.string (fun s => s.size ≤ 140737488351232) := by
  intro H enc w fuel cs x h hw
  obtain ⟨s, rfl, rfl, _⟩ := DataW.trod_string ht h
  refine ⟨s, rfl, ?_⟩
  have := hw s.data.toList.length (by simp [DataW.weights])
  simpa using this

theorem opens_int {P : Program} {t : TypeId} {k : IntKind} (ht : P.underlying t = some (.int k)) : Opens P t (Kd.int k) (fun n => (Lit.int k n).wf = true) := by
  intro H enc w fuel cs x h _
  obtain ⟨n, rfl, rfl, hn⟩ := DataW.trod_int ht h
  exact ⟨n, rfl, hn⟩

theorem opens_bool {P : Program} {t : TypeId} (ht : P.underlying t = some .bool) : Opens P t Kd.bool (fun _ => True) := by
  intro H enc w fuel cs x h _
  obtain ⟨b, rfl, rfl⟩ := DataW.trod_bool ht h
  exact ⟨b, rfl, trivial⟩

theorem mem_weightsAll {H : Type} {P : Program} {e : TypeId} {d : DataW H} : ∀ {l : List (DataW H)}, d ∈ l → ∀ n ∈ d.weights P e, n ∈ DataW.weightsAll P e l
  | [], h, _, _ => by cases h
  | x :: r, h, n, hn => by
    simp only [DataW.weightsAll, List.mem_append]
    rcases List.mem_cons.1 h with rfl | h
    · exact .inl hn
    · exact .inr (mem_weightsAll h n hn)

theorem opens_slice {P : Program} {t e : TypeId} {α : Type} {d : Kd α} {S : α → Prop} {B : Nat} (ht : P.underlying t = some (.slice e)) (hc : P.cellsOf e = d.sz) (hB : P.bytesOf e = B) (he : Opens P e d S) :
    Opens P t (Kd.slice e d) (fun xs => xs.length * B ≤ 140737488351232 ∧ ∀ x ∈ xs, S x) := by
  intro H enc w fuel cs x h hw
  rcases DataW.trod_slice ht h with ⟨rfl, rfl⟩ | ⟨a, len, cap, elems, rest, n, _, rfl, rfl, _, hl, hm, hlen, hel, _, _⟩
  · refine ⟨[], ⟨none, 0, rfl, Nat.le_refl _, rfl, by simp, fun h => by simp at h⟩, by simp, by simp⟩
  · have hw1 : (elems.length + rest.length) * B ≤ 140737488351232 := by
      have := hw ((elems.length + rest.length) * B) (by simp [DataW.weights, ht, hB])
      exact this
    have key : ∀ i, i < len → ∃ y : α, (∃ c, c.length = d.sz ∧ d.K w y c ∧ ∀ j u, c[j]? = some u → w.cell? (a.add (i * d.sz + j)) = some u) ∧ S y := by
      intro i hi
      have hi' : i < elems.length := by omega
      have hb := hel i hi
      rw [List.getElem?_eq_getElem hi'] at hb
      obtain ⟨c, hc1, hc2⟩ := Option.bind_eq_some_iff.1 hb
      obtain ⟨y, hy, hS⟩ := he H enc w n c _ hc2 (fun m hm => by
        refine hw m ?_
        simp only [DataW.weights, ht, List.mem_cons, List.mem_append]
        refine .inr (.inl (mem_weightsAll (d := elems[i].1) ?_ m hm))
        exact List.mem_map.2 ⟨elems[i], List.getElem_mem hi', rfl⟩)
      obtain ⟨_, hcl, hcell⟩ := World.cells?_some hc1
      refine ⟨y, ⟨c, by rw [hcl, hc], hy, fun j u hu => ?_⟩, hS⟩
      have hj : j < P.cellsOf e := by
        rw [← hcl]
        exact (List.getElem?_eq_some_iff.1 hu).1
      have := hcell j hj
      rw [hu, Go.Deep.add_add, hc] at this
      exact this
    obtain ⟨f, hf⟩ : ∃ f : Fin len → α, ∀ i : Fin len, (∃ c, c.length = d.sz ∧ d.K w (f i) c ∧ ∀ j u, c[j]? = some u → w.cell? (a.add (i.val * d.sz + j)) = some u) ∧ S (f i) :=
      ⟨fun i => Classical.choose (key i.val i.isLt), fun i => Classical.choose_spec (key i.val i.isLt)⟩
    refine ⟨List.ofFn f, ⟨some a, cap, by rw [List.length_ofFn], by rw [List.length_ofFn]; exact hl, rfl, ?_, fun _ => ⟨a, rfl, ?_⟩⟩, ?_, ?_⟩
    · rw [List.length_ofFn]
      unfold maxLen at hm
      omega
    · intro j p hj
      rw [List.getElem?_ofFn] at hj
      split at hj
      · rename_i hlt
        obtain rfl := Option.some.inj hj
        exact (hf ⟨j, hlt⟩).1
      · cases hj
    · rw [List.length_ofFn]
      exact Nat.le_trans (Nat.mul_le_mul_right _ (by omega)) hw1
    · intro x hx
      obtain ⟨i, rfl⟩ := List.mem_ofFn.1 hx
      exact (hf i).2

/-- The fields of a struct, from cell k on. -/
def OpensF (P : Program) (fs : List Field) (k : Nat) {α : Type} (d : Kd α) (S : α → Prop) : Prop :=
  ∀ (H : Type) (enc : TypeId × Value → H) (w : World) (m : Nat) (cs : List Value) (xs : List (DataW H × List MemPlace)),
    cs.length = k + d.sz → xs.length = fs.length →
    (∀ (i : Nat) (f : Field), fs[i]? = some f → DataW.trod enc P w 0 (fun _ => true) true m f.type ((cs.drop f.offset).take (P.cellsOf f.type)) = xs[i]?) →
    (∀ n ∈ DataW.weightsEach P (fs.map (·.type)) (xs.map (·.1)), n ≤ 140737488351232) → ∃ y : α, d.K w y (cs.drop k) ∧ S y

theorem opensF_last {P : Program} {f : Field} {k : Nat} {α : Type} {d : Kd α} {S : α → Prop} (ho : f.offset = k) (hc : P.cellsOf f.type = d.sz) (h : Opens P f.type d S) : OpensF P [f] k d S := by
  intro H enc w m cs xs hl hx hf hw
  match xs, hx with
  | [x], _ =>
    have h0 := hf 0 f rfl
    rw [ho, hc] at h0
    have ht : (cs.drop k).take d.sz = cs.drop k := List.take_of_length_le (by rw [List.length_drop]; omega)
    rw [ht] at h0
    exact h H enc w m _ x (by simpa using h0) (fun n hn => hw n (by simp [DataW.weightsEach, hn]))

theorem opensF_cons {P : Program} {f : Field} {fs : List Field} {k : Nat} {α β : Type} {a : Kd α} {b : Kd β} {Sa : α → Prop} {Sb : β → Prop} (ho : f.offset = k) (hc : P.cellsOf f.type = a.sz) (h : Opens P f.type a Sa) (hr : OpensF P fs (k + a.sz) b Sb) :
    OpensF P (f :: fs) k (Kd.pair a b) (fun y => Sa y.1 ∧ Sb y.2) := by
  intro H enc w m cs xs hl hx hf hw
  match xs, hx with
  | x :: xr, hx =>
    have hl2 : cs.length = k + (a.sz + b.sz) := hl
    have h0 := hf 0 f rfl
    rw [ho, hc] at h0
    obtain ⟨y, hy, hS⟩ := h H enc w m _ x (by simpa using h0) (fun n hn => hw n (by simp only [List.map_cons, DataW.weightsEach, List.mem_append]; exact .inl hn))
    obtain ⟨z, hz, hT⟩ := hr H enc w m cs xr (by omega) (by simpa using hx) (fun i g hg => by simpa using hf (i + 1) g (by simpa using hg)) (fun n hn => hw n (by simp only [List.map_cons, DataW.weightsEach, List.mem_append]; exact .inr hn))
    refine ⟨(y, z), ⟨(cs.drop k).take a.sz, cs.drop (k + a.sz), ?_, hy, hz⟩, hS, hT⟩
    rw [← List.drop_drop, List.take_append_drop]

theorem opens_struct {P : Program} {t : TypeId} {fs : Array Field} {α β : Type} {d : Kd α} {S : α → Prop} {f : β → α} {g : α → β} (ht : P.underlying t = some (.struct fs)) (hc : P.cellsOf t = d.sz) (hg : ∀ y, f (g y) = y) (h : OpensF P fs.toList 0 d S) :
    Opens P t (Kd.iso d f) (fun b => S (f b)) := by
  intro H enc w fuel cs x hx hw
  obtain ⟨xs, n, _, rfl, hl, hxs, hf⟩ := DataW.trod_struct ht hx
  obtain ⟨y, hy, hS⟩ := h H enc w n cs xs (by rw [hl, hc]; omega) (by simpa using hxs) (fun i f0 hi => hf i f0 (by simpa using hi)) (fun n hn => hw n (by simpa [DataW.weights, ht] using hn))
  exact ⟨g y, show d.K w (f (g y)) cs by rw [hg]; simpa using hy, show S (f (g y)) by rw [hg]; exact hS⟩

/-- The weights of one argument out of all. -/
theorem weights_of {H : Type} {P : Program} {ts : List TypeId} {ds : List (DataW H)} (hsz : (DataW.weightsEach P ts ds).all (· ≤ reachBytes) = true) {j : Nat} {t : TypeId} {d : DataW H} (ht : ts[j]? = some t) (hd : ds[j]? = some d) :
    ∀ n ∈ d.weights P t, n ≤ 140737488351232 := fun n hn => by
  have := List.all_eq_true.1 hsz n (DataW.weights_mem_each ht hd n hn)
  exact of_decide_eq_true this

theorem agg_of {P : Program} {W : World} {base : Nat} {t : TypeId} {v : Value} {fs : Array Field} (ht : P.underlying t = some (.struct fs)) (h : Value.okWide P W .any base t v) : ∃ cs, v = .agg cs := by
  simp only [Value.okWide, ht] at h
  obtain ⟨cs, h, _⟩ := h
  exact ⟨cs, h⟩

/-- A struct argument, opened. -/
theorem open_agg {H : Type} {enc : TypeId × Value → H} {P : Program} {W : World} {base : Nat} {t : TypeId} {v : Value} {fs : Array Field} {x : DataW H} {p : List MemPlace} {α : Type} {d : Kd α} {S : α → Prop}
    (ho : Opens P t d S) (ht : P.underlying t = some (.struct fs)) (hv : Value.okWide P W .any base t v) (h : DataW.Trod enc P W 0 (fun _ => true) true t v x p) (hw : ∀ n ∈ x.weights P t, n ≤ 140737488351232) :
    ∃ cs y, v = .agg cs ∧ d.K W y cs.toList ∧ S y := by
  obtain ⟨cs, rfl⟩ := agg_of ht hv
  obtain ⟨fuel, hf⟩ := h
  obtain ⟨y, hy, hS⟩ := ho H enc W fuel _ _ hf hw
  exact ⟨cs, y, rfl, hy, hS⟩

/-- A slice argument, opened. -/
theorem open_row {H : Type} {enc : TypeId × Value → H} {P : Program} {W : World} {base : Nat} {t e : TypeId} {v : Value} {x : DataW H} {p : List MemPlace} {α : Type} {d : Kd α} {S : List α → Prop}
    (ho : Opens P t (Kd.slice e d) S) (ht : P.underlying t = some (.slice e)) (hv : Value.okWide P W .any base t v) (h : DataW.Trod enc P W 0 (fun _ => true) true t v x p) (hw : ∀ n ∈ x.weights P t, n ≤ 140737488351232) :
    ∃ (A : Option Addr) (c : Nat) (xs : List α), v = .slice A xs.length c ∧ xs.length ≤ c ∧ d.C W A xs.length xs ∧ S xs := by
  obtain ⟨a0, len, cap, rfl⟩ := Go.WideShapes.okWide_slice ht hv
  obtain ⟨fuel, hf⟩ := h
  obtain ⟨xs, ⟨A, c, he, hl, hC⟩, hS⟩ := ho H enc W fuel _ _ hf hw
  have he2 : [Value.slice a0 len cap] = [.slice A xs.length c] := by simpa [Value.cells] using he
  simp only [List.cons.injEq, and_true] at he2
  exact ⟨A, c, xs, he2, hl, hC, hS⟩

/-- A row's wrap, with the world's shape and one condition more. -/
theorem returnsInHanded_shaped_and {H : Type} {enc : TypeId × Value → H} {a : Assume} {C : Checked} {os : Os} {f : FuncId} {fn : Func} {s : ChangeSpec} {conds : List PathCond} {apart fresh handsOn again : Bool} {X : World → Array Value → Prop}
    (hX : ∀ (w w' : World) (args : Array Value), w.heap = w'.heap → X w args → X w' args)
    (own : ownKnob C.prog.godebug = none) (started : os.Started) (noInit : C.prog.inits.idxOf? f = none) (hfn : C.prog.funcs[f]? = some fn)
    (witness : ∃ (w : World) (tape : Tape) (i : Input), w.os = os ∧ (w.forCall tape i).Shaped C.prog ∧ i.vars = [] ∧ Input.okWide C.prog (w.forCall tape i) .any w.heap.size f i ∧
      ((s.pre enc C.prog fn conds apart (w.forCall tape i).memory i.args ∧ X (w.forCall tape i).memory i.args) ∧ sizedMet enc C.prog fn (OpenSpec.ofChange s) apart (w.forCall tape i).memory i.args) ∧ a.holds C.prog (lone (Frame.enter C.prog f i.args .normal) [] (w.forCall tape i)))
    (contract : ∀ (W : World) (base : Nat) (args : Array Value) (ds gs : List (DataW H)) (before : List MemPlace),
      (∀ (j : Nat) t v, fn.params[j]? = some t → args[j]? = some v → Value.okWide C.prog W .any base t v) →
      DataW.Whole enc C.prog fn.params.toList s.vars apart W args.toList ds gs before →
      conds.all (PathCond.test C.prog ⟨fn.params.toList, ds, s.plain.varTypes C.prog, gs⟩) = true →
      (DataW.weightsEach C.prog (fn.params.toList ++ s.plain.varTypes C.prog) (ds ++ gs)).all (· ≤ reachBytes) = true → W.ShapedOpen C.prog → X W args →
      a.holds C.prog (lone (Frame.enter C.prog f args .normal) [] W) →
      Calls C.prog f args W fun e W' => ∃ v, e = .returned v ∧ s.post enc C.prog fn apart fresh handsOn again W args v W') :
    ReturnsInHanded a C os f .any (fun w args => (s.pre enc C.prog fn conds apart w args ∧ X w args) ∧ sizedMet enc C.prog fn (OpenSpec.ofChange s) apart w args) (s.post enc C.prog fn apart fresh handsOn again) := by
  refine returnsInHanded_of_calls own started noInit witness ?_
  intro w tape i _ hsh _ hok hpre hholds
  obtain ⟨_, _, _, fn', hfn', _, _, _, _, hval⟩ := hok
  have e : fn' = fn := Option.some.inj (hfn'.symm.trans hfn)
  subst e
  obtain ⟨⟨⟨ds, gs, before, hw, hc⟩, hx⟩, hz⟩ := hpre
  have hw' := DataW.Whole.of_heap (w' := w.forCall tape i) (by rfl) hw
  refine (contract (w.forCall tape i) w.heap.size i.args ds gs before hval hw' hc (hz.weights hw) hsh (hX _ _ _ (by rfl) hx) hholds).mono fun e W' ⟨v, he, hp⟩ => ?_
  subst he
  exact ChangeSpec.post_blind hp

/-- The places of a reading lie in the world. -/
theorem places_lt {H : Type} {enc : TypeId × Value → H} {P : Program} {W : World} {t : TypeId} {v : Value} {x : DataW H} {p : List MemPlace} (h : DataW.Trod enc P W 0 (fun _ => true) true t v x p) : ∀ y ∈ p, y.block < W.heap.size := by
  obtain ⟨m, hm⟩ := h
  exact DataW.trod_lt m _ _ _ hm

end Go.Proofs.YtkdghhkpmkfjhaaDoor.Ow

