/- Plain lemmas on bytes, wraps and rounds, for the pure proofs. No condition. -/
import Derived.Test.YtnndpbkcldkbgaaWWords
import Derived.Test.YtnndpbkcldkbgaaWLast
import Derived.Test.YtnndpbkcldkbgaaWMore
namespace Go.Proofs.Ytnndpbkcldkbgaa.Pure
open Go Go.RowKit Go.Proofs.YtnndpbkcldkbgaaW.PrintWords Go.Proofs.YtnndpbkcldkbgaaW.PrintLast
set_option linter.unusedVariables false
set_option linter.unusedSimpArgs false

theorem w64 {n : Int} (h0 : -9223372036854775808 ≤ n) (h1 : n ≤ 9223372036854775807) : wrap64 n = n := by
  unfold wrap64
  omega
theorem u64w (n : Int) : IntKind.u64.wrap n = n % 18446744073709551616 := by
  simp [IntKind.wrap, IntKind.bits, IntKind.signed]
theorem u64_in {n : Int} (h0 : 0 ≤ n) (h1 : n < 18446744073709551616) : IntKind.u64.wrap n = n := by
  rw [u64w]
  exact Int.emod_eq_of_lt h0 h1
theorem u64_range (n : Int) : 0 ≤ IntKind.u64.wrap n ∧ IntKind.u64.wrap n < 18446744073709551616 := by
  rw [u64w]
  omega

theorem size_toList (s : ByteArray) : s.data.toList.length = s.size := rfl
theorem bt_getD (s : ByteArray) (i : Nat) : bt s (i : Int) = ((s.data.toList.getD i 0).toNat : Int) := by
  unfold bt
  simp only [Int.toNat_natCast]
  split
  · rename_i h
    rw [List.getD_eq_getElem?_getD, List.getElem?_eq_getElem (by exact h)]
    rfl
  · rename_i h
    rw [List.getD_eq_getElem?_getD, List.getElem?_eq_none (by exact Nat.le_of_not_lt h)]
    rfl
theorem bt0 (s : ByteArray) (i : Int) : 0 ≤ bt s i := (bt_range s i).1
theorem bt1 (s : ByteArray) (i : Int) : bt s i ≤ 255 := (bt_range s i).2

theorem ba_ext {s t : ByteArray} (h : s.data.toList = t.data.toList) : s = t := by
  cases s with
  | mk a => cases t with
    | mk b => exact congrArg ByteArray.mk (Array.toList_inj.1 h)
theorem data_append (s t : ByteArray) : (s ++ t).data.toList = s.data.toList ++ t.data.toList := by
  simp [ByteArray.data_append]
theorem son_data (xs : List Int) : (strOfNums xs).data.toList = xs.map fun n => UInt8.ofNat n.toNat := by
  have := strOfNums_data xs
  exact this
theorem son_size (xs : List Int) : (strOfNums xs).size = xs.length := by
  rw [← size_toList, son_data, List.length_map]
theorem son_append (xs ys : List Int) : strOfNums (xs ++ ys) = strOfNums xs ++ strOfNums ys := by
  apply ba_ext
  rw [data_append, son_data, son_data, son_data, List.map_append]
theorem ba_empty : (⟨#[]⟩ : ByteArray).data.toList = [] := rfl
theorem ba_append_empty (s : ByteArray) : s ++ (⟨#[]⟩ : ByteArray) = s := ba_ext (by rw [data_append, ba_empty, List.append_nil])
theorem ba_empty_append (s : ByteArray) : (⟨#[]⟩ : ByteArray) ++ s = s := ba_ext (by rw [data_append, ba_empty, List.nil_append])

/-- One number of rounds for what each wants some. -/
theorem ev_of {α : Type} {g : Nat → Option α} {r : α} (K : Nat) (h : ∀ k, K < k → g k = some r) : Ev g r := ⟨K + 1, fun k hk => h k (by omega)⟩

theorem bytesOf_len (s : ByteArray) : (bytesOf s).length = s.size := by
  unfold bytesOf
  rw [List.length_map, size_toList]
theorem son_bytesOf (s : ByteArray) : strOfNums (bytesOf s) = s := by
  apply ba_ext
  rw [son_data, bytesOf, List.map_map]
  have : ((fun n : Int => UInt8.ofNat n.toNat) ∘ fun b : UInt8 => (b.toNat : Int)) = id := by
    funext b
    simp
  rw [this, List.map_id]
theorem ba_assoc (a b c : ByteArray) : a ++ b ++ c = a ++ (b ++ c) := ba_ext (by simp only [data_append, List.append_assoc])

/-! ### rounds enough, and what comes out -/
section
variable {α β : Type}
theorem Ev.pos {c : Prop} [Decidable c] {A B : Nat → Option α} {r : α} (h : c) (e : Ev A r) : Ev (fun k => if c then A k else B k) r := Ev.congr (fun k => by rw [if_pos h]) e
theorem Ev.neg {c : Prop} [Decidable c] {A B : Nat → Option α} {r : α} (h : ¬ c) (e : Ev B r) : Ev (fun k => if c then A k else B k) r := Ev.congr (fun k => by rw [if_neg h]) e
theorem Ev.both {c : Prop} [Decidable c] {A B : Nat → Option α} {r s : α} (h1 : c → Ev A r) (h2 : ¬ c → Ev B s) : Ev (fun k => if c then A k else B k) (if c then r else s) := by
  by_cases h : c
  · rw [if_pos h]
    exact Ev.pos h (h1 h)
  · rw [if_neg h]
    exact Ev.neg h (h2 h)
theorem Ev.sb {y : β} {f : Nat → β → Option α} {r : α} (e : Ev (fun k => f k y) r) : Ev (fun k => (some y).bind (f k)) r := e
/-- With rounds enough, something comes out of which Q holds. -/
def Evs (g : Nat → Option α) (Q : α → Prop) : Prop := ∃ r, Q r ∧ Ev g r
theorem Evs.of {g : Nat → Option α} {Q : α → Prop} {r : α} (h : Ev g r) (hq : Q r) : Evs g Q := ⟨r, hq, h⟩
theorem Evs.ret {Q : α → Prop} {r : α} (hq : Q r) : Evs (fun _ => some r) Q := ⟨r, hq, Ev.now r⟩
theorem Evs.mono {g : Nat → Option α} {Q R : α → Prop} (h : Evs g Q) (hq : ∀ r, Q r → R r) : Evs g R := by
  obtain ⟨r, a, b⟩ := h
  exact ⟨r, hq r a, b⟩
theorem Evs.step {g f : Nat → Option α} {Q : α → Prop} (h : ∀ k, g (k + 1) = f k) (e : Evs f Q) : Evs g Q := by
  obtain ⟨r, a, b⟩ := e
  exact ⟨r, a, Ev.step h b⟩
theorem Evs.congr {g f : Nat → Option α} {Q : α → Prop} (h : ∀ k, g k = f k) (e : Evs f Q) : Evs g Q := by
  obtain ⟨r, a, b⟩ := e
  exact ⟨r, a, Ev.congr h b⟩
theorem Evs.bind {g : Nat → Option α} {f : Nat → α → Option β} {Q : α → Prop} {R : β → Prop} (e : Evs g Q) (h : ∀ a, Q a → Evs (fun k => f k a) R) : Evs (fun k => (g k).bind (f k)) R := by
  obtain ⟨a, ha, ea⟩ := e
  obtain ⟨r, hr, er⟩ := h a ha
  exact ⟨r, hr, Ev.bind ea er⟩
theorem Evs.sb {y : β} {f : Nat → β → Option α} {Q : α → Prop} (e : Evs (fun k => f k y) Q) : Evs (fun k => (some y).bind (f k)) Q := e
theorem Evs.pos {c : Prop} [Decidable c] {A B : Nat → Option α} {Q : α → Prop} (h : c) (e : Evs A Q) : Evs (fun k => if c then A k else B k) Q := Evs.congr (fun k => by rw [if_pos h]) e
theorem Evs.neg {c : Prop} [Decidable c] {A B : Nat → Option α} {Q : α → Prop} (h : ¬ c) (e : Evs B Q) : Evs (fun k => if c then A k else B k) Q := Evs.congr (fun k => by rw [if_neg h]) e
theorem Evs.ite {c : Prop} [Decidable c] {A B : Nat → Option α} {Q : α → Prop} (h1 : c → Evs A Q) (h2 : ¬ c → Evs B Q) : Evs (fun k => if c then A k else B k) Q := by
  by_cases h : c
  · exact Evs.pos h (h1 h)
  · exact Evs.neg h (h2 h)
theorem Evs.rounds {g : Nat → Option α} {Q : α → Prop} (h : Evs g Q) : ∃ k r, Q r ∧ g k = some r := by
  obtain ⟨r, hq, e⟩ := h
  obtain ⟨k, hk⟩ := Ev.rounds e
  exact ⟨k, r, hq, hk⟩
end

end Go.Proofs.Ytnndpbkcldkbgaa.Pure
