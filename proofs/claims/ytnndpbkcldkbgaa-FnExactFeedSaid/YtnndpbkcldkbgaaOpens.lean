/- Several texts of this claim in one file: YtnndpbkcldkbgaaShelf, YtnndpbkcldkbgaaMade, YtnndpbkcldkbgaaBase, YtnndpbkcldkbgaaSum, YtnndpbkcldkbgaaShort, YtnndpbkcldkbgaaFront, YtnndpbkcldkbgaaTexts, YtnndpbkcldkbgaaDecoder, YtnndpbkcldkbgaaMarks, YtnndpbkcldkbgaaOpens. -/
import Derived.Ground.Names2Prog
import Derived.Shelf.Slices.Clone
import Derived.Test.YtnndpbkcldkbgaaProg
import Derived.Test.YtnndpbkcldkbgaaWLast
import Derived.Test.YtnndpbkcldkbgaaWMore
import Derived.Test.YtnndpbkcldkbgaaPSpecSum
import Derived.Test.YtnndpbkcldkbgaaPImplShort
import Derived.Laws.BitsAllLaws
import Derived.Lib.Strings
import Derived.Deep.Slices
import Derived.SizedLaws
import Derived.ChangeArms
import Derived.WideShapes
import Derived.Handed
namespace Go.Proofs
open Go.Shelf
def Try.laysNm216_ren : Go.Shelf.Ren := ⟨fun | 16 => 72 | n => n, fun | 24 => 41 | 9 => 9 | 4 => 4 | n => n, fun | n => n⟩
theorem Try.laysNm216 : Go.Proofs.Lays2.n16 Try.prog Try.laysNm216_ren := {
  mixed := by kernel_rfl
  f16 := Try.func72.trans (congrArg some (by kernel_rfl))
  t4 := Try.underlying4
  a4 := Try.isAgg4
  z4 := Try.sizeOf4
  v4 := Try.zeroValue4
  t9 := Try.underlying9
  a9 := Try.isAgg9
  z9 := Try.sizeOf9
  v9 := Try.zeroValue9
  t24 := Try.underlying41
  a24 := Try.isAgg41
  z24 := Try.sizeOf41
  v24 := Try.zeroValue41
  i9 := by kernel_rfl }
open Go.RowKit Go.Lib in
/-- slices.Clone at []string: "Clone returns a copy of the slice. The elements are copied using assignment, so this is a shallow clone. The result may have additional unused capacity. The result preserves the nilness of s.": OF A SLICE THAT IS NOT nil IT RETURNS A SLICE THAT IS NOT nil, OF THE SAME ELEMENTS, IN MEMORY OF THE CALL's OWN: in the how-to's words (6f): 'w'.ownsRow B e 1 v' n cells': v' begins at the head of a row among the blocks from B on (B: the heap's size at the call), not frozen, whose first cells are the elements · 'Below B w w'': below B all is as it was. The capacity is whatever the run-time gives. 'zs': what the cells behind the slice's address hold; 'zs.take n': its elements. (LAID: no walk: one application.) -/
theorem Try.slices_Clone_string (b off n c : Nat) (zs : List ByteArray) (w : World) (hz : n ≤ zs.length) (hbig : n * 16 ≤ 140737488355328) (hc : ∀ j, j < zs.length → w.cell? ⟨b, off + j, none⟩ = some (.string (zs.getD j ByteArray.empty))) :
    Calls Try.prog 72 #[.slice (some ⟨b, off, none⟩) n c] w fun e w' => ∃ v', e = .returned v' ∧ w'.ownsRow w.heap.size 9 1 v' n ((zs.take n).map (Value.string)) ∧ v' ≠ .slice none 0 0 ∧ Below w.heap.size w w' := Any.slices_Clone_string Try.laysNm216 b off n c zs w hz hbig hc
open Go.RowKit Go.Lib in
/-- The same at nil: nil comes back; the world is as it was. (LAID: no walk: one application.) -/
theorem Try.slices_Clone_string_nil (n c : Nat) (w : World) :
    Calls Try.prog 72 #[.slice none n c] w fun e w' => e = .returned (.slice none 0 0) ∧ w' = w := Any.slices_Clone_string_nil Try.laysNm216 n c w
open Go.RowKit Go.Lib in
/-- The same at a slice of length 0 that is not nil, WHATEVER ITS ADDRESS (no cell is asked for): a slice that is not nil and owns nothing comes back. (LAID: no walk: one application.) -/
theorem Try.slices_Clone_string_zero (a : Addr) (c : Nat) (w : World) :
    Calls Try.prog 72 #[.slice (some a) 0 c] w fun e w' => ∃ v', e = .returned v' ∧ w'.ownsRow w.heap.size 9 1 v' 0 [] ∧ v' ≠ .slice none 0 0 ∧ Below w.heap.size w w' := Any.slices_Clone_string_zero Try.laysNm216 a c w
end Go.Proofs


namespace Go.Proofs.Ytnndpbkcldkbgaa.Ow
open Go Go.Proofs.YtnndpbkcldkbgaaW.PrintWords

theorem reps_map {α : Type} (enc : α → Value) (h1 : ∀ x, (enc x).oneCell' = true) (w : World) (base : Nat) (ok : Nat → Prop) (xs : List α) : Reps ((Kd.scalar enc h1).M w base ok) 1 xs (xs.map enc) := by
  refine ⟨by rw [List.length_map, Nat.mul_one], fun j p hj => ?_⟩
  have hl : j < xs.length := (List.getElem?_eq_some_iff.1 hj).1
  show ((xs.map enc).drop (j * 1)).take 1 = [enc p]
  rw [Nat.mul_one, List.drop_eq_getElem_cons (by rw [List.length_map]; exact hl), List.take_succ_cons, List.take_zero, List.getElem_map]
  have := (List.getElem?_eq_some_iff.1 hj).2
  rw [this]

/-- A new block of cells that are so encoded is a row of one's own. -/
theorem R_new_block {α : Type} (enc : α → Value) (h1 : ∀ x, (enc x).oneCell' = true) (e : Nat) (w : World) (xs : List α) (hl : xs.length ≤ maxLen) :
    Kd.R (Kd.scalar enc h1) e (w.alloc (.cells (xs.map enc).toArray e)) w.heap.size (fun _ => True) (.slice (some ⟨w.heap.size, 0, none⟩) xs.length xs.length) xs := by
  refine ⟨fun _ _ => trivial, xs.map enc, ⟨by rw [List.length_map]; exact (Nat.mul_one _).symm, .inr ⟨w.heap.size, xs.length, (xs.map enc).toArray, rfl, Nat.le_refl _, ?_, Nat.le_refl _, hl, ?_, ?_⟩⟩, reps_map enc h1 _ _ _ _⟩
  · exact heap_alloc_new w _
  · show (xs.map enc).toArray.size = xs.length * 1
    simp
  · show (xs.map enc).toArray.toList.take (xs.length * 1) = xs.map enc
    rw [Nat.mul_one]
    exact List.take_of_length_le (by simp)
end Go.Proofs.Ytnndpbkcldkbgaa.Ow


namespace Go.Proofs.Ytnndpbkcldkbgaa.Pure
open Go Go.RowKit Go.Proofs.YtnndpbkcldkbgaaW.PrintWords Go.Proofs.YtnndpbkcldkbgaaW.PrintLast
set_option linter.unusedVariables false
set_option linter.unusedSimpArgs false

theorem w64 {n : Int} (h0 : -9223372036854775808 ≤ n) (h1 : n ≤ 9223372036854775807) : wrap64 n = n := by
  unfold wrap64
  omega
theorem u64w (n : Int) : IntKind.u64.wrap n = n % 18446744073709551616 := by
  simp [IntKind.wrap, IntKind.bits, IntKind.signed]
theorem u64_in {n : Int} (h0 : 0 ≤ n) (h1 : n < 18446744073709551616) : IntKind.u64.wrap n = n := by
  rw [u64w]
  exact Int.emod_eq_of_lt h0 h1
theorem u64_range (n : Int) : 0 ≤ IntKind.u64.wrap n ∧ IntKind.u64.wrap n < 18446744073709551616 := by
  rw [u64w]
  omega

theorem size_toList (s : ByteArray) : s.data.toList.length = s.size := rfl
theorem bt_getD (s : ByteArray) (i : Nat) : bt s (i : Int) = ((s.data.toList.getD i 0).toNat : Int) := by
  unfold bt
  simp only [Int.toNat_natCast]
  split
  · rename_i h
    rw [List.getD_eq_getElem?_getD, List.getElem?_eq_getElem (by exact h)]
    rfl
  · rename_i h
    rw [List.getD_eq_getElem?_getD, List.getElem?_eq_none (by exact Nat.le_of_not_lt h)]
    rfl
theorem bt0 (s : ByteArray) (i : Int) : 0 ≤ bt s i := (bt_range s i).1
theorem bt1 (s : ByteArray) (i : Int) : bt s i ≤ 255 := (bt_range s i).2

theorem ba_ext {s t : ByteArray} (h : s.data.toList = t.data.toList) : s = t := by
  cases s with
  | mk a => cases t with
    | mk b => exact congrArg ByteArray.mk (Array.toList_inj.1 h)
theorem data_append (s t : ByteArray) : (s ++ t).data.toList = s.data.toList ++ t.data.toList := by
  simp [ByteArray.data_append]
theorem son_data (xs : List Int) : (strOfNums xs).data.toList = xs.map fun n => UInt8.ofNat n.toNat := by
  have := strOfNums_data xs
  exact this
theorem son_size (xs : List Int) : (strOfNums xs).size = xs.length := by
  rw [← size_toList, son_data, List.length_map]
theorem son_append (xs ys : List Int) : strOfNums (xs ++ ys) = strOfNums xs ++ strOfNums ys := by
  apply ba_ext
  rw [data_append, son_data, son_data, son_data, List.map_append]
theorem ba_empty : (⟨#[]⟩ : ByteArray).data.toList = [] := rfl
theorem ba_append_empty (s : ByteArray) : s ++ (⟨#[]⟩ : ByteArray) = s := ba_ext (by rw [data_append, ba_empty, List.append_nil])
theorem ba_empty_append (s : ByteArray) : (⟨#[]⟩ : ByteArray) ++ s = s := ba_ext (by rw [data_append, ba_empty, List.nil_append])

/-- One number of rounds for what each wants some. -/
theorem ev_of {α : Type} {g : Nat → Option α} {r : α} (K : Nat) (h : ∀ k, K < k → g k = some r) : Ev g r := ⟨K + 1, fun k hk => h k (by omega)⟩

theorem bytesOf_len (s : ByteArray) : (bytesOf s).length = s.size := by
  unfold bytesOf
  rw [List.length_map, size_toList]
theorem son_bytesOf (s : ByteArray) : strOfNums (bytesOf s) = s := by
  apply ba_ext
  rw [son_data, bytesOf, List.map_map]
  have : ((fun n : Int => UInt8.ofNat n.toNat) ∘ fun b : UInt8 => (b.toNat : Int)) = id := by
    funext b
    simp
  rw [this, List.map_id]
theorem ba_assoc (a b c : ByteArray) : a ++ b ++ c = a ++ (b ++ c) := ba_ext (by simp only [data_append, List.append_assoc])

/-! ### rounds enough, and what comes out -/
section
variable {α β : Type}
theorem Ev.pos {c : Prop} [Decidable c] {A B : Nat → Option α} {r : α} (h : c) (e : Ev A r) : Ev (fun k => if c then A k else B k) r := Ev.congr (fun k => by rw [if_pos h]) e
theorem Ev.neg {c : Prop} [Decidable c] {A B : Nat → Option α} {r : α} (h : ¬ c) (e : Ev B r) : Ev (fun k => if c then A k else B k) r := Ev.congr (fun k => by rw [if_neg h]) e
theorem Ev.both {c : Prop} [Decidable c] {A B : Nat → Option α} {r s : α} (h1 : c → Ev A r) (h2 : ¬ c → Ev B s) : Ev (fun k => if c then A k else B k) (if c then r else s) := by
  by_cases h : c
  · rw [if_pos h]
    exact Ev.pos h (h1 h)
  · rw [if_neg h]
    exact Ev.neg h (h2 h)
theorem Ev.sb {y : β} {f : Nat → β → Option α} {r : α} (e : Ev (fun k => f k y) r) : Ev (fun k => (some y).bind (f k)) r := e
/-- With rounds enough, something comes out of which Q holds. -/
def Evs (g : Nat → Option α) (Q : α → Prop) : Prop := ∃ r, Q r ∧ Ev g r
theorem Evs.of {g : Nat → Option α} {Q : α → Prop} {r : α} (h : Ev g r) (hq : Q r) : Evs g Q := ⟨r, hq, h⟩
theorem Evs.ret {Q : α → Prop} {r : α} (hq : Q r) : Evs (fun _ => some r) Q := ⟨r, hq, Ev.now r⟩
theorem Evs.mono {g : Nat → Option α} {Q R : α → Prop} (h : Evs g Q) (hq : ∀ r, Q r → R r) : Evs g R := by
  obtain ⟨r, a, b⟩ := h
  exact ⟨r, hq r a, b⟩
theorem Evs.step {g f : Nat → Option α} {Q : α → Prop} (h : ∀ k, g (k + 1) = f k) (e : Evs f Q) : Evs g Q := by
  obtain ⟨r, a, b⟩ := e
  exact ⟨r, a, Ev.step h b⟩
theorem Evs.congr {g f : Nat → Option α} {Q : α → Prop} (h : ∀ k, g k = f k) (e : Evs f Q) : Evs g Q := by
  obtain ⟨r, a, b⟩ := e
  exact ⟨r, a, Ev.congr h b⟩
theorem Evs.bind {g : Nat → Option α} {f : Nat → α → Option β} {Q : α → Prop} {R : β → Prop} (e : Evs g Q) (h : ∀ a, Q a → Evs (fun k => f k a) R) : Evs (fun k => (g k).bind (f k)) R := by
  obtain ⟨a, ha, ea⟩ := e
  obtain ⟨r, hr, er⟩ := h a ha
  exact ⟨r, hr, Ev.bind ea er⟩
theorem Evs.sb {y : β} {f : Nat → β → Option α} {Q : α → Prop} (e : Evs (fun k => f k y) Q) : Evs (fun k => (some y).bind (f k)) Q := e
theorem Evs.pos {c : Prop} [Decidable c] {A B : Nat → Option α} {Q : α → Prop} (h : c) (e : Evs A Q) : Evs (fun k => if c then A k else B k) Q := Evs.congr (fun k => by rw [if_pos h]) e
theorem Evs.neg {c : Prop} [Decidable c] {A B : Nat → Option α} {Q : α → Prop} (h : ¬ c) (e : Evs B Q) : Evs (fun k => if c then A k else B k) Q := Evs.congr (fun k => by rw [if_neg h]) e
theorem Evs.ite {c : Prop} [Decidable c] {A B : Nat → Option α} {Q : α → Prop} (h1 : c → Evs A Q) (h2 : ¬ c → Evs B Q) : Evs (fun k => if c then A k else B k) Q := by
  by_cases h : c
  · exact Evs.pos h (h1 h)
  · exact Evs.neg h (h2 h)
theorem Evs.rounds {g : Nat → Option α} {Q : α → Prop} (h : Evs g Q) : ∃ k r, Q r ∧ g k = some r := by
  obtain ⟨r, hq, e⟩ := h
  obtain ⟨k, hk⟩ := Ev.rounds e
  exact ⟨k, r, hq, hk⟩
end

end Go.Proofs.Ytnndpbkcldkbgaa.Pure


namespace Go.Proofs.Ytnndpbkcldkbgaa.Pure
open Go Go.RowKit Go.Proofs.Ytnndpbkcldkbgaa.P Go.Proofs.YtnndpbkcldkbgaaW.PrintWords Go.Proofs.YtnndpbkcldkbgaaW.PrintLast
set_option linter.unusedVariables false
set_option linter.unusedSimpArgs false

def hstep (h b : Int) : Int := IntKind.u64.wrap ((Go.bits .xor .u64 h (IntKind.u64.wrap b)) * 1099511628211)
def hashN (s : ByteArray) : Nat → Int
  | 0 => 14695981039346656037
  | n + 1 => hstep (hashN s n) (bt s n)
def hash (s : ByteArray) : Int := hashN s s.size
theorem hashN_range (s : ByteArray) : ∀ n, 0 ≤ hashN s n ∧ hashN s n < 18446744073709551616
  | 0 => by simp [hashN]
  | n + 1 => u64_range _
theorem hash_range (s : ByteArray) : 0 ≤ hash s ∧ hash s < 18446744073709551616 := hashN_range s s.size

/-- The last w bytes of a number, the highest first. -/
def low (h : Int) : Nat → List Int
  | 0 => []
  | w + 1 => low (h / 256) w ++ [h % 256]
theorem low_length : ∀ (w : Nat) (h : Int), (low h w).length = w
  | 0, _ => rfl
  | w + 1, h => by rw [low, List.length_append, low_length w]; rfl
theorem low_more : ∀ (b a : Nat) (h : Int), ∃ l, l.length = a ∧ low h (a + b) = l ++ low h b
  | 0, a, h => ⟨low h a, low_length a h, by simp [low]⟩
  | b + 1, a, h => by
    obtain ⟨l, hl, e⟩ := low_more b a (h / 256)
    exact ⟨l, hl, by rw [← Nat.add_assoc, low, low, e, List.append_assoc]⟩
theorem low_drop {a w : Nat} (hw : w ≤ a) (h : Int) : (low h a).drop (a - w) = low h w := by
  obtain ⟨l, hl, e⟩ := low_more w (a - w) h
  rw [show a - w + w = a from by omega] at e
  rw [e, List.drop_left' hl]
def sumOf (s : ByteArray) (w : Int) : ByteArray := if 1 ≤ w ∧ w ≤ 8 then strOfNums (low (hash s) w.toNat) else ⟨#[]⟩
theorem sumOf_size (s : ByteArray) (w : Int) : (sumOf s w).size ≤ 8 := by
  unfold sumOf
  split
  · rw [son_size, low_length]
    omega
  · simp [ByteArray.size]
theorem sumOf_size_eq (s : ByteArray) {w : Int} (h : 1 ≤ w ∧ w ≤ 8) : ((sumOf s w).size : Int) = w := by
  unfold sumOf
  rw [if_pos h, son_size, low_length]
  omega

/-! ### the reference's -/
theorem spec_l1 (w : Nat) (hw : w ≤ 8) : ∀ (d k : Nat) (v : Int) (out : ByteArray) (i : Nat), i + d = w → out.size = i → d < k → 0 ≤ v → v < 18446744073709551616 →
    spec_Sum.l1 k (w : Int) v out (i : Int) = some (strOfNums (low v d) ++ out)
  | 0, k + 1, v, out, i, hd, ho, _, _, _ => by
    simp only [spec_Sum.l1]
    rw [if_neg (by omega), low, show strOfNums [] = (⟨#[]⟩ : ByteArray) from rfl, ba_empty_append]
  | d + 1, k + 1, v, out, i, hd, ho, hk, h0, h1 => by
    simp only [spec_Sum.l1]
    rw [if_pos (by omega), Option.bind_some, Int.tmod_eq_emod_of_nonneg h0, Int.tdiv_eq_ediv_of_nonneg h0, son_size, if_pos (by simp; omega), u64_in (by omega) (by omega), w64 (by omega) (by omega)]
    rw [show (i : Int) + 1 = ((i + 1 : Nat) : Int) from by omega, spec_l1 w hw d k (v / 256) _ (i + 1) (by omega) (by rw [ByteArray.size_append, son_size, ho]; simp; omega) (by omega) (by omega) (by omega), low, son_append]
    congr 1
    apply ba_ext
    simp only [data_append, List.append_assoc]
    congr 2
    rw [Int.emod_emod_of_dvd _ (by decide)]
theorem spec_l0 (s : ByteArray) (hs : s.size ≤ 140737488351232) (w : Nat) (hw : w ≤ 8) : ∀ (d k i : Nat), i + d = s.size → d + 9 < k →
    spec_Sum.l0 k s (w : Int) (hashN s i) (i : Int) = some (strOfNums (low (hash s) w))
  | 0, k + 1, i, hd, hk => by
    simp only [spec_Sum.l0]
    rw [if_neg (by omega), show hashN s i = hash s from by unfold hash; congr 1]
    have := spec_l1 w hw w k (hash s) ⟨#[]⟩ 0 (by omega) rfl (by omega) (hash_range s).1 (hash_range s).2
    rw [ba_append_empty] at this
    exact this
  | d + 1, k + 1, i, hd, hk => by
    simp only [spec_Sum.l0]
    rw [if_pos (by omega), if_pos (by omega), w64 (by omega) (by omega), show (i : Int) + 1 = ((i + 1 : Nat) : Int) from by omega]
    exact spec_l0 s hs w hw d k (i + 1) (by omega) (by omega)
theorem in_eq (a b c : Int) : spec_l1In.f a b c = some (decide (b ≤ a ∧ a ≤ c)) := by
  unfold spec_l1In.f
  split
  · simp_all
  · rename_i h
    simp only [ge_iff_le, Int.not_le] at h
    simp [Int.not_le.2 h]
theorem impl_in_eq (a b c : Int) : impl_in.f a b c = some (decide (b ≤ a ∧ a ≤ c)) := by
  unfold impl_in.f
  split
  · simp_all
  · rename_i h
    simp only [ge_iff_le, Int.not_le] at h
    simp [Int.not_le.2 h]
theorem spec_Sum_eq (s : ByteArray) (hs : s.size ≤ 140737488351232) (w : Int) (k : Nat) (hk : s.size + 9 < k) : spec_Sum.f k s w = some (sumOf s w) := by
  unfold spec_Sum.f
  rw [in_eq, Option.bind_some]
  by_cases h : 1 ≤ w ∧ w ≤ 8
  · rw [if_pos (decide_eq_true h)]
    obtain ⟨n, rfl⟩ := Int.eq_ofNat_of_zero_le (show 0 ≤ w by omega)
    have := spec_l0 s hs n (by omega) s.size k 0 (by omega) hk
    unfold sumOf
    rw [if_pos h, Int.toNat_natCast]
    exact this
  · rw [if_neg (by simpa using h)]
    unfold sumOf
    rw [if_neg h]

/-! ### the program's -/
theorem impl_l1 (w : Nat) (hw : w ≤ 8) : ∀ (d k : Nat) (v h : Int) (l : List Int), d ≤ 8 → l.length = 8 → d < k → 0 ≤ v → low h 8 = low v d ++ l.drop d →
    impl_Sum.l1 k (w : Int) v l ((d : Int) - 1) = some (strOfNums (low h w))
  | 0, k + 1, v, h, l, _, hl, _, _, he => by
    simp only [impl_Sum.l1]
    rw [if_neg (by omega), w64 (by omega) (by omega), if_pos (by omega), if_pos (by omega)]
    rw [low, List.nil_append, List.drop_zero] at he
    rw [← he, show ((8 : Int) - (w : Int)).toNat = 8 - w from by omega, low_drop hw]
  | d + 1, k + 1, v, h, l, hd, hl, hk, h0, he => by
    simp only [impl_Sum.l1]
    rw [if_pos (by omega), if_pos (by omega), if_pos (by omega), w64 (by omega) (by omega), show ((d + 1 : Nat) : Int) - 1 - 1 = (d : Int) - 1 from by omega]
    refine impl_l1 w hw d k (v / 256) h _ (by omega) (by rw [List.length_set, hl]) (by omega) (by omega) ?_
    rw [he, low, List.append_assoc, show (((d + 1 : Nat) : Int) - 1).toNat = d from by omega]
    congr 1
    rw [List.drop_set, if_neg (by omega), Nat.sub_self]
    have : l.drop d = l[d]'(by omega) :: l.drop (d + 1) := List.drop_eq_getElem_cons (by omega)
    rw [this]
    rfl
theorem impl_l0 (s : ByteArray) (hs : s.size ≤ 140737488351232) (w : Nat) (hw : w ≤ 8) : ∀ (d k i : Nat), i + d = s.size → d + 9 < k →
    impl_Sum.l0 k s (w : Int) (hashN s i) (i : Int) = some (strOfNums (low (hash s) w))
  | 0, k + 1, i, hd, hk => by
    simp only [impl_Sum.l0]
    rw [if_neg (by omega), if_pos (by omega), show hashN s i = hash s from by unfold hash; congr 1]
    exact impl_l1 w hw 8 k (hash s) (hash s) _ (by omega) (by simp) (by omega) (hash_range s).1 (by rw [List.drop_of_length_le (by simp), List.append_nil])
  | d + 1, k + 1, i, hd, hk => by
    simp only [impl_Sum.l0]
    rw [if_pos (by omega), if_pos (by omega), w64 (by omega) (by omega), show (i : Int) + 1 = ((i + 1 : Nat) : Int) from by omega]
    exact impl_l0 s hs w hw d k (i + 1) (by omega) (by omega)
theorem impl_Sum_eq (s : ByteArray) (hs : s.size ≤ 140737488351232) (w : Int) (k : Nat) (hk : s.size + 9 < k) : impl_Sum.f k s w = some (sumOf s w) := by
  unfold impl_Sum.f
  rw [impl_in_eq, Option.bind_some]
  by_cases h : 1 ≤ w ∧ w ≤ 8
  · rw [if_pos (decide_eq_true h)]
    obtain ⟨n, rfl⟩ := Int.eq_ofNat_of_zero_le (show 0 ≤ w by omega)
    have := impl_l0 s hs n (by omega) s.size k 0 (by omega) hk
    unfold sumOf
    rw [if_pos h, Int.toNat_natCast]
    exact this
  · rw [if_neg (by simpa using h)]
    unfold sumOf
    rw [if_neg h]

end Go.Proofs.Ytnndpbkcldkbgaa.Pure


namespace Go.Proofs.Ytnndpbkcldkbgaa.Pure
open Go Go.RowKit Go.Proofs.Ytnndpbkcldkbgaa.P Go.Proofs.YtnndpbkcldkbgaaW.PrintWords Go.Proofs.YtnndpbkcldkbgaaW.PrintLast
set_option linter.unusedVariables false
set_option linter.unusedSimpArgs false

/-- The short number of n: its bytes of seven bits. -/
def shortN (n : Nat) : List Int := if h : n < 128 then [(n : Int)] else ((n % 128 + 128 : Nat) : Int) :: shortN (n / 128)
termination_by n
decreasing_by omega
theorem shortN_small {n : Nat} (h : n < 128) : shortN n = [(n : Int)] := by rw [shortN, dif_pos h]
theorem shortN_more {n : Nat} (h : 128 ≤ n) : shortN n = ((n % 128 + 128 : Nat) : Int) :: shortN (n / 128) := by rw [shortN, dif_neg (by omega)]
theorem or128 : ∀ m : Fin 256, (m.val ||| 128) = m.val % 128 + 128 := by decide +kernel
theorem spec_short_l0 : ∀ (d n : Nat) (acc : List Int), n < 128 ^ d → n < 18446744073709551616 → acc.length + d ≤ 100 → Ev (fun k => spec_l2Short.l0 k (n : Int) acc) (strOfNums (acc ++ shortN n))
  | 0, n, acc, hn, _, _ => by
    obtain rfl : n = 0 := by simpa using hn
    refine Ev.step (fun k => spec_l2Short.l0.eq_2 ..) (Ev.neg (by omega) (Ev.pos (by omega) ?_))
    rw [shortN_small (by omega)]
    exact Ev.now _
  | d + 1, n, acc, hn, h64, hl => by
    by_cases h : n < 128
    · refine Ev.step (fun k => spec_l2Short.l0.eq_2 ..) (Ev.neg (by omega) (Ev.pos (by omega) ?_))
      rw [shortN_small h, show (n : Int) % 256 = (n : Int) from by omega]
      exact Ev.now _
    · refine Ev.step (fun k => spec_l2Short.l0.eq_2 ..) (Ev.pos (by omega) (Ev.pos (by omega) ?_))
      rw [Int.tdiv_eq_ediv_of_nonneg (by omega), Int.tmod_eq_emod_of_nonneg (by omega), u64_in (n := (n : Int) / 128) (by omega) (by omega), u64_in (n := (n : Int) % 128 + 128) (by omega) (by omega), show (n : Int) / 128 = ((n / 128 : Nat) : Int) from by omega]
      have := spec_short_l0 d (n / 128) (acc ++ [((n : Int) % 128 + 128) % 256]) (by rw [Nat.pow_succ] at hn; omega) (by omega) (by rw [List.length_append]; simp; omega)
      rw [shortN_more (by omega)]
      rw [List.append_assoc, show ((n : Int) % 128 + 128) % 256 = ((n % 128 + 128 : Nat) : Int) from by omega] at this
      rw [show ((n : Int) % 128 + 128) % 256 = ((n % 128 + 128 : Nat) : Int) from by omega]
      exact this
theorem impl_short_l0 : ∀ (d n : Nat) (acc : List Int), n < 128 ^ d → acc.length + d ≤ 100 → Ev (fun k => impl_short.l0 k (n : Int) acc) (strOfNums (acc ++ shortN n))
  | 0, n, acc, hn, _ => by
    obtain rfl : n = 0 := by simpa using hn
    refine Ev.step (fun k => impl_short.l0.eq_2 ..) (Ev.neg (by omega) (Ev.pos (by omega) ?_))
    rw [shortN_small (by omega)]
    exact Ev.now _
  | d + 1, n, acc, hn, hl => by
    by_cases h : n < 128
    · refine Ev.step (fun k => impl_short.l0.eq_2 ..) (Ev.neg (by omega) (Ev.pos (by omega) ?_))
      rw [shortN_small h, show (n : Int) % 256 = (n : Int) from by omega]
      exact Ev.now _
    · refine Ev.step (fun k => impl_short.l0.eq_2 ..) (Ev.pos (by omega) (Ev.pos (by omega) ?_))
      have e : Go.bits .or .u8 ((n : Int) % 256) 128 = ((n % 128 + 128 : Nat) : Int) := by
        rw [u8_or _ _ (by omega) (by omega) (by omega) (by omega)]
        have := or128 ⟨n % 256, by omega⟩
        dsimp only at this
        rw [show ((n : Int) % 256).toNat = n % 256 from by omega, show (128 : Int).toNat = 128 from rfl, this, Nat.mod_mod_of_dvd _ (by decide)]
      rw [e, show (n : Int) / 128 = ((n / 128 : Nat) : Int) from by omega, shortN_more (by omega)]
      have := impl_short_l0 d (n / 128) (acc ++ [((n % 128 + 128 : Nat) : Int)]) (by rw [Nat.pow_succ] at hn; omega) (by rw [List.length_append]; simp; omega)
      rw [List.append_assoc] at this
      exact this
def shortS (n : Nat) : ByteArray := strOfNums (shortN n)
theorem spec_short_ev (n : Nat) (h : n < 18446744073709551616) : Ev (fun k => spec_l2Short.f k (n : Int)) (shortS n) := by
  have := spec_short_l0 20 n [] (Nat.lt_of_lt_of_le h (by decide)) h (by simp)
  exact this
theorem impl_short_ev (n : Nat) (h : n < 18446744073709551616) : Ev (fun k => impl_short.f k (n : Int)) (shortS n) := by
  have := impl_short_l0 20 n [] (Nat.lt_of_lt_of_le h (by decide)) (by simp)
  exact this
theorem shortN_len : ∀ (d n : Nat), n < 128 ^ (d + 1) → (shortN n).length ≤ d + 1
  | 0, n, h => by rw [shortN_small (by simpa using h)]; simp
  | d + 1, n, h => by
    by_cases hn : n < 128
    · rw [shortN_small hn]; simp
    · rw [shortN_more (by omega), List.length_cons]
      have := shortN_len d (n / 128) (by rw [Nat.pow_succ] at h; omega)
      omega
theorem shortS_size (n : Nat) (h : n < 18446744073709551616) : (shortS n).size ≤ 10 := by
  unfold shortS
  rw [son_size]
  exact shortN_len 9 n (Nat.lt_of_lt_of_le h (by decide))

end Go.Proofs.Ytnndpbkcldkbgaa.Pure


namespace Go.Proofs.Ytnndpbkcldkbgaa.Pure
open Go Go.RowKit Go.Proofs.Ytnndpbkcldkbgaa.P Go.Proofs.YtnndpbkcldkbgaaW.PrintWords Go.Proofs.YtnndpbkcldkbgaaW.PrintLast
set_option linter.unusedVariables false
set_option linter.unusedSimpArgs false

/-- A frame whose number is n and has h bytes. -/
def body (s : ByteArray) (w n h : Int) : Int × ByteArray × Int :=
  if 1 ≤ n ∧ n ≤ 1000 then
    if (s.size : Int) < h + n + w then (0, ⟨#[]⟩, 0)
    else if (sumOf (s.extract h.toNat (h + n).toNat) w).toList = (s.extract (h + n).toNat (h + n + w).toNat).toList then (1, s.extract h.toNat (h + n).toNat, h + n + w) else (2, ⟨#[]⟩, 0)
  else (2, ⟨#[]⟩, 0)
def front (s : ByteArray) (w : Int) : Int × ByteArray × Int :=
  if s.size = 0 then (0, ⟨#[]⟩, 0)
  else if bt s 0 < 128 then body s w (bt s 0) 1
  else if s.size = 1 then (0, ⟨#[]⟩, 0)
  else if bt s 1 = 0 ∨ bt s 1 ≥ 128 then (2, ⟨#[]⟩, 0)
  else body s w (bt s 0 - 128 + 128 * bt s 1) 2

theorem extract_size (s : ByteArray) (i j : Nat) (h : j ≤ s.size) : (s.extract i j).size = j - i := by
  rw [ByteArray.size_extract]
  omega
theorem impl_body_ev (s : ByteArray) (hs : s.size ≤ 140737488351232) (w n h : Int) (hw : 1 ≤ w ∧ w ≤ 8) (hn : -1000 ≤ n ∧ n ≤ 100000) (hh : 0 ≤ h ∧ h ≤ 2) : Ev (fun k => impl_front.j0 k s w n h) (body s w n h) := by
  refine Ev.step (fun k => impl_front.j0.eq_2 ..) ?_
  rw [impl_in_eq]
  unfold body
  refine Ev.sb ?_
  by_cases h1 : 1 ≤ n ∧ n ≤ 1000
  · rw [w64 (n := h + n) (by omega) (by omega), w64 (n := h + n + w) (by omega) (by omega)]
    refine Ev.pos (decide_eq_true h1) ?_
    rw [if_pos h1]
    by_cases h2 : (s.size : Int) < h + n + w
    · rw [if_pos h2]
      exact Ev.pos h2 (Ev.now _)
    · rw [if_neg h2]
      refine Ev.neg h2 (Ev.pos (by omega) (Ev.pos (by omega) (Ev.pos (by omega) ?_)))
      refine Ev.bind (ev_of _ (fun k hk => impl_Sum_eq (s.extract h.toNat (h + n).toNat) (by rw [extract_size _ _ _ (by omega)]; omega) w k hk)) ?_
      refine Ev.pos (by omega) (Ev.pos (by omega) (Ev.pos (by omega) ?_))
      exact Ev.both (fun _ => Ev.now _) (fun _ => Ev.now _)
  · rw [if_neg h1]
    exact Ev.neg (by simpa using h1) (Ev.now _)
theorem toList_nil {s : ByteArray} : s.toList = ([] : List UInt8) ↔ s.size = 0 := by
  rw [Lib.toList_data]
  constructor
  · intro h
    rw [← size_toList, h]
    rfl
  · intro h
    rw [← size_toList] at h
    exact List.eq_nil_of_length_eq_zero h
theorem and127 {x : Int} (h0 : 0 ≤ x) (h1 : x ≤ 255) : Go.bits .and .u8 x 127 = x % 128 := by
  rw [u8_and _ _ h0 (by omega) (by omega) (by omega), show (127 : Int).toNat = 2 ^ 7 - 1 from rfl, Nat.and_two_pow_sub_one_eq_mod]
  omega
theorem impl_front_ev (s : ByteArray) (hs : s.size ≤ 140737488351232) (w : Int) (hw : 1 ≤ w ∧ w ≤ 8) : Ev (fun k => impl_front.f k s w) (front s w) := by
  have b0 := bt_range s 0
  have b1 := bt_range s 1
  unfold impl_front.f front
  by_cases h0 : s.size = 0
  · rw [if_pos h0]
    exact Ev.pos (toList_nil.2 h0) (Ev.now _)
  · rw [if_neg h0]
    refine Ev.neg (fun h => h0 (toList_nil.1 h)) (Ev.pos (by omega) ?_)
    by_cases h1 : bt s 0 < 128
    · rw [if_pos h1, w64 (n := bt s 0) (by omega) (by omega)]
      exact Ev.neg (by omega) (impl_body_ev s hs w _ 1 hw (by omega) (by omega))
    · rw [if_neg h1]
      refine Ev.pos (by omega) ?_
      by_cases h2 : s.size = 1
      · rw [if_pos h2]
        exact Ev.pos (by omega) (Ev.now _)
      · rw [if_neg h2]
        refine Ev.neg (by omega) (Ev.pos (by omega) ?_)
        by_cases h3 : bt s 1 = 0
        · rw [if_pos (.inl h3)]
          exact Ev.pos h3 (Ev.now _)
        · refine Ev.neg h3 ?_
          by_cases h4 : bt s 1 ≥ 128
          · rw [if_pos (.inr h4)]
            exact Ev.pos h4 (Ev.now _)
          · rw [if_neg (by omega), and127 b0.1 b0.2, w64 (n := bt s 1) (by omega) (by omega), w64 (n := 128 * bt s 1) (by omega) (by omega), w64 (n := bt s 0 % 128) (by omega) (by omega), w64 (n := bt s 0 % 128 + 128 * bt s 1) (by omega) (by omega), show bt s 0 % 128 = bt s 0 - 128 from by omega]
            exact Ev.neg h4 (impl_body_ev s hs w _ 2 hw (by omega) (by omega))

/-! ### the reference's -/
theorem spec_body_ev (s : ByteArray) (hs : s.size ≤ 140737488351232) (w n h : Int) (hw : 1 ≤ w ∧ w ≤ 8) (hn : 1 ≤ n ∧ n ≤ 1000) (hh : 0 ≤ h ∧ h ≤ 2) : Ev (fun k => spec_l3Front.j1 k s w n h false) (body s w n h) := by
  refine Ev.step (fun k => spec_l3Front.j1.eq_2 ..) (Ev.neg (by simp) ?_)
  unfold body
  rw [w64 (n := h + n) (by omega) (by omega), w64 (n := h + n + w) (by omega) (by omega), if_pos hn]
  by_cases h2 : (s.size : Int) < h + n + w
  · rw [if_pos h2]
    exact Ev.pos h2 (Ev.now _)
  · rw [if_neg h2]
    refine Ev.neg h2 (Ev.pos (by omega) (Ev.pos (by omega) (Ev.pos (by omega) ?_)))
    refine Ev.bind (ev_of _ (fun k hk => spec_Sum_eq (s.extract h.toNat (h + n).toNat) (by rw [extract_size _ _ _ (by omega)]; omega) w k hk)) ?_
    refine Ev.pos (by omega) (Ev.pos (by omega) (Ev.pos (by omega) ?_))
    exact Ev.both (fun _ => Ev.now _) (fun _ => Ev.now _)
theorem spec_bad_ev (s : ByteArray) (w n h : Int) : Ev (fun k => spec_l3Front.j1 k s w n h true) (2, (⟨#[]⟩ : ByteArray), 0) :=
  Ev.step (fun k => spec_l3Front.j1.eq_2 ..) (Ev.pos rfl (Ev.now _))
theorem extract_data_take (s : ByteArray) (j : Nat) : (s.extract 0 j).data.toList = s.data.toList.take j := by
  simp [ByteArray.data_extract]
theorem bt_byte (s : ByteArray) (i : Nat) (h : i < s.size) : s.data.toList[i]? = some (UInt8.ofNat (bt s (i : Int)).toNat) := by
  rw [bt_getD, Int.toNat_natCast, List.getD_eq_getElem?_getD, List.getElem?_eq_getElem (by exact h)]
  simp
theorem take_one {α : Type} {l : List α} {a : α} (h0 : l[0]? = some a) : l.take 1 = [a] := by
  match l, h0 with
  | x :: r, h0 =>
    simp at h0
    simp [h0]
/-- The text of a short number of one byte, of two. -/
theorem short_one (s : ByteArray) (h : 0 < s.size) (hb : bt s 0 < 128) : shortS (bt s 0).toNat = s.extract 0 1 := by
  apply ba_ext
  have b0 := bt_range s 0
  rw [extract_data_take, shortS, shortN_small (by omega), son_data]
  have := bt_byte s 0 h
  rw [take_one this]
  simp only [List.map_cons, List.map_nil, Int.toNat_natCast]
  rfl
theorem take_two {α : Type} {l : List α} {a b : α} (h0 : l[0]? = some a) (h1 : l[1]? = some b) : l.take 2 = [a, b] := by
  match l, h0, h1 with
  | x :: y :: r, h0, h1 =>
    simp at h0 h1
    simp [h0, h1]
theorem short_two (s : ByteArray) (h : 1 < s.size) (h0 : 128 ≤ bt s 0) (h1 : 1 ≤ bt s 1) (h2 : bt s 1 < 128) : shortS (bt s 0 - 128 + 128 * bt s 1).toNat = s.extract 0 2 := by
  apply ba_ext
  have b0 := bt_range s 0
  have e0 := bt_byte s 0 (by omega)
  have e1 := bt_byte s 1 h
  rw [extract_data_take, shortS, shortN_more (by omega), shortN_small (by omega), son_data, take_two e0 e1]
  simp only [List.map_cons, List.map_nil, Int.toNat_natCast]
  congr 2
  · congr 1
    have : ((0 : Nat) : Int) = 0 := rfl
    rw [this]
    omega
  · congr 2
    have : ((1 : Nat) : Int) = 1 := rfl
    rw [this]
    omega
theorem short_not (s : ByteArray) (n : Nat) (h : 1 < s.size) (hn : n < 128) : ¬ (shortS n).toList = (s.extract 0 2).toList := by
  rw [Lib.toList_data, Lib.toList_data, extract_data_take, shortS, shortN_small hn, son_data]
  intro he
  have := congrArg List.length he
  rw [List.length_take, size_toList] at this
  simp at this
  omega
theorem spec_front_ev (s : ByteArray) (hs : s.size ≤ 140737488351232) (w : Int) (hw : 1 ≤ w ∧ w ≤ 8) : Ev (fun k => spec_l3Front.f k s w) (front s w) := by
  have b0 := bt_range s 0
  have b1 := bt_range s 1
  unfold spec_l3Front.f front
  refine Ev.step (fun k => spec_l3Front.l0.eq_2 ..) ?_
  by_cases h0 : s.size = 0
  · rw [if_pos h0]
    exact Ev.pos (by omega) (Ev.neg (by omega) (Ev.now _))
  · rw [if_neg h0, w64 (n := bt s 0) (by omega) (by omega), Int.tmod_eq_emod_of_nonneg b0.1, Int.mul_one, w64 (n := bt s 0 % 128) (by omega) (by omega), Int.zero_add, w64 (n := bt s 0 % 128) (by omega) (by omega), Int.zero_add, w64 (n := 1) (by omega) (by omega)]
    refine Ev.neg (by omega) (Ev.pos (by omega) (Ev.pos (by omega) ?_))
    by_cases h1 : bt s 0 < 128
    · rw [if_pos h1, show bt s 0 % 128 = bt s 0 from by omega, in_eq]
      refine Ev.pos h1 (Ev.sb ?_)
      by_cases hin : 1 ≤ bt s 0 ∧ bt s 0 ≤ 1000
      · refine Ev.pos (decide_eq_true hin) ?_
        rw [u64_in (n := bt s 0) (by omega) (by omega)]
        have hsh := spec_short_ev (bt s 0).toNat (by omega)
        rw [show (((bt s 0).toNat : Nat) : Int) = bt s 0 from by omega] at hsh
        refine Ev.bind hsh (Ev.pos (by omega) (Ev.pos (by omega) ?_))
        rw [short_one s (by omega) h1, show ((1 : Int).toNat) = 1 from rfl, bne_self_eq_false]
        exact spec_body_ev s hs w _ 1 hw hin (by omega)
      · refine Ev.neg (by simpa using hin) ?_
        unfold body
        rw [if_neg hin]
        exact spec_bad_ev ..
    · rw [if_neg h1]
      refine Ev.neg h1 (Ev.neg (by omega) ?_)
      rw [show bt s 0 % 128 = bt s 0 - 128 from by omega, Int.one_mul, w64 (n := 128) (by omega) (by omega)]
      refine Ev.step (fun k => spec_l3Front.l0.eq_2 ..) ?_
      by_cases h2 : s.size = 1
      · rw [if_pos h2]
        exact Ev.pos (by omega) (Ev.neg (by omega) (Ev.now _))
      · rw [if_neg h2, w64 (n := bt s 1) (by omega) (by omega), Int.tmod_eq_emod_of_nonneg b1.1, w64 (n := bt s 1 % 128 * 128) (by omega) (by omega), w64 (n := bt s 0 - 128 + bt s 1 % 128 * 128) (by omega) (by omega), show (1 : Int) + 1 = 2 from rfl, w64 (n := 2) (by omega) (by omega)]
        refine Ev.neg (by omega) (Ev.pos (by omega) (Ev.pos (by omega) ?_))
        by_cases h4 : bt s 1 ≥ 128
        · rw [if_pos (.inr h4)]
          exact Ev.neg (by omega) (Ev.pos (by omega) (Ev.now _))
        · rw [in_eq, show bt s 1 % 128 = bt s 1 from by omega]
          refine Ev.pos (by omega) (Ev.sb ?_)
          by_cases hin : 1 ≤ bt s 0 - 128 + bt s 1 * 128 ∧ bt s 0 - 128 + bt s 1 * 128 ≤ 1000
          · refine Ev.pos (decide_eq_true hin) ?_
            rw [u64_in (n := bt s 0 - 128 + bt s 1 * 128) (by omega) (by omega)]
            have hsh := spec_short_ev (bt s 0 - 128 + bt s 1 * 128).toNat (by omega)
            rw [show (((bt s 0 - 128 + bt s 1 * 128).toNat : Nat) : Int) = bt s 0 - 128 + bt s 1 * 128 from by omega] at hsh
            refine Ev.bind hsh (Ev.pos (by omega) (Ev.pos (by omega) ?_))
            rw [show ((2 : Int).toNat) = 2 from rfl]
            by_cases h3 : bt s 1 = 0
            · rw [if_pos (.inl h3), bne_iff_ne.2 (short_not s _ (by omega) (by omega))]
              exact spec_bad_ev ..
            · have := short_two s (by omega) (by omega) (by omega) (by omega)
              rw [if_neg (by omega), show bt s 0 - 128 + bt s 1 * 128 = bt s 0 - 128 + 128 * bt s 1 from by omega, this, bne_self_eq_false]
              exact spec_body_ev s hs w _ 2 hw (by omega) (by omega)
          · refine Ev.neg (by simpa using hin) ?_
            by_cases h3 : bt s 1 = 0
            · rw [if_pos (.inl h3)]
              exact spec_bad_ev ..
            · rw [if_neg (by omega)]
              unfold body
              rw [if_neg (by omega)]
              exact spec_bad_ev ..

end Go.Proofs.Ytnndpbkcldkbgaa.Pure


namespace Go.Proofs.Ytnndpbkcldkbgaa.Pure
open Go Go.RowKit Go.Proofs.Ytnndpbkcldkbgaa.P Go.Proofs.YtnndpbkcldkbgaaW.PrintWords Go.Proofs.YtnndpbkcldkbgaaW.PrintLast
set_option linter.unusedVariables false
set_option linter.unusedSimpArgs false

theorem rd_eq {α : Type} (d : α) {l : List α} {i : Nat} (h : i < l.length) : rdOf d l (i : Int) = l[i] := by
  unfold rdOf
  rw [Int.toNat_natCast, List.getD_eq_getElem?_getD, List.getElem?_eq_getElem h]
  rfl

/-- What szStringS tells: no room, or what is left, and that all is small. -/
def RoomTexts (l : List ByteArray) (left r : Int) : Prop := r = -1 ∨ (0 ≤ r ∧ r ≤ left ∧ (l.length : Int) ≤ left ∧ ∀ s ∈ l, (s.size : Int) ≤ left)
theorem sz_l0 (l : List ByteArray) (hl : l.length ≤ 8796093022208) (hz : ∀ s ∈ l, s.size ≤ 140737488351232) (left : Int) (h1 : left ≤ 1048576) : ∀ (d i : Nat) (c : Int), i + d = l.length → 0 ≤ c → c ≤ left → (∀ j, (h : j < l.length) → j < i → (l[j].size : Int) ≤ left) →
    ∃ r, Ev (fun k => laws_szStringS.l0 k l c (i : Int)) r ∧ (r = -1 ∨ (0 ≤ r ∧ r ≤ left ∧ ∀ s ∈ l, (s.size : Int) ≤ left))
  | 0, i, c, hd, h0, hc, ha => by
    refine ⟨c, Ev.step (f := fun _ => some c) (fun k => ?_) (Ev.now _), .inr ⟨h0, hc, fun s hs => ?_⟩⟩
    · simp only [laws_szStringS.l0]
      rw [if_neg (by omega)]
    · obtain ⟨j, hj, rfl⟩ := List.getElem_of_mem hs
      exact ha j hj (by omega)
  | d + 1, i, c, hd, h0, hc, ha => by
    have hi : i < l.length := by omega
    have hsz := hz l[i] (List.getElem_mem hi)
    by_cases hn : c - (l[i].size : Int) < 0
    · refine ⟨-1, Ev.step (f := fun _ => some (-1)) (fun k => ?_) (Ev.now _), .inl rfl⟩
      simp only [laws_szStringS.l0]
      rw [if_pos (by omega), if_pos (by omega), rd_eq _ hi, w64 (by omega) (by omega), if_pos hn]
    · obtain ⟨r, hr, h⟩ := sz_l0 l hl hz left h1 d (i + 1) (c - (l[i].size : Int)) (by omega) (by omega) (by omega) (fun j h hj => by
        rcases Nat.lt_or_ge j i with h' | h'
        · exact ha j h h'
        · obtain rfl : j = i := by omega
          omega)
      refine ⟨r, Ev.step (fun k => ?_) hr, h⟩
      simp only [laws_szStringS.l0]
      rw [if_pos (by omega), if_pos (by omega), rd_eq _ hi, w64 (by omega) (by omega), if_neg hn, w64 (by omega) (by omega)]
      rfl
theorem szTexts (l : List ByteArray) (hl : l.length * 16 ≤ 140737488351232) (hz : ∀ s ∈ l, s.size ≤ 140737488351232) (left : Int) (h0 : 0 ≤ left) (h1 : left ≤ 1048576) :
    ∃ r, Ev (fun k => laws_szStringS.f k l left) r ∧ RoomTexts l left r := by
  unfold laws_szStringS.f RoomTexts
  rw [w64 (by omega) (by omega)]
  by_cases hn : left - (l.length : Int) < 0
  · exact ⟨-1, Ev.pos hn (Ev.now _), .inl rfl⟩
  · obtain ⟨r, hr, h⟩ := sz_l0 l (by omega) hz left h1 l.length 0 (left - (l.length : Int)) (by omega) (by omega) (by omega) (fun j h hj => by omega)
    refine ⟨r, Ev.neg hn hr, ?_⟩
    rcases h with h | ⟨a, b, c⟩
    · exact .inl h
    · exact .inr ⟨a, b, by omega, c⟩
theorem to_l0 (l : List ByteArray) (hl : l.length ≤ 8796093022208) : ∀ (d i : Nat) (o : List ByteArray), i + d = l.length → o.length = l.length → (∀ j, (h : j < o.length) → (h' : j < l.length) → j < i → o[j] = l[j]) →
    Ev (fun k => laws_toStringS.l0 k l o (i : Int)) l
  | 0, i, o, hd, ho, ha => by
    refine Ev.step (f := fun _ => some l) (fun k => ?_) (Ev.now _)
    simp only [laws_toStringS.l0]
    rw [if_neg (by omega)]
    congr 1
    exact List.ext_getElem ho (fun j h h' => ha j h h' (by omega))
  | d + 1, i, o, hd, ho, ha => by
    have hi : i < l.length := by omega
    refine Ev.step (fun k => ?_) (to_l0 l hl d (i + 1) (o.set i l[i]) (by omega) (by rw [List.length_set, ho]) (fun j h h' hj => ?_))
    · simp only [laws_toStringS.l0]
      rw [if_pos (by omega), if_pos (by omega), if_pos (by omega), rd_eq _ hi, w64 (by omega) (by omega), Int.toNat_natCast]
      rfl
    · rw [List.getElem_set]
      split
      · rename_i e
        subst e
        rfl
      · exact ha j (by simpa using h) h' (by omega)
theorem toTexts (l : List ByteArray) (hl : l.length * 16 ≤ 140737488351232) : Ev (fun k => laws_toStringS.f k l) l := by
  unfold laws_toStringS.f
  refine Ev.pos (by omega) (Ev.pos (by omega) ?_)
  rw [Int.toNat_natCast]
  exact to_l0 l (by omega) l.length 0 (List.replicate l.length ⟨#[]⟩) (by omega) (by simp) (fun j h h' hj => by omega)
theorem eq_l0 (l : List ByteArray) (hl : l.length ≤ 8796093022208) : ∀ (d i : Nat), i + d = l.length → Ev (fun k => laws_eqStringS.l0 k l l (i : Int)) true
  | 0, i, hd => by
    refine Ev.step (f := fun _ => some true) (fun k => ?_) (Ev.now _)
    simp only [laws_eqStringS.l0]
    rw [if_neg (by omega)]
  | d + 1, i, hd => by
    refine Ev.step (fun k => ?_) (eq_l0 l hl d (i + 1) (by omega))
    simp only [laws_eqStringS.l0]
    rw [if_pos (by omega), if_pos (by omega), if_pos (by omega), if_pos (by trivial), w64 (by omega) (by omega)]
    rfl
theorem eqTexts (l : List ByteArray) (hl : l.length ≤ 8796093022208) : Ev (fun k => laws_eqStringS.f k l l) true := by
  unfold laws_eqStringS.f
  exact Ev.pos rfl (eq_l0 l hl l.length 0 (by omega))

end Go.Proofs.Ytnndpbkcldkbgaa.Pure


namespace Go.Proofs.Ytnndpbkcldkbgaa.Pure
open Go Go.RowKit Go.Proofs.Ytnndpbkcldkbgaa.P Go.Proofs.YtnndpbkcldkbgaaW.PrintWords Go.Proofs.YtnndpbkcldkbgaaW.PrintLast
set_option linter.unusedVariables false
set_option linter.unusedSimpArgs false

def framesOk : List ByteArray → Bool
  | [] => true
  | f :: r => if 1 ≤ (f.size : Int) ∧ (f.size : Int) ≤ 1000 then framesOk r else false
def restOk (w : Int) (rest : ByteArray) (bad : Bool) : Bool := if bad = true then rest.toList == ([] : List UInt8) else (front rest w).1 == 0
def validDec (w : Int) (rest : ByteArray) (fr : List ByteArray) (bad : Bool) : Bool :=
  if (1 ≤ w ∧ w ≤ 8) ∧ fr.length ≤ 500 then (if framesOk fr = true then restOk w rest bad else false) else false

theorem spec_VD0 (w : Int) (hw : 1 ≤ w ∧ w ≤ 8) (rest : ByteArray) (hr : rest.size ≤ 140737488351232) (fr : List ByteArray) (bad : Bool) (hl : fr.length ≤ 500) : ∀ (d i : Nat), i + d = fr.length →
    Ev (fun k => spec_ValidDecoder.l0 k (i : Int) w rest fr bad) (if framesOk (fr.drop i) = true then restOk w rest bad else false)
  | 0, i, hd => by
    refine Ev.step (fun k => spec_ValidDecoder.l0.eq_2 ..) (Ev.neg (by omega) ?_)
    rw [List.drop_of_length_le (by omega), framesOk, if_pos rfl]
    unfold restOk
    refine Ev.both (fun _ => Ev.now _) (fun _ => ?_)
    exact Ev.bind (spec_front_ev rest hr w hw) (Ev.now _)
  | d + 1, i, hd => by
    have hi : i < fr.length := by omega
    refine Ev.step (fun k => spec_ValidDecoder.l0.eq_2 ..) (Ev.pos (by omega) (Ev.pos (by omega) ?_))
    rw [rd_eq _ hi, in_eq, List.drop_eq_getElem_cons hi, framesOk]
    refine Ev.sb ?_
    by_cases h : 1 ≤ (fr[i].size : Int) ∧ (fr[i].size : Int) ≤ 1000
    · rw [if_pos h, w64 (by omega) (by omega), show (i : Int) + 1 = ((i + 1 : Nat) : Int) from by omega]
      exact Ev.pos (decide_eq_true h) (spec_VD0 w hw rest hr fr bad hl d (i + 1) (by omega))
    · rw [if_neg h, if_neg (by simp)]
      exact Ev.neg (by simpa using h) (Ev.now _)
theorem spec_ValidDecoder_ev (w : Int) (rest : ByteArray) (hr : rest.size ≤ 140737488351232) (fr : List ByteArray) (bad : Bool) : Ev (fun k => spec_ValidDecoder.f k w rest fr bad) (validDec w rest fr bad) := by
  unfold spec_ValidDecoder.f validDec
  rw [in_eq]
  refine Ev.sb ?_
  by_cases hw : 1 ≤ w ∧ w ≤ 8
  · refine Ev.pos (decide_eq_true hw) (Ev.step (fun k => spec_ValidDecoder.j0.eq_2 ..) ?_)
    by_cases hl : fr.length ≤ 500
    · rw [if_pos ⟨hw, hl⟩]
      exact Ev.neg (by simp; omega) (spec_VD0 w hw rest hr fr bad hl fr.length 0 (by omega))
    · rw [if_neg (fun h => hl h.2)]
      exact Ev.pos (by simp; omega) (Ev.now _)
  · rw [if_neg (fun h => hw h.1)]
    exact Ev.neg (by simpa using hw) (Ev.step (fun k => spec_ValidDecoder.j0.eq_2 ..) (Ev.pos rfl (Ev.now _)))
theorem impl_VD0 (w : Int) (hw : 1 ≤ w ∧ w ≤ 8) (rest : ByteArray) (hr : rest.size ≤ 140737488351232) (fr : List ByteArray) (bad : Bool) (hl : fr.length ≤ 500) : ∀ (d i : Nat), i + d = fr.length →
    Ev (fun k => impl_ValidDecoder.l0 k fr (fr.length : Int) (i : Int) w rest fr bad) (if framesOk (fr.drop i) = true then restOk w rest bad else false)
  | 0, i, hd => by
    refine Ev.step (fun k => impl_ValidDecoder.l0.eq_2 ..) (Ev.neg (by omega) ?_)
    rw [List.drop_of_length_le (by omega), framesOk, if_pos rfl]
    unfold restOk
    refine Ev.both (fun _ => Ev.now _) (fun _ => ?_)
    exact Ev.bind (impl_front_ev rest hr w hw) (Ev.now _)
  | d + 1, i, hd => by
    have hi : i < fr.length := by omega
    refine Ev.step (fun k => impl_ValidDecoder.l0.eq_2 ..) (Ev.pos (by omega) (Ev.pos (by omega) (Ev.pos (by omega) ?_)))
    rw [rd_eq _ hi, impl_in_eq, List.drop_eq_getElem_cons hi, framesOk]
    refine Ev.sb ?_
    by_cases h : 1 ≤ (fr[i].size : Int) ∧ (fr[i].size : Int) ≤ 1000
    · rw [if_pos h, w64 (by omega) (by omega), show (i : Int) + 1 = ((i + 1 : Nat) : Int) from by omega]
      exact Ev.pos (decide_eq_true h) (impl_VD0 w hw rest hr fr bad hl d (i + 1) (by omega))
    · rw [if_neg h, if_neg (by simp)]
      exact Ev.neg (by simpa using h) (Ev.now _)
theorem impl_ValidDecoder_ev (w : Int) (rest : ByteArray) (hr : rest.size ≤ 140737488351232) (fr : List ByteArray) (bad : Bool) : Ev (fun k => impl_ValidDecoder.f k w rest fr bad) (validDec w rest fr bad) := by
  unfold impl_ValidDecoder.f validDec
  rw [impl_in_eq]
  refine Ev.sb ?_
  by_cases hw : 1 ≤ w ∧ w ≤ 8
  · refine Ev.pos (decide_eq_true hw) (Ev.step (fun k => impl_ValidDecoder.j0.eq_2 ..) ?_)
    by_cases hl : fr.length ≤ 500
    · rw [if_pos ⟨hw, hl⟩]
      exact Ev.neg (by simp; omega) (impl_VD0 w hw rest hr fr bad hl fr.length 0 (by omega))
    · rw [if_neg (fun h => hl h.2)]
      exact Ev.pos (by simp; omega) (Ev.now _)
  · rw [if_neg (fun h => hw h.1)]
    exact Ev.neg (by simpa using hw) (Ev.step (fun k => impl_ValidDecoder.j0.eq_2 ..) (Ev.pos rfl (Ev.now _)))

/-! ### the laws' helpers -/
def RoomDec (rest : ByteArray) (fr : List ByteArray) (left r : Int) : Prop := r = -1 ∨ (0 ≤ r ∧ r ≤ left ∧ (fr.length : Int) ≤ left ∧ (∀ s ∈ fr, (s.size : Int) ≤ left) ∧ (rest.size : Int) ≤ left)
theorem szDecoder_ev (w : Int) (rest : ByteArray) (hr : rest.size ≤ 140737488351232) (fr : List ByteArray) (h : fr.length * 16 ≤ 140737488351232 ∧ ∀ s ∈ fr, s.size ≤ 140737488351232) (bad : Bool) (left : Int) (h0 : 0 ≤ left) (h1 : left ≤ 1048576) :
    ∃ r, Ev (fun k => laws_szDecoder.f k w rest fr bad left) r ∧ RoomDec rest fr left r := by
  unfold laws_szDecoder.f RoomDec
  rw [w64 (by omega) (by omega)]
  by_cases hn : left - (rest.size : Int) < 0
  · exact ⟨-1, Ev.pos hn (Ev.now _), .inl rfl⟩
  · obtain ⟨r, hr, hR⟩ := szTexts fr h.1 h.2 (left - (rest.size : Int)) (by omega) (by omega)
    rcases hR with rfl | ⟨a, b, c, d⟩
    · exact ⟨-1, Ev.neg hn (Ev.bind hr (Ev.pos (by omega) (Ev.now _))), .inl rfl⟩
    · exact ⟨r, Ev.neg hn (Ev.bind hr (Ev.neg (by omega) (Ev.now _))), .inr ⟨a, by omega, by omega, fun s hs => by have := d s hs; omega, by omega⟩⟩
theorem toDecoder_ev (w : Int) (rest : ByteArray) (fr : List ByteArray) (bad : Bool) (h : fr.length * 16 ≤ 140737488351232) : Ev (fun k => laws_toDecoder.f k w rest fr bad) (w, rest, fr, bad) := by
  unfold laws_toDecoder.f
  exact Ev.bind (toTexts fr h) (Ev.now _)
theorem eqDecoder_ev (w : Int) (rest : ByteArray) (fr : List ByteArray) (bad : Bool) (h : fr.length ≤ 8796093022208) : Ev (fun k => laws_eqDecoder.f k w rest fr bad w rest fr bad) true := by
  unfold laws_eqDecoder.f
  refine Ev.pos rfl (Ev.pos rfl (Ev.bind (eqTexts fr h) (Ev.pos rfl (Ev.neg (by simp) (Ev.now _)))))

end Go.Proofs.Ytnndpbkcldkbgaa.Pure


namespace Go.Proofs.Ytnndpbkcldkbgaa.Pure
open Go Go.RowKit Go.Proofs.Ytnndpbkcldkbgaa.P Go.Proofs.YtnndpbkcldkbgaaW.PrintWords Go.Proofs.YtnndpbkcldkbgaaW.PrintLast
set_option linter.unusedVariables false
set_option linter.unusedSimpArgs false

theorem rdL0 {l : List ByteArray} {i : Nat} (h : i < l.length) : rdOf ByteArray.empty l (i : Int) = l[i] := by
  unfold rdOf
  rw [Int.toNat_natCast, List.getD_eq_getElem?_getD, List.getElem?_eq_getElem h]
  rfl
/-! ### marks -/
theorem mark_l0 : ∀ (m : Nat) (x : Int) (t : ByteArray), 0 ≤ x → x ≤ m → t.size + m ≤ 100000000 → ∃ r, Ev (fun k => laws_markText.l0 k x t) r
  | 0, x, t, h0, h1, h2 => ⟨_, Ev.step (fun k => laws_markText.l0.eq_2 ..) (Ev.neg (by omega) (Ev.pos (by omega) (Ev.now _)))⟩
  | m + 1, x, t, h0, h1, h2 => by
    by_cases h : x > 0
    · have hd : Int.tdiv x 10 = x / 10 := Int.tdiv_eq_ediv_of_nonneg h0
      obtain ⟨r, hr⟩ := mark_l0 m (Int.tdiv x 10) (strOfNums [(wrap64 (48 + (Int.tmod x 10))) % 256] ++ t) (by omega) (by omega) (by rw [ByteArray.size_append, son_size]; simp; omega)
      refine ⟨r, Ev.step (fun k => laws_markText.l0.eq_2 ..) (Ev.pos h (Ev.sb (Ev.pos (by rw [son_size]; simp; omega) ?_)))⟩
      rw [w64 (n := Int.tdiv x 10) (by omega) (by omega)]
      exact hr
    · exact ⟨_, Ev.step (fun k => laws_markText.l0.eq_2 ..) (Ev.neg h (Ev.pos (by omega) (Ev.now _)))⟩
theorem mark_ev (n : Nat) (h : n ≤ 2000000) : ∃ r, Ev (fun k => laws_markText.f k (n : Int)) r := by
  unfold laws_markText.f
  by_cases h0 : (n : Int) ≤ 0
  · exact ⟨_, Ev.pos h0 (Ev.now _)⟩
  · obtain ⟨r, hr⟩ := mark_l0 n n ⟨#[]⟩ (by omega) (by omega) (by have : (⟨#[]⟩ : ByteArray).size = 0 := rfl; omega)
    exact ⟨r, Ev.neg h0 hr⟩
noncomputable def mark (n : Nat) : ByteArray := if h : n ≤ 2000000 then (mark_ev n h).choose else ⟨#[]⟩
theorem mark_spec (n : Nat) (h : n ≤ 2000000) : Ev (fun k => laws_markText.f k (n : Int)) (mark n) := by
  unfold mark
  rw [dif_pos h]
  exact (mark_ev n h).choose_spec
def Marked (l : List ByteArray) (i : Nat) : Prop := ∀ j, (h : j < l.length) → j < i → l[j] = mark (1 + j)
theorem marks_ev : ∀ (d i : Nat) (l : List ByteArray), i + d = l.length → l.length ≤ 1100000 → Marked l i → Evs (fun k => laws_markStringS.l0 k l ((1 + i : Nat) : Int) (i : Int)) (fun r => r.1 = ((1 + l.length : Nat) : Int) ∧ r.2.length = l.length ∧ Marked r.2 l.length)
  | 0, i, l, hd, hl, hm => by
    refine Evs.step (fun k => laws_markStringS.l0.eq_2 ..) (Evs.neg (by omega) (Evs.ret ⟨by simp; omega, rfl, fun j h _ => hm j h (by omega)⟩))
  | d + 1, i, l, hd, hl, hm => by
    refine Evs.step (fun k => laws_markStringS.l0.eq_2 ..) (Evs.pos (by omega) (Evs.bind (Evs.of (mark_spec (1 + i) (by omega)) (Q := fun t => t = mark (1 + i)) rfl) (fun t ht => Evs.pos (by omega) ?_)))
    subst ht
    rw [Int.toNat_natCast, w64 (n := ((1 + i : Nat) : Int) + 1) (by omega) (by omega), w64 (n := (i : Int) + 1) (by omega) (by omega), show ((1 + i : Nat) : Int) + 1 = ((1 + (i + 1) : Nat) : Int) from by omega, show (i : Int) + 1 = ((i + 1 : Nat) : Int) from by omega]
    have := marks_ev d (i + 1) (l.set i (mark (1 + i))) (by rw [List.length_set]; omega) (by rw [List.length_set]; exact hl) (fun j h hj => by
      rw [List.getElem_set]
      split
      · rename_i e
        rw [e]
      · exact hm j (by simpa using h) (by omega))
    rw [List.length_set] at this
    exact this
theorem held_ev (l : List ByteArray) (hl : l.length ≤ 1100000) (hm : Marked l l.length) : ∀ (d i : Nat), i + d = l.length → Ev (fun k => laws_heldStringS.l0 k l ((1 + i : Nat) : Int) (i : Int)) ((1 + l.length : Nat) : Int)
  | 0, i, hd => by
    have e : ((1 + l.length : Nat) : Int) = ((1 + i : Nat) : Int) := by omega
    rw [e]
    exact Ev.step (fun k => laws_heldStringS.l0.eq_2 ..) (Ev.neg (by omega) (Ev.now _))
  | d + 1, i, hd => by
    refine Ev.step (fun k => laws_heldStringS.l0.eq_2 ..) (Ev.pos (by omega) (Ev.pos (by omega) (Ev.bind (mark_spec (1 + i) (by omega)) ?_)))
    rw [rdL0 (show i < l.length by omega), hm i (by omega) (by omega), w64 (n := ((1 + i : Nat) : Int) + 1) (by omega) (by omega), w64 (n := (i : Int) + 1) (by omega) (by omega), show ((1 + i : Nat) : Int) + 1 = ((1 + (i + 1) : Nat) : Int) from by omega, show (i : Int) + 1 = ((i + 1 : Nat) : Int) from by omega]
    exact Ev.pos rfl (held_ev l hl hm d (i + 1) (by omega))
/-- Marked, and held. -/
theorem marked_ev (l : List ByteArray) (hl : l.length ≤ 1100000) : ∃ L : List ByteArray, L.length = l.length ∧ Ev (fun k => laws_markStringS.f k l 1) (((1 + l.length : Nat) : Int), L) ∧ Ev (fun k => laws_heldStringS.f k L 1) ((1 + l.length : Nat) : Int) := by
  obtain ⟨p, ⟨p1, p2, p3⟩, hp⟩ := marks_ev l.length 0 l (by omega) hl (fun j _ hj => by omega)
  refine ⟨p.2, p2, ?_, ?_⟩
  · unfold laws_markStringS.f
    rw [← p1]
    exact hp
  · unfold laws_heldStringS.f
    have := held_ev p.2 (by omega) (by rw [p2]; exact p3) p.2.length 0 (by omega)
    rw [p2] at this
    exact this

end Go.Proofs.Ytnndpbkcldkbgaa.Pure


namespace Go.Proofs.Ytnndpbkcldkbgaa.Ow
open Go Go.Proofs.YtnndpbkcldkbgaaW.PrintWords

/-- A reading at type t is a value of kind d, of which S holds. -/
def Opens (P : Program) (t : TypeId) {α : Type} (d : Kd α) (S : α → Prop) : Prop :=
  ∀ (H : Type) (enc : TypeId × Value → H) (w : World) (fuel : Nat) (cs : List Value) (x : DataW H × List MemPlace),
    DataW.trod enc P w 0 (fun _ => true) true fuel t cs = some x → (∀ n ∈ x.1.weights P t, n ≤ 140737488351232) → ∃ y : α, d.K w y cs ∧ S y

theorem opens_string {P : Program} {t : TypeId} (ht : P.underlying t = some .string) : Opens P t Kd.string (fun s => s.size ≤ 140737488351232) := by
  intro H enc w fuel cs x h hw
  obtain ⟨s, rfl, rfl, _⟩ := DataW.trod_string ht h
  refine ⟨s, rfl, ?_⟩
  have := hw s.data.toList.length (by simp [DataW.weights])
  simpa using this

theorem opens_int {P : Program} {t : TypeId} {k : IntKind} (ht : P.underlying t = some (.int k)) : Opens P t (Kd.int k) (fun n => (Lit.int k n).wf = true) := by
  intro H enc w fuel cs x h _
  obtain ⟨n, rfl, rfl, hn⟩ := DataW.trod_int ht h
  exact ⟨n, rfl, hn⟩

theorem opens_bool {P : Program} {t : TypeId} (ht : P.underlying t = some .bool) : Opens P t Kd.bool (fun _ => True) := by
  intro H enc w fuel cs x h _
  obtain ⟨b, rfl, rfl⟩ := DataW.trod_bool ht h
  exact ⟨b, rfl, trivial⟩

theorem mem_weightsAll {H : Type} {P : Program} {e : TypeId} {d : DataW H} : ∀ {l : List (DataW H)}, d ∈ l → ∀ n ∈ d.weights P e, n ∈ DataW.weightsAll P e l
  | [], h, _, _ => by cases h
  | x :: r, h, n, hn => by
    simp only [DataW.weightsAll, List.mem_append]
    rcases List.mem_cons.1 h with rfl | h
    · exact .inl hn
    · exact .inr (mem_weightsAll h n hn)

theorem opens_slice {P : Program} {t e : TypeId} {α : Type} {d : Kd α} {S : α → Prop} {B : Nat} (ht : P.underlying t = some (.slice e)) (hc : P.cellsOf e = d.sz) (hB : P.bytesOf e = B) (he : Opens P e d S) :
    Opens P t (Kd.slice e d) (fun xs => xs.length * B ≤ 140737488351232 ∧ ∀ x ∈ xs, S x) := by
  intro H enc w fuel cs x h hw
  rcases DataW.trod_slice ht h with ⟨rfl, rfl⟩ | ⟨a, len, cap, elems, rest, n, _, rfl, rfl, _, hl, hm, hlen, hel, _, _⟩
  · refine ⟨[], ⟨none, 0, rfl, Nat.le_refl _, rfl, by simp, fun h => by simp at h⟩, by simp, by simp⟩
  · have hw1 : (elems.length + rest.length) * B ≤ 140737488351232 := by
      have := hw ((elems.length + rest.length) * B) (by simp [DataW.weights, ht, hB])
      exact this
    have key : ∀ i, i < len → ∃ y : α, (∃ c, c.length = d.sz ∧ d.K w y c ∧ ∀ j u, c[j]? = some u → w.cell? (a.add (i * d.sz + j)) = some u) ∧ S y := by
      intro i hi
      have hi' : i < elems.length := by omega
      have hb := hel i hi
      rw [List.getElem?_eq_getElem hi'] at hb
      obtain ⟨c, hc1, hc2⟩ := Option.bind_eq_some_iff.1 hb
      obtain ⟨y, hy, hS⟩ := he H enc w n c _ hc2 (fun m hm => by
        refine hw m ?_
        simp only [DataW.weights, ht, List.mem_cons, List.mem_append]
        refine .inr (.inl (mem_weightsAll (d := elems[i].1) ?_ m hm))
        exact List.mem_map.2 ⟨elems[i], List.getElem_mem hi', rfl⟩)
      obtain ⟨_, hcl, hcell⟩ := World.cells?_some hc1
      refine ⟨y, ⟨c, by rw [hcl, hc], hy, fun j u hu => ?_⟩, hS⟩
      have hj : j < P.cellsOf e := by
        rw [← hcl]
        exact (List.getElem?_eq_some_iff.1 hu).1
      have := hcell j hj
      rw [hu, Go.Deep.add_add, hc] at this
      exact this
    obtain ⟨f, hf⟩ : ∃ f : Fin len → α, ∀ i : Fin len, (∃ c, c.length = d.sz ∧ d.K w (f i) c ∧ ∀ j u, c[j]? = some u → w.cell? (a.add (i.val * d.sz + j)) = some u) ∧ S (f i) :=
      ⟨fun i => Classical.choose (key i.val i.isLt), fun i => Classical.choose_spec (key i.val i.isLt)⟩
    refine ⟨List.ofFn f, ⟨some a, cap, by rw [List.length_ofFn], by rw [List.length_ofFn]; exact hl, rfl, ?_, fun _ => ⟨a, rfl, ?_⟩⟩, ?_, ?_⟩
    · rw [List.length_ofFn]
      unfold maxLen at hm
      omega
    · intro j p hj
      rw [List.getElem?_ofFn] at hj
      split at hj
      · rename_i hlt
        obtain rfl := Option.some.inj hj
        exact (hf ⟨j, hlt⟩).1
      · cases hj
    · rw [List.length_ofFn]
      exact Nat.le_trans (Nat.mul_le_mul_right _ (by omega)) hw1
    · intro x hx
      obtain ⟨i, rfl⟩ := List.mem_ofFn.1 hx
      exact (hf i).2

/-- The fields of a struct, from cell k on. -/
def OpensF (P : Program) (fs : List Field) (k : Nat) {α : Type} (d : Kd α) (S : α → Prop) : Prop :=
  ∀ (H : Type) (enc : TypeId × Value → H) (w : World) (m : Nat) (cs : List Value) (xs : List (DataW H × List MemPlace)),
    cs.length = k + d.sz → xs.length = fs.length →
    (∀ (i : Nat) (f : Field), fs[i]? = some f → DataW.trod enc P w 0 (fun _ => true) true m f.type ((cs.drop f.offset).take (P.cellsOf f.type)) = xs[i]?) →
    (∀ n ∈ DataW.weightsEach P (fs.map (·.type)) (xs.map (·.1)), n ≤ 140737488351232) → ∃ y : α, d.K w y (cs.drop k) ∧ S y

theorem opensF_last {P : Program} {f : Field} {k : Nat} {α : Type} {d : Kd α} {S : α → Prop} (ho : f.offset = k) (hc : P.cellsOf f.type = d.sz) (h : Opens P f.type d S) : OpensF P [f] k d S := by
  intro H enc w m cs xs hl hx hf hw
  match xs, hx with
  | [x], _ =>
    have h0 := hf 0 f rfl
    rw [ho, hc] at h0
    have ht : (cs.drop k).take d.sz = cs.drop k := List.take_of_length_le (by rw [List.length_drop]; omega)
    rw [ht] at h0
    exact h H enc w m _ x (by simpa using h0) (fun n hn => hw n (by simp [DataW.weightsEach, hn]))

theorem opensF_cons {P : Program} {f : Field} {fs : List Field} {k : Nat} {α β : Type} {a : Kd α} {b : Kd β} {Sa : α → Prop} {Sb : β → Prop} (ho : f.offset = k) (hc : P.cellsOf f.type = a.sz) (h : Opens P f.type a Sa) (hr : OpensF P fs (k + a.sz) b Sb) :
    OpensF P (f :: fs) k (Kd.pair a b) (fun y => Sa y.1 ∧ Sb y.2) := by
  intro H enc w m cs xs hl hx hf hw
  match xs, hx with
  | x :: xr, hx =>
    have hl2 : cs.length = k + (a.sz + b.sz) := hl
    have h0 := hf 0 f rfl
    rw [ho, hc] at h0
    obtain ⟨y, hy, hS⟩ := h H enc w m _ x (by simpa using h0) (fun n hn => hw n (by simp only [List.map_cons, DataW.weightsEach, List.mem_append]; exact .inl hn))
    obtain ⟨z, hz, hT⟩ := hr H enc w m cs xr (by omega) (by simpa using hx) (fun i g hg => by simpa using hf (i + 1) g (by simpa using hg)) (fun n hn => hw n (by simp only [List.map_cons, DataW.weightsEach, List.mem_append]; exact .inr hn))
    refine ⟨(y, z), ⟨(cs.drop k).take a.sz, cs.drop (k + a.sz), ?_, hy, hz⟩, hS, hT⟩
    rw [← List.drop_drop, List.take_append_drop]

theorem opens_struct {P : Program} {t : TypeId} {fs : Array Field} {α β : Type} {d : Kd α} {S : α → Prop} {f : β → α} {g : α → β} (ht : P.underlying t = some (.struct fs)) (hc : P.cellsOf t = d.sz) (hg : ∀ y, f (g y) = y) (h : OpensF P fs.toList 0 d S) :
    Opens P t (Kd.iso d f) (fun b => S (f b)) := by
  intro H enc w fuel cs x hx hw
  obtain ⟨xs, n, _, rfl, hl, hxs, hf⟩ := DataW.trod_struct ht hx
  obtain ⟨y, hy, hS⟩ := h H enc w n cs xs (by rw [hl, hc]; omega) (by simpa using hxs) (fun i f0 hi => hf i f0 (by simpa using hi)) (fun n hn => hw n (by simpa [DataW.weights, ht] using hn))
  exact ⟨g y, show d.K w (f (g y)) cs by rw [hg]; simpa using hy, show S (f (g y)) by rw [hg]; exact hS⟩

/-- The weights of one argument out of all. -/
theorem weights_of {H : Type} {P : Program} {ts : List TypeId} {ds : List (DataW H)} (hsz : (DataW.weightsEach P ts ds).all (· ≤ reachBytes) = true) {j : Nat} {t : TypeId} {d : DataW H} (ht : ts[j]? = some t) (hd : ds[j]? = some d) :
    ∀ n ∈ d.weights P t, n ≤ 140737488351232 := fun n hn => by
  have := List.all_eq_true.1 hsz n (DataW.weights_mem_each ht hd n hn)
  exact of_decide_eq_true this

theorem agg_of {P : Program} {W : World} {base : Nat} {t : TypeId} {v : Value} {fs : Array Field} (ht : P.underlying t = some (.struct fs)) (h : Value.okWide P W .any base t v) : ∃ cs, v = .agg cs := by
  simp only [Value.okWide, ht] at h
  obtain ⟨cs, h, _⟩ := h
  exact ⟨cs, h⟩

/-- A struct argument, opened. -/
theorem open_agg {H : Type} {enc : TypeId × Value → H} {P : Program} {W : World} {base : Nat} {t : TypeId} {v : Value} {fs : Array Field} {x : DataW H} {p : List MemPlace} {α : Type} {d : Kd α} {S : α → Prop}
    (ho : Opens P t d S) (ht : P.underlying t = some (.struct fs)) (hv : Value.okWide P W .any base t v) (h : DataW.Trod enc P W 0 (fun _ => true) true t v x p) (hw : ∀ n ∈ x.weights P t, n ≤ 140737488351232) :
    ∃ cs y, v = .agg cs ∧ d.K W y cs.toList ∧ S y := by
  obtain ⟨cs, rfl⟩ := agg_of ht hv
  obtain ⟨fuel, hf⟩ := h
  obtain ⟨y, hy, hS⟩ := ho H enc W fuel _ _ hf hw
  exact ⟨cs, y, rfl, hy, hS⟩

/-- A slice argument, opened. -/
theorem open_row {H : Type} {enc : TypeId × Value → H} {P : Program} {W : World} {base : Nat} {t e : TypeId} {v : Value} {x : DataW H} {p : List MemPlace} {α : Type} {d : Kd α} {S : List α → Prop}
    (ho : Opens P t (Kd.slice e d) S) (ht : P.underlying t = some (.slice e)) (hv : Value.okWide P W .any base t v) (h : DataW.Trod enc P W 0 (fun _ => true) true t v x p) (hw : ∀ n ∈ x.weights P t, n ≤ 140737488351232) :
    ∃ (A : Option Addr) (c : Nat) (xs : List α), v = .slice A xs.length c ∧ xs.length ≤ c ∧ d.C W A xs.length xs ∧ S xs := by
  obtain ⟨a0, len, cap, rfl⟩ := Go.WideShapes.okWide_slice ht hv
  obtain ⟨fuel, hf⟩ := h
  obtain ⟨xs, ⟨A, c, he, hl, hC⟩, hS⟩ := ho H enc W fuel _ _ hf hw
  have he2 : [Value.slice a0 len cap] = [.slice A xs.length c] := by simpa [Value.cells] using he
  simp only [List.cons.injEq, and_true] at he2
  exact ⟨A, c, xs, he2, hl, hC, hS⟩

/-- A row's wrap, with the world's shape and one condition more. -/
theorem returnsInHanded_shaped_and {H : Type} {enc : TypeId × Value → H} {a : Assume} {C : Checked} {os : Os} {f : FuncId} {fn : Func} {s : ChangeSpec} {conds : List PathCond} {apart fresh handsOn again : Bool} {X : World → Array Value → Prop}
    (hX : ∀ (w w' : World) (args : Array Value), w.heap = w'.heap → X w args → X w' args)
    (own : ownKnob C.prog.godebug = none) (started : os.Started) (noInit : C.prog.inits.idxOf? f = none) (hfn : C.prog.funcs[f]? = some fn)
    (witness : ∃ (w : World) (tape : Tape) (i : Input), w.os = os ∧ (w.forCall tape i).Shaped C.prog ∧ i.vars = [] ∧ Input.okWide C.prog (w.forCall tape i) .any w.heap.size f i ∧
      ((s.pre enc C.prog fn conds apart (w.forCall tape i).memory i.args ∧ X (w.forCall tape i).memory i.args) ∧ sizedMet enc C.prog fn (OpenSpec.ofChange s) apart (w.forCall tape i).memory i.args) ∧ a.holds C.prog (lone (Frame.enter C.prog f i.args .normal) [] (w.forCall tape i)))
    (contract : ∀ (W : World) (base : Nat) (args : Array Value) (ds gs : List (DataW H)) (before : List MemPlace),
      (∀ (j : Nat) t v, fn.params[j]? = some t → args[j]? = some v → Value.okWide C.prog W .any base t v) →
      DataW.Whole enc C.prog fn.params.toList s.vars apart W args.toList ds gs before →
      conds.all (PathCond.test C.prog ⟨fn.params.toList, ds, s.plain.varTypes C.prog, gs⟩) = true →
      (DataW.weightsEach C.prog (fn.params.toList ++ s.plain.varTypes C.prog) (ds ++ gs)).all (· ≤ reachBytes) = true → W.ShapedOpen C.prog → X W args →
      a.holds C.prog (lone (Frame.enter C.prog f args .normal) [] W) →
      Calls C.prog f args W fun e W' => ∃ v, e = .returned v ∧ s.post enc C.prog fn apart fresh handsOn again W args v W') :
    ReturnsInHanded a C os f .any (fun w args => (s.pre enc C.prog fn conds apart w args ∧ X w args) ∧ sizedMet enc C.prog fn (OpenSpec.ofChange s) apart w args) (s.post enc C.prog fn apart fresh handsOn again) := by
  refine returnsInHanded_of_calls own started noInit witness ?_
  intro w tape i _ hsh _ hok hpre hholds
  obtain ⟨_, _, _, fn', hfn', _, _, _, _, hval⟩ := hok
  have e : fn' = fn := Option.some.inj (hfn'.symm.trans hfn)
  subst e
  obtain ⟨⟨⟨ds, gs, before, hw, hc⟩, hx⟩, hz⟩ := hpre
  have hw' := DataW.Whole.of_heap (w' := w.forCall tape i) (by rfl) hw
  refine (contract (w.forCall tape i) w.heap.size i.args ds gs before hval hw' hc (hz.weights hw) hsh (hX _ _ _ (by rfl) hx) hholds).mono fun e W' ⟨v, he, hp⟩ => ?_
  subst he
  exact ChangeSpec.post_blind hp

/-- The places of a reading lie in the world. -/
theorem places_lt {H : Type} {enc : TypeId × Value → H} {P : Program} {W : World} {t : TypeId} {v : Value} {x : DataW H} {p : List MemPlace} (h : DataW.Trod enc P W 0 (fun _ => true) true t v x p) : ∀ y ∈ p, y.block < W.heap.size := by
  obtain ⟨m, hm⟩ := h
  exact DataW.trod_lt m _ _ _ hm

end Go.Proofs.Ytnndpbkcldkbgaa.Ow

