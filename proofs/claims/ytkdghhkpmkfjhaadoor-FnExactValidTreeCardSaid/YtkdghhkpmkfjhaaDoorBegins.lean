/- A text with a slash behind it as the beginning of another one. No condition. -/
import Derived.Test.YtkdghhkpmkfjhaaDoorBase
import Derived.Lib.Strings
namespace Go.Proofs.YtkdghhkpmkfjhaaDoor.Pure
open Go Go.RowKit Go.Proofs.YtkdghhkpmkfjhaaDoorW.PrintWords Go.Proofs.YtkdghhkpmkfjhaaDoorW.PrintLast
set_option linter.unusedVariables false
set_option linter.unusedSimpArgs false

/-- p lies under d. -/
def begins (d p : ByteArray) : Bool := Lib.hasPrefix p.data.toList (d.data.toList ++ [47])
theorem begins_iff (d p : ByteArray) : begins d p = true ↔ (d.size < p.size ∧ p.extract 0 d.size = d ∧ bt p (d.size : Int) = 47) := by
  unfold begins Lib.hasPrefix
  rw [List.isPrefixOf_iff_prefix, List.prefix_iff_eq_take]
  have hd : d.data.toList.length = d.size := size_toList d
  have hp : p.data.toList.length = p.size := size_toList p
  have hx : (p.extract 0 d.size).data.toList = p.data.toList.take d.size := by
    rw [ByteArray.data_extract, Array.toList_extract, List.extract_eq_take_drop, List.drop_zero, Nat.sub_zero]
  constructor
  · intro h
    have hl := congrArg List.length h
    simp only [List.length_append, List.length_take, List.length_cons, List.length_nil] at hl
    have hlt : d.size < p.size := by omega
    rw [List.length_append, List.length_singleton, List.take_succ_eq_append_getElem (by omega)] at h
    obtain ⟨h1, h2⟩ := List.append_inj' h (by simp)
    refine ⟨hlt, ba_ext (by rw [hx, h1, hd]), ?_⟩
    rw [bt_getD, List.getD_eq_getElem?_getD, List.getElem?_eq_getElem (by omega)]
    have h3 := (List.cons.inj h2).1
    simp only [hd] at h3
    simp [← h3]
  · rintro ⟨h1, h2, h3⟩
    rw [List.length_append, List.length_singleton, List.take_succ_eq_append_getElem (by omega)]
    rw [bt_getD, List.getD_eq_getElem?_getD, List.getElem?_eq_getElem (by omega)] at h3
    have h4 : p.data.toList.take d.size = d.data.toList := by rw [← hx, h2]
    simp only [hd]
    rw [h4]
    congr 1
    congr 1
    apply UInt8.toNat_inj.1
    have : ((p.data.toList[d.size]'(by omega)).toNat : Int) = 47 := by simpa using h3
    have h5 : (p.data.toList[d.size]'(by omega)).toNat = 47 := by omega
    rw [h5]
    rfl

end Go.Proofs.YtkdghhkpmkfjhaaDoor.Pure
