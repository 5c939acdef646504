/- The law FnExactLines of the printed functions: for all texts it is true. -/
import Derived.Test.YtgaibeckblmbbaaDoorPLawsFnExactLines
import Derived.Test.YtgaibeckblmbbaaDoorLines
namespace Go.Proofs.YtgaibeckblmbbaaDoor.Pure
open Go Go.RowKit Go.Proofs.YtgaibeckblmbbaaDoor.P Go.Proofs.YtgaibeckblmbbaaDoorW.PrintWords Go.Proofs.YtgaibeckblmbbaaDoorW.PrintLast
set_option linter.unusedVariables false
set_option linter.unusedSimpArgs false

theorem rdL0 {l : List ByteArray} {i : Nat} (h : i < l.length) : rdOf ByteArray.empty l (i : Int) = l[i] := by
  unfold rdOf
  rw [Int.toNat_natCast, List.getD_eq_getElem?_getD, List.getElem?_eq_getElem h]
  rfl
theorem impl_Lines_eq (s : ByteArray) (hs : s.size ≤ 1048576) : impl_Lines.f s = some (lines s) := by
  unfold impl_Lines.f lines
  by_cases h : (s.size : Int) > 1500
  · rw [if_pos h, if_pos h]
  rw [if_neg h, if_neg h, splitAfter_eq 10 s (by omega), Option.bind_some]
  have hl : (behindB 10 s).length ≤ s.size + 1 := by
    unfold behindB
    rw [List.length_map, ← size_toList]
    exact behind_length 10 _ _
  have hn : (behind 10 s.data.toList []) ≠ [] := behind_ne 10 _ _
  unfold behindB at hl ⊢
  revert hn hl
  generalize behind 10 s.data.toList [] = L
  intro hl hn
  obtain ⟨M, x, rfl⟩ : ∃ M x, L = M ++ [x] := ⟨L.dropLast, L.getLast hn, (List.dropLast_concat_getLast hn).symm⟩
  have hlen : ((M ++ [x]).map ofBytes).length = M.length + 1 := by simp
  rw [hlen] at hl ⊢
  rw [w64 (n := ((M.length + 1 : Nat) : Int) - 1) (by omega) (by omega), show ((M.length + 1 : Nat) : Int) - 1 = ((M.length : Nat) : Int) from by omega, if_pos (by omega), if_pos (by omega), rdL0 (by omega)]
  have hx : ((M ++ [x]).map ofBytes)[M.length]'(by omega) = ofBytes x := by simp
  rw [hx, ByteArray.toList_eq, ofBytes_data]
  unfold cutEnd
  rw [List.getLast?_concat, List.dropLast_concat, Int.toNat_natCast]
  by_cases he : x = []
  · rw [if_pos he, if_pos (by omega), if_pos (by rw [he]), List.map_append, List.take_append_of_le_length (by simp), List.take_of_length_le (by simp)]
  · rw [if_neg he, if_neg (fun e => he (Option.some.inj e))]
theorem lines_length (s : ByteArray) : (lines s).length ≤ 1501 := by
  unfold lines
  split
  · simp
  · rename_i h
    rw [List.length_map]
    have := behind_length 10 s.data.toList []
    rw [size_toList] at this
    unfold cutEnd
    split
    · rw [List.length_dropLast]
      omega
    · omega

/-! ### marks -/
theorem mark_l0 : ∀ (m : Nat) (x : Int) (t : ByteArray), 0 ≤ x → x ≤ m → t.size + m ≤ 1000000 → ∃ r, Ev (fun k => laws_markText.l0 k x t) r
  | 0, x, t, h0, h1, h2 => ⟨_, Ev.step (fun k => laws_markText.l0.eq_2 ..) (Ev.neg (by omega) (Ev.pos (by omega) (Ev.now _)))⟩
  | m + 1, x, t, h0, h1, h2 => by
    by_cases h : x > 0
    · have hd : Int.tdiv x 10 = x / 10 := Int.tdiv_eq_ediv_of_nonneg h0
      obtain ⟨r, hr⟩ := mark_l0 m (Int.tdiv x 10) (strOfNums [(wrap64 (48 + (Int.tmod x 10))) % 256] ++ t) (by omega) (by omega) (by rw [ByteArray.size_append, son_size]; simp; omega)
      refine ⟨r, Ev.step (fun k => laws_markText.l0.eq_2 ..) (Ev.pos h (Ev.sb (Ev.pos (by rw [son_size]; simp; omega) ?_)))⟩
      rw [w64 (n := Int.tdiv x 10) (by omega) (by omega)]
      exact hr
    · exact ⟨_, Ev.step (fun k => laws_markText.l0.eq_2 ..) (Ev.neg h (Ev.pos (by omega) (Ev.now _)))⟩
theorem mark_ev (n : Nat) (h : n ≤ 5000) : ∃ r, Ev (fun k => laws_markText.f k (n : Int)) r := by
  unfold laws_markText.f
  by_cases h0 : (n : Int) ≤ 0
  · exact ⟨_, Ev.pos h0 (Ev.now _)⟩
  · obtain ⟨r, hr⟩ := mark_l0 n n ⟨#[]⟩ (by omega) (by omega) (by have : (⟨#[]⟩ : ByteArray).size = 0 := rfl; omega)
    exact ⟨r, Ev.neg h0 hr⟩
noncomputable def mark (n : Nat) : ByteArray := if h : n ≤ 5000 then (mark_ev n h).choose else ⟨#[]⟩
theorem mark_spec (n : Nat) (h : n ≤ 5000) : Ev (fun k => laws_markText.f k (n : Int)) (mark n) := by
  unfold mark
  rw [dif_pos h]
  exact (mark_ev n h).choose_spec
def Marked (l : List ByteArray) (i : Nat) : Prop := ∀ j, (h : j < l.length) → j < i → l[j] = mark (1 + j)
theorem marks_ev : ∀ (d i : Nat) (l : List ByteArray), i + d = l.length → l.length ≤ 1501 → Marked l i → Evs (fun k => laws_markStringS.l0 k l ((1 + i : Nat) : Int) (i : Int)) (fun r => r.1 = ((1 + l.length : Nat) : Int) ∧ r.2.length = l.length ∧ Marked r.2 l.length)
  | 0, i, l, hd, hl, hm => by
    refine Evs.step (fun k => laws_markStringS.l0.eq_2 ..) (Evs.neg (by omega) (Evs.ret ⟨by simp; omega, rfl, fun j h _ => hm j h (by omega)⟩))
  | d + 1, i, l, hd, hl, hm => by
    refine Evs.step (fun k => laws_markStringS.l0.eq_2 ..) (Evs.pos (by omega) (Evs.bind (Evs.of (mark_spec (1 + i) (by omega)) (Q := fun t => t = mark (1 + i)) rfl) (fun t ht => Evs.pos (by omega) ?_)))
    subst ht
    rw [Int.toNat_natCast, w64 (n := ((1 + i : Nat) : Int) + 1) (by omega) (by omega), w64 (n := (i : Int) + 1) (by omega) (by omega), show ((1 + i : Nat) : Int) + 1 = ((1 + (i + 1) : Nat) : Int) from by omega, show (i : Int) + 1 = ((i + 1 : Nat) : Int) from by omega]
    have := marks_ev d (i + 1) (l.set i (mark (1 + i))) (by rw [List.length_set]; omega) (by rw [List.length_set]; exact hl) (fun j h hj => by
      rw [List.getElem_set]
      split
      · rename_i e
        rw [e]
      · exact hm j (by simpa using h) (by omega))
    rw [List.length_set] at this
    exact this
theorem held_ev (l : List ByteArray) (hl : l.length ≤ 1501) (hm : Marked l l.length) : ∀ (d i : Nat), i + d = l.length → Ev (fun k => laws_heldStringS.l0 k l ((1 + i : Nat) : Int) (i : Int)) ((1 + l.length : Nat) : Int)
  | 0, i, hd => by
    have e : ((1 + l.length : Nat) : Int) = ((1 + i : Nat) : Int) := by omega
    rw [e]
    exact Ev.step (fun k => laws_heldStringS.l0.eq_2 ..) (Ev.neg (by omega) (Ev.now _))
  | d + 1, i, hd => by
    refine Ev.step (fun k => laws_heldStringS.l0.eq_2 ..) (Ev.pos (by omega) (Ev.pos (by omega) (Ev.bind (mark_spec (1 + i) (by omega)) ?_)))
    rw [rdL0 (show i < l.length by omega), hm i (by omega) (by omega), w64 (n := ((1 + i : Nat) : Int) + 1) (by omega) (by omega), w64 (n := (i : Int) + 1) (by omega) (by omega), show ((1 + i : Nat) : Int) + 1 = ((1 + (i + 1) : Nat) : Int) from by omega, show (i : Int) + 1 = ((i + 1 : Nat) : Int) from by omega]
    exact Ev.pos rfl (held_ev l hl hm d (i + 1) (by omega))
theorem eqL_l0 (l : List ByteArray) (hl : l.length ≤ 1501) : ∀ (d i : Nat), i + d = l.length → Ev (fun k => laws_eqStringS.l0 k l l (i : Int)) true
  | 0, i, hd => Ev.step (fun k => laws_eqStringS.l0.eq_2 ..) (Ev.neg (by omega) (Ev.now _))
  | d + 1, i, hd => by
    refine Ev.step (fun k => laws_eqStringS.l0.eq_2 ..) (Ev.pos (by omega) (Ev.pos (by omega) (Ev.pos (by omega) (Ev.pos rfl ?_))))
    rw [w64 (n := (i : Int) + 1) (by omega) (by omega), show (i : Int) + 1 = ((i + 1 : Nat) : Int) from by omega]
    exact eqL_l0 l hl d (i + 1) (by omega)
theorem eqL (l : List ByteArray) (hl : l.length ≤ 1501) : Ev (fun k => laws_eqStringS.f k l l) true := by
  unfold laws_eqStringS.f
  exact Ev.pos rfl (eqL_l0 l hl l.length 0 (by omega))

theorem FnExactLines (s : ByteArray) (_h : s.size ≤ 140737488351232) : ∃ k, laws_FnExactLines.f k s = some true := by
  apply Ev.rounds
  unfold laws_FnExactLines.f
  by_cases h : (s.size : Int) > 1048576
  · exact Ev.pos h (Ev.now _)
  have hl := lines_length s
  have E := eqL (lines s) hl
  obtain ⟨p, ⟨p1, p2, p3⟩, hp⟩ := marks_ev (lines s).length 0 (lines s) (by omega) hl (fun j _ hj => by omega)
  have hm : Ev (fun k => laws_markStringS.f k (lines s) 1) p := by
    unfold laws_markStringS.f
    exact hp
  have hh : Ev (fun k => laws_heldStringS.f k p.2 1) ((1 + (lines s).length : Nat) : Int) := by
    unfold laws_heldStringS.f
    have := held_ev p.2 (by omega) (by rw [p2]; exact p3) p.2.length 0 (by omega)
    rw [p2] at this
    exact this
  rw [impl_Lines_eq s (by omega)]
  have tail : Ev (fun k => (some (lines s)).bind fun t138 => ((laws_eqStringS.f k t138 (lines s)).bind fun t141 => (if t141 = true then ((laws_heldStringS.f k p.2 1).bind fun t142 => (if t142 < 0 then (some false) else (if t142 = p.1 then (some true) else (some false)))) else (some false)))) true :=
    Ev.sb (Ev.bind E (Ev.pos rfl (Ev.bind hh (Ev.neg (by omega) (Ev.pos p1.symm (Ev.now _))))))
  exact Ev.neg h (Ev.bind (spec_Lines_ev s) (Ev.sb (Ev.bind E (Ev.pos rfl (Ev.bind hm (Ev.bind hh (Ev.neg (by omega) (Ev.pos p1.symm tail))))))))

end Go.Proofs.YtgaibeckblmbbaaDoor.Pure
