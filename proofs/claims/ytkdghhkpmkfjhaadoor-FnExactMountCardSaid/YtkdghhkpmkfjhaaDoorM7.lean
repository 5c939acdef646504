/- Several texts of this claim in one file: YtkdghhkpmkfjhaaDoorPImplSorted, YtkdghhkpmkfjhaaDoorPImplMount. -/
import Derived.Test.YtkdghhkpmkfjhaaDoorM2
import Derived.Test.YtkdghhkpmkfjhaaDoorM3
import Derived.Test.YtkdghhkpmkfjhaaDoorM6
import Derived.Deep.QuietTactic
import Derived.Shelf.SlSortFuncK.WholeK
import Derived.Shelf.GgSortFunc.Tiny
import Derived.Test.YtkdghhkpmkfjhaaDoorM4
namespace Go.Proofs.YtkdghhkpmkfjhaaDoor.P
open Go.RowKit Go.Proofs.YtkdghhkpmkfjhaaDoorW.PrintWords Go.Proofs.YtkdghhkpmkfjhaaDoorW.PrintLast Go.Proofs.YtkdghhkpmkfjhaaDoorW.PrintMore
attribute [local go_sem] max2_int min2_int max_two min_two max_three min_three max_four min_four
set_option linter.unusedVariables false
set_option linter.unusedSimpArgs false

/-! ### impl_sorted: function 73 -/
/- Walked by hand. -/
open Go.Proofs.YtkdghhkpmkfjhaaDoor.Pure
def impl_sorted.f (l0 : List S45) : Option (List S45) := if l0.length < 4611686018427387904 ∧ Apart l0 then some (sortE l0) else none
instance : Inhabited S45 := ⟨z45⟩
def impl_sorted.enc (x : S45) : List Value := [.string x.f0, .string x.f1, .bool x.f2]
def impl_sorted.lt (x y : S45) : Bool := Op.bytesLess x.f0.toList y.f0.toList
theorem impl_sorted.swo : Go.Sort.SWO impl_sorted.lt where
 irrefl x := less_irrefl _
 trans x y z h1 h2 := less_trans _ _ _ h1 h2
 ntrans x y z h1 h2 := by
  unfold impl_sorted.lt at *
  rw [← Bool.not_eq_true]
  intro h3
  by_cases e1 : x.f0.toList = y.f0.toList
  ·rw [e1] at h3
   exact absurd h3 (by rw [h2]; simp)
  ·have := less_trans _ _ _ (less_or h1 e1) h3
   exact absurd this (by show ¬ Op.bytesLess y.f0.toList z.f0.toList = true; rw [h2]; simp)
section
variable {w : World} {g n : Nat} {os : Array Obj} {cur : Array Value} {e : TypeId} {fr : Nat × Nat}
theorem impl_sorted.heap_put (d : Array Value) (hb : w.heap[g]? = some (.cells cur e fr)) : (Sort.grow (Sort.putRow id (Sort.ahead w n) g 0 d) os).heap[g]? = some (.cells (Sort.putCells id 0 d cur) e fr) := by
 have hg : g < w.heap.size := (Array.getElem?_eq_some_iff.1 hb).1
 rw [Sort.heap_grow_old _ _ (by simpa using hg)]
 simp [Sort.putRow, Sort.mapBlock, Sort.ahead, Array.getElem?_modify, hb, Sort.onCells]
theorem impl_sorted.grown (d : Array Value) : w.grownBy (Sort.grow (Sort.putRow id (Sort.ahead w n) g 0 d) os) (some g) := by
 refine ⟨rfl, rfl, rfl, by simp, fun k hk hne => ?_⟩
 rw [Sort.heap_grow_old _ _ (by simpa using hk)]
 have : g ≠ k := fun e => hne (by rw [e])
 simp [Sort.putRow, Sort.mapBlock, Sort.ahead, Array.getElem?_modify, this]
theorem impl_sorted.take_put (cur : Array Value) (ts : List Value) (h : ts.length ≤ cur.size) : (Sort.putCells id 0 ts.toArray cur).toList.take ts.length = ts := by
 apply List.ext_getElem?
 intro j
 by_cases hj : j < ts.length
 ·rw [List.getElem?_take_of_lt hj, Array.getElem?_toList]
  simp [Sort.putCells, hj, show j < cur.size by omega]
 ·rw [List.getElem?_take_eq_none (by omega), List.getElem?_eq_none (by omega)]
end
theorem impl_sorted.flat_get (l : List S45) (j : Nat) (x : S45) (h : l[j]? = some x) : ((Sort.flatK impl_sorted.enc 3 l.toArray).toList.drop (j * 3)).take 3 = impl_sorted.enc x := by
 have hj := (List.getElem?_eq_some_iff.1 h).1
 have hx : l.toArray[j]! = x := by
  rw [getElem!_pos l.toArray j (by simpa using hj)]
  simpa using (List.getElem?_eq_some_iff.1 h).2
 apply List.ext_getElem?
 intro c
 by_cases hc : c < 3
 ·rw [List.getElem?_take_of_lt hc, List.getElem?_drop, Array.getElem?_toList]
  have hlt : j * 3 + c < l.toArray.size * 3 := by
   simp only [List.size_toArray]
   omega
  have := Sort.get_flatK impl_sorted.enc 3 l.toArray (j * 3 + c) hlt
  rw [getElem!_pos _ _ (by simpa using hlt)] at this
  rw [Array.getElem?_eq_getElem (by simpa using hlt), this, show (j * 3 + c) / 3 = j from by omega, show (j * 3 + c) % 3 = c from by omega, hx]
  rw [getElem!_pos (impl_sorted.enc x) c hc, List.getElem?_eq_getElem (show c < (impl_sorted.enc x).length from hc)]
  rfl
 ·rw [List.getElem?_take_eq_none (by omega), List.getElem?_eq_none (by show 3 ≤ c; omega)]
theorem impl_sorted.flat_of (l : List S45) {cs : List Value} (h : Reps (fun x c => c = impl_sorted.enc x) 3 l cs) : cs = (Sort.flatK impl_sorted.enc 3 l.toArray).toList := by
 apply List.ext_getElem?
 intro t
 by_cases ht : t < l.length * 3
 ·have hj : t / 3 < l.length := by omega
  obtain ⟨x, hx⟩ : ∃ x, l[t / 3]? = some x := ⟨_, List.getElem?_eq_getElem hj⟩
  have h1 := h.2 _ x hx
  have h2 := impl_sorted.flat_get l _ x hx
  have h3 : ((cs.drop (t / 3 * 3)).take 3)[t % 3]? = (((Sort.flatK impl_sorted.enc 3 l.toArray).toList.drop (t / 3 * 3)).take 3)[t % 3]? := by rw [h1, h2]
  rw [List.getElem?_take_of_lt (by omega), List.getElem?_take_of_lt (by omega), List.getElem?_drop, List.getElem?_drop, show t / 3 * 3 + t % 3 = t from by omega] at h3
  exact h3
 ·rw [List.getElem?_eq_none (by rw [h.1]; omega), List.getElem?_eq_none (by simp; omega)]
theorem impl_sorted.reps_flat (w : World) (base : Nat) (ok : Nat → Prop) (l : List S45) : Reps (k45.M w base ok) 3 l (Sort.flatK impl_sorted.enc 3 l.toArray).toList := by
 refine ⟨by simp, fun j x hx => ?_⟩
 rw [impl_sorted.flat_get l j x hx]
 exact k45_mkM w base ok x
/-- What a row of entries of one's own is, cell by cell. -/
theorem impl_sorted.opened {w : World} {base : Nat} {ok : Nat → Prop} {v : Value} {l : List S45} (h : Kd.R k45 45 w base ok v l) : w.ownsRow base 45 3 v l.length (Sort.flatK impl_sorted.enc 3 l.toArray).toList := by
 obtain ⟨_, inner, ho, hr⟩ := h
 have hr' : Reps (fun x c => c = impl_sorted.enc x) 3 l inner := hr.imp_ (fun x c hc => k45_openM hc)
 rw [← impl_sorted.flat_of l hr']
 exact ho
theorem impl_sorted.holds {w : World} {g cap n : Nat} {base : Nat} {l : List S45} (h : w.ownsRow base 45 3 (.slice (some ⟨g, 0, none⟩) n cap) l.length (Sort.flatK impl_sorted.enc 3 l.toArray).toList) : Sort.HoldsK impl_sorted.enc 3 w g 0 l.toArray := by
 rcases h.2 with ⟨h0, _⟩ | ⟨g', cap', cur, hv, hbase, hb, h1, h2, h3, h4⟩
 ·cases h0
 injection hv with hv _ _
 injection hv with hv
 injection hv with hv
 subst hv
 intro j hj
 have hj' : j < l.length * 3 := by simpa using hj
 refine ⟨?_, by simp [World.frozen?, hb]⟩
 have h5 : (cur.toList.take (l.length * 3))[j]? = (Sort.flatK impl_sorted.enc 3 l.toArray).toList[j]? := by rw [h4]
 rw [List.getElem?_take_of_lt hj', Array.getElem?_toList, Array.getElem?_toList, Array.getElem?_eq_getElem hj] at h5
 rw [Nat.zero_add, blk_cell hb j, h5]
 show some _ = some ((Sort.flatK impl_sorted.enc 3 l.toArray)[j]!)
 rw [getElem!_pos (Sort.flatK impl_sorted.enc 3 l.toArray) j hj]
noncomputable def impl_sorted.svT : TypeInfo := (Tryd.prog.info? 27).get (by kernel_rfl)
noncomputable def impl_sorted.svE : TypeInfo := (Tryd.prog.info? 45).get (by kernel_rfl)
theorem impl_sorted.svK (n : Nat) (h2 : 2 ≤ n) : Go.Lib.swapperK n impl_sorted.svE 25 = 9 := by
 have a : impl_sorted.svE.hasPointers = true := by kernel_rfl
 have b : impl_sorted.svE.bytes = 40 := by kernel_rfl
 have c : (n == 0) = false := by simp; omega
 have d : (n == 1) = false := by simp; omega
 simp [Go.Lib.swapperK, a, b, c, d]
set_option maxHeartbeats 2000000 in
theorem impl_sorted.less_calls (blk off c Bs size : Nat) (W : World) (G : Nat → ByteArray) (hs : W.cell? ⟨Bs, 0, none⟩ = some (.slice (some ⟨blk, off, none⟩) size c))
  (hc : ∀ t, t < size → W.cell? ⟨blk, off + t * 3, none⟩ = some (.string (G t))) (i j : Nat) (hi : i < size) (hj : j < size) (_hsz : size < 4611686018427387904) :
  Calls Tryd.prog 91 #[.int .i64 i, .int .i64 j, .pointer (some ⟨Bs, 0, none⟩)] W fun e w' => e = .returned (.bool (Op.bytesLess (G i).toList (G j).toList)) ∧ ∃ q, w' = W.drewN q := by
 have ci := hc i hi
 have cj := hc j hj
 have hu45 := Tryd.underlying45
 have hu27 := Tryd.underlying27
 clear hc
 go_enter Tryd.func91, Tryd.ntmps91
 go_wp2
 go_quiet (fail)
 go_wp2
 go_ret
 exact ⟨rfl, nq, rfl⟩
theorem impl_sorted.sort_calls (blk c Bs : Nat) (d : Array S45) (h2 : 2 ≤ d.size) (hsz : d.size < 4611686018427387904) (w : World) (hH : Sort.HoldsK impl_sorted.enc 3 w blk 0 d) (hblk : blk < w.heap.size)
  (hBs : w.cell? ⟨Bs, 0, none⟩ = some (.slice (some ⟨blk, 0, none⟩) d.size c)) (hB1 : Bs < w.heap.size) (hB2 : Bs ≠ blk) :
  Calls Tryd.prog 90 #[.iface 27 (.slice (some ⟨blk, 0, none⟩) d.size c), .func (.func 91) #[] #[.pointer (some ⟨Bs, 0, none⟩)]] w fun e w' =>
   e = .returned (.tuple #[]) ∧ ∃ d' n os, Sort.PermIn 0 d.size d d' ∧ Sort.SortedIn impl_sorted.lt 0 d.size d' ∧ w' = Sort.grow (Sort.putRowK impl_sorted.enc 3 (Sort.ahead w n) blk 0 d') os := by
 have hless : LessReadsK Tryd.prog 91 #[.pointer (some ⟨Bs, 0, none⟩)] impl_sorted.enc 3 impl_sorted.lt blk 0 d.size w := by
  intro m os dk hs i j hi hj
  have e : sortWorldK impl_sorted.enc 3 w blk 0 m dk os = Sort.putRowK impl_sorted.enc 3 (Sort.grow (Sort.ahead w m) os) blk 0 dk := by
   unfold sortWorldK; rw [Sort.putRowK_grow _ _ (Sort.ahead w m) _ blk 0 _ hblk]
  have hHg : Sort.HoldsK impl_sorted.enc 3 (Sort.grow (Sort.ahead w m) os) blk 0 d := Sort.holdsK_grow _ _ _ _ blk 0 d hblk (Sort.holdsK_ahead _ _ _ _ _ _ _ hH)
  refine impl_sorted.less_calls blk 0 c Bs d.size _ (fun t => dk[t]!.f0) ?_ (fun t ht => ?_) i j hi hj (by omega)
  ·rw [e, Sort.cell?_putRowK_other _ _ _ blk 0 dk _ (by exact hB2), Sort.cell?_grow _ _ _ (by exact hB1)]; exact hBs
  ·rw [e]; exact ((Sort.holdsK_putRowK _ _ _ blk 0 d dk hHg hs).cell (i := t) (c := 0) (by omega) (by omega)).1
 exact Any.sort_Slice_cells_sorted Tryd.laysGg6 27 45 impl_sorted.svT impl_sorted.svE (by kernel_rfl) (by kernel_rfl) (by kernel_rfl) (by kernel_rfl) 25 (fun _ => by kernel_rfl) impl_sorted.enc 3 (fun _ => rfl) (by kernel_rfl) (fun _ => by kernel_rfl)
  (fun x v hv => by simp [impl_sorted.enc] at hv; rcases hv with rfl | rfl | rfl <;> rfl) impl_sorted.lt impl_sorted.swo 91 _
  (enters_of Tryd.func91 (by kernel_rfl) rfl) blk 0 c d h2 hsz 121 (by rw [impl_sorted.svK _ h2]; kernel_rfl) false
  (fun args W => run_callFunc_extern Tryd.func121 (by kernel_rfl) (by kernel_rfl) (by kernel_rfl) (e := Extern.ReflectliteSwapper.swap false) (by kernel_rfl) args W) w hless hH hblk
theorem impl_sorted.tiny_calls (p : Option Addr) (n c Bs : Nat) (h1 : n ≤ 1) (w : World) :
  Calls Tryd.prog 90 #[.iface 27 (.slice p n c), .func (.func 91) #[] #[.pointer (some ⟨Bs, 0, none⟩)]] w fun e w' => e = .returned (.tuple #[]) ∧ ∃ os, w' = Sort.grow w os := by
 have : n = 0 ∨ n = 1 := by omega
 rcases this with rfl | rfl
 ·exact Any.sort_Slice_tiny Tryd.laysGg6 27 45 impl_sorted.svT impl_sorted.svE (by kernel_rfl) (by kernel_rfl) (by kernel_rfl) (by kernel_rfl) 25 (fun _ => by kernel_rfl) p 0 c (by omega) 113 (by kernel_rfl) _ _ _ w
 ·exact Any.sort_Slice_tiny Tryd.laysGg6 27 45 impl_sorted.svT impl_sorted.svE (by kernel_rfl) (by kernel_rfl) (by kernel_rfl) (by kernel_rfl) 25 (fun _ => by kernel_rfl) p 1 c (by omega) 114 (by kernel_rfl) _ _ _ w
theorem impl_sorted.grown_cell (W : World) (b : Nat) (v : Value) : W.grownBy (W.setCell ⟨b, 0, none⟩ v) (some b) :=
 ⟨rfl, rfl, rfl, by simp, fun i _ hne => Below.heap_setCell W ⟨b, 0, none⟩ v i (fun e => hne (by rw [e]))⟩
theorem impl_sorted.sort_one : ∀ l : List S45, l.length ≤ 1 → sortE l = l
 | [], _ => rfl
 | [_], _ => rfl
 | _ :: _ :: _, h => by simp at h
theorem impl_sorted.grow_below (w : World) (os : Array Obj) : Below w.heap.size w (Sort.grow w os) := ⟨rfl, rfl, rfl, by simp [Sort.grow], fun k hk => Sort.heap_grow_old w os hk⟩
theorem impl_sorted.sorted_of {l : List S45} {d' : Array S45} (ha : Apart l) (hp : Sort.PermIn 0 l.toArray.size l.toArray d') (hs : Sort.SortedIn impl_sorted.lt 0 l.toArray.size d') : d' = (sortE l).toArray := by
 obtain ⟨h1, _, h2⟩ := hp
 rw [← h1, Array.extract_size, h1, Array.extract_size] at h2
 have hd : d'.toList = sortE l := by
  refine sortE_of ha (by simpa using h2) ?_
  rw [List.pairwise_iff_getElem]
  intro i j hi hj hij
  have hi' : i < d'.size := by simpa using hi
  have hj' : j < d'.size := by simpa using hj
  have := hs i j (Nat.zero_le _) hij (by rw [← h1]; exact hj')
  rw [getElem!_pos d' i hi', getElem!_pos d' j hj'] at this
  exact this
 rw [← hd]
/-- What the sort leaves of the row. -/
theorem impl_sorted.row_of {w w2 : World} {base g cap n : Nat} {os : Array Obj} {ok : Nat → Prop} {l d : List S45} (h : Kd.R k45 45 w2 base ok (.slice (some ⟨g, 0, none⟩) l.length cap) l) (hl : d.length = l.length) :
  Kd.R k45 45 (Sort.grow (Sort.putRowK impl_sorted.enc 3 (Sort.ahead w2 n) g 0 d.toArray) os) base ok (.slice (some ⟨g, 0, none⟩) l.length cap) d ∧ w2.grownBy (Sort.grow (Sort.putRowK impl_sorted.enc 3 (Sort.ahead w2 n) g 0 d.toArray) os) (some g) := by
 have ho := impl_sorted.opened h
 refine ⟨⟨h.1, (Sort.flatK impl_sorted.enc 3 d.toArray).toList, ?_, impl_sorted.reps_flat _ _ _ d⟩, impl_sorted.grown _⟩
 rcases ho.2 with ⟨h0, _⟩ | ⟨g', cap', cur, hv, hbase, hb, h1, h2, h3, h4⟩
 ·cases h0
 injection hv with hv _ hcap
 injection hv with hv
 injection hv with hv
 subst hv
 subst hcap
 refine ⟨by rw [show (k45).sz = 3 from rfl]; simp [hl], .inr ⟨g, cap, _, by rw [hl], hbase, impl_sorted.heap_put _ hb, by rw [hl]; exact h1, h2, by rw [show (k45).sz = 3 from rfl]; simp [Sort.putCells, h3], ?_⟩⟩
 have hlen : (Sort.flatK impl_sorted.enc 3 d.toArray).toList.length = d.length * 3 := by simp
 have := impl_sorted.take_put cur (Sort.flatK impl_sorted.enc 3 d.toArray).toList (by rw [hlen, hl, h3]; exact Nat.mul_le_mul_right 3 h1)
 rw [hlen] at this
 exact this
set_option maxHeartbeats 2000000 in
set_option maxRecDepth 100000 in
theorem impl_sorted.calls (P0_ : Nat → Prop) (u9000_ : Value) (l0 : List S45) (r : List S45) (w0 w : World) (hB : Below w0.heap.size w0 w) (ho0 : Kd.R k45 45 w w0.heap.size P0_ u9000_ l0) (h : impl_sorted.f l0 = some r) :
  Calls Tryd.prog 73 #[u9000_] w fun e w' => ∃ v0_ : Value, e = .returned (.agg #[v0_]) ∧ Kd.R k45 45 w' w0.heap.size (fun k_ => (P0_ k_ ∨ w.heap.size ≤ k_)) v0_ r ∧ Below w0.heap.size w0 w' ∧ Kept w w' (fun k_ => P0_ k_) := by
 have hu27 := Tryd.underlying27
 have hu29 := Tryd.underlying29
 unfold impl_sorted.f at h
 split at h
 ·rename_i hc
  obtain rfl := Option.some.inj h
  have HC := Aside0.mk hc
  clear h hc
  obtain ⟨A, c, rfl⟩ := Kd.R_slice ho0
  have HO := Aside0.mk ho0
  have HB := Aside0.mk (Below.refl w.heap.size w)
  have HB0 := Aside0.mk hB
  clear ho0 hB
  by_cases h2 : l0.length ≤ 1
  ·have ht := fun Bs W => impl_sorted.tiny_calls A l0.length c Bs h2 W
   have HT := Aside0.mk ht
   have hs1 := impl_sorted.sort_one l0 h2
   rw [hs1]
   clear h2 ht hs1
   go_enter Tryd.func73, Tryd.ntmps73
   go_wp2_with (first | ((with_reducible refine gd 1 rfl ?_); refine bx 1 27 (#[.slice A l0.length c]) ?_; intro b1 hg w1 hbox hb; refine Ya3 hbox (below_step (be HB.out) hb) (bs hg (be HB.out)) ?_; clear HB; intro B1 HB G1; clear hb hbox hg; have ⟨hcz1, hfz1⟩ := Yc1 B1.out) | ((with_reducible refine gd 2 rfl ?_); refine bx 2 29 (#[.slice none 0 0]) ?_; intro b2 hg w2 hbox hb; refine Ya4 hbox (below_step (be HB.out) hb) (bs hg (be HB.out)) (bb B1 hb) ?_; clear HB B1; intro B2 HB G2 B1; clear hb hbox hg hcz1 hfz1; have ⟨hcz1, hfz1⟩ := Yc1 B1.out; have ⟨hcz2, hfz2⟩ := Yc1 B2.out) | (go_at_call 90; (with_reducible refine (HT.out _ _).mono ?_); rintro e w' ⟨rfl, os, rfl⟩; have hb3 := impl_sorted.grow_below w2 os; refine Ya3 (bb B2 hb3) (below_step (be HB.out) hb3) (bb B1 hb3) ?_; clear HB B1 B2 hcz1 hfz1 hcz2 hfz2 hb3; intro B2 HB B1; generalize Sort.grow w2 os = w3 at B1 B2 HB ⊢; have ⟨hcz1, hfz1⟩ := Yc1 B1.out; have ⟨hcz2, hfz2⟩ := Yc1 B2.out))
   refine bodyPost_ret (results_cell_row rfl _ _ b2 29 #[.slice A l0.length c] (0, 0) _ rfl (by refine blk_put (cs := #[.slice none 0 0]) ?_ 0 _ rfl; exact B2.out) Tryd.underlying29 rfl (by kernel_rfl)) rfl ?_
   have hb : Below w.heap.size w (w3.setCell ⟨b2, 0, none⟩ (.slice A l0.length c)) := be1 HB.out G2.out
   exact ⟨_, rfl, Kd.R_mono (Kd.R_below HO.out hb) (fun k_ hk => .inl hk), below_then HB0.out HB0.out.size hb, hb.size, fun i hi _ => hb.block i hi⟩
  ·obtain ⟨g, cap, hv, hbase, hlt, cells, hcell⟩ := Kd.R_form HO.out (by omega)
   injection hv with hA _ hcap
   subst hA
   subst hcap
   have HG := Aside0.mk (show w0.heap.size ≤ g ∧ g < w.heap.size ∧ w.heap[g]? = some (.cells cells 45 (0, 0)) from ⟨hbase, hlt, hcell⟩)
   have H2 := Aside0.mk (show 2 ≤ l0.toArray.size from by simp; omega)
   clear h2 hbase hlt hcell
   go_enter Tryd.func73, Tryd.ntmps73
   go_wp2_with (first | ((with_reducible refine gd 1 rfl ?_); refine bx 1 27 (#[.slice (some ⟨g, 0, none⟩) l0.length c]) ?_; intro b1 hg w1 hbox hb; refine Ya3 hbox (below_step (be HB.out) hb) (bs hg (be HB.out)) ?_; clear HB; intro B1 HB G1; clear hb hbox hg; have ⟨hcz1, hfz1⟩ := Yc1 B1.out) | ((with_reducible refine gd 2 rfl ?_); refine bx 2 29 (#[.slice none 0 0]) ?_; intro b2 hg w2 hbox hb; refine Ya4 hbox (below_step (be HB.out) hb) (bs hg (be HB.out)) (bb B1 hb) ?_; clear HB B1; intro B2 HB G2 B1; clear hb hbox hg hcz1 hfz1; have ⟨hcz1, hfz1⟩ := Yc1 B1.out; have ⟨hcz2, hfz2⟩ := Yc1 B2.out) | (go_at_call 90; have HS := impl_sorted.sort_calls g c b1 l0.toArray H2.out (by simpa using HC.out.1) w2 (impl_sorted.holds (impl_sorted.opened (Kd.R_below HO.out HB.out))) (Nat.lt_of_lt_of_le HG.out.2.1 HB.out.size) (by simpa using hcz1) (blk_lt B1.out) (by have := HG.out.2.1; have := G1.out; omega); rw [List.size_toArray] at HS; (with_reducible refine HS.mono ?_); rintro e w' ⟨rfl, d', nd, os, hp, hs, rfl⟩; obtain rfl := impl_sorted.sorted_of HC.out.2 (by simpa using hp) (by simpa using hs); clear HS hp hs; have hl2 : (sortE l0).length = l0.length := (sortE_perm l0).length_eq; have ⟨hrow, hgrow⟩ := impl_sorted.row_of (w := w2) (Kd.R_below HO.out HB.out) (n := nd) (os := os) (d := sortE l0) hl2; generalize Sort.grow (Sort.putRowK impl_sorted.enc 3 (Sort.ahead w2 nd) g 0 (sortE l0).toArray) os = w3 at hrow hgrow ⊢; have hn1 : some b1 ≠ some g := (by have := HG.out.2.1; have := G1.out; intro e; injection e; omega); have hn2 : some b2 ≠ some g := (by have := HG.out.2.1; have := G2.out; intro e; injection e; omega); have hcz1' := Yc1 (blk_grown B1.out hgrow hn1); have B2' := Aside0.mk (blk_grown B2.out hgrow hn2); have HN2 := Aside0.mk hn2; have HR := Aside0.mk hrow; have HW := Aside0.mk hgrow; clear hcz1 hfz1 hcz2 hfz2 hrow hgrow hn1 hn2; have ⟨hcz1, hfz1⟩ := hcz1'; clear hcz1'; have ⟨hcz2, hfz2⟩ := Yc1 B2'.out))
   refine bodyPost_ret (results_cell_row rfl _ _ b2 29 #[.slice (some ⟨g, 0, none⟩) l0.length c] (0, 0) _ rfl (by refine blk_put (cs := #[.slice none 0 0]) ?_ 0 _ rfl; exact B2'.out) Tryd.underlying29 rfl (by kernel_rfl)) rfl ?_
   have hset := impl_sorted.grown_cell w3 b2 (.slice (some ⟨g, 0, none⟩) l0.length c)
   have h2w : w.heap.size ≤ b2 := G2.out
   have h3w : w2.heap.size ≤ w3.heap.size := HW.out.size
   have hbw := below_then HB0.out HB0.out.size HB.out
   have hszB : w0.heap.size ≤ w2.heap.size := hbw.size
   have hgB := HG.out.1
   have h0w := HB0.out.size
   refine ⟨_, rfl, Kd.R_mono (Kd.R_grown1 HR.out rfl hset (fun e => HN2.out e)) (fun k_ hk => .inl hk), pw_below_grown (pw_below_grown hbw (some g) hszB HW.out (fun k hk => ?_)) (some b2) (by omega) hset (fun k hk => ?_), ?_, fun i hi hP => ?_⟩
   ·injection hk with hk; omega
   ·injection hk with hk; omega
   ·have := HB.out.size; have := hset.size; omega
   ·have hig : i ≠ g := (by rintro rfl; exact hP (HO.out.1 _ rfl))
    have hw := HB.out.size
    rw [hset.block i (by omega) (by intro e; injection e; omega), HW.out.block i (by omega) (by intro e; injection e; omega), HB.out.block i hi]
 ·cases h


end Go.Proofs.YtkdghhkpmkfjhaaDoor.P


namespace Go.Proofs.YtkdghhkpmkfjhaaDoor.P
open Go.RowKit Go.Proofs.YtkdghhkpmkfjhaaDoorW.PrintWords Go.Proofs.YtkdghhkpmkfjhaaDoorW.PrintLast Go.Proofs.YtkdghhkpmkfjhaaDoorW.PrintMore
attribute [local go_sem] max2_int min2_int max_two min_two max_three min_three max_four min_four
set_option linter.unusedVariables false
set_option linter.unusedSimpArgs false

/-! ### impl_Mount: function 46 -/
mutual
def impl_Mount.j0 : Nat → ByteArray → Bool → List (S45) → List (S45) → Option ((List (S45)) × Int)
 | 0, _, _, _, _ => none
 | k + 1, x1, x25, x728000, x729000 => if x25 = true then (some (([] : List (S45)), 1)) else (impl_Mount.l0 k x1 ([] : List (S45)) x729000 (x729000.length : Int) 0 x728000)
def impl_Mount.l0 : Nat → ByteArray → List (S45) → List (S45) → Int → Int → List (S45) → Option ((List (S45)) × Int)
 | 0, _, _, _, _, _, _ => none
 | k + 1, x1, x8, x28, x29, x30, x728000 => if x30 < x29 then (if 0 ≤ x30 then (if x30 < (x28.length : Int) then (if x1.size + 1 ≤ 9223372036854775807 then (if (x1 ++ (⟨#[47]⟩ : ByteArray)).size + ((rd_T45 x28 x30).f0).size ≤ 9223372036854775807 then ((impl_ValidPath.f k ((x1 ++ (⟨#[47]⟩ : ByteArray)) ++ ((rd_T45 x28 x30).f0))).bind fun t735 => (if t735 = true then (if x8.length < 3518437208883 then (impl_Mount.l0 k x1 (x8 ++ [(⟨(x1 ++ (⟨#[47]⟩ : ByteArray)) ++ ((rd_T45 x28 x30).f0), (rd_T45 x28 x30).f1, (rd_T45 x28 x30).f2⟩ : S45)]) x28 x29 (wrap64 (x30 + 1)) x728000) else (none)) else (some (([] : List (S45)), 2)))) else (none)) else (none)) else (none)) else (none)) else (impl_Mount.l1 k x1 x8 x728000 (x728000.length : Int) 0)
def impl_Mount.l1 : Nat → ByteArray → List (S45) → List (S45) → Int → Int → Option ((List (S45)) × Int)
 | 0, _, _, _, _, _ => none
 | k + 1, x1, x8, x51, x52, x53 => if x53 < x52 then (if 0 ≤ x53 then (if x53 < (x51.length : Int) then (if ((rd_T45 x51 x53).f0).toList = x1.toList then (impl_Mount.j3 k x1 x8 x51 x52 x53 true ((rd_T45 x51 x53).f0) ((rd_T45 x51 x53).f1) ((rd_T45 x51 x53).f2)) else ((impl_over.f ((rd_T45 x51 x53).f0) x1).bind fun t744 => (impl_Mount.j3 k x1 x8 x51 x52 x53 t744 ((rd_T45 x51 x53).f0) ((rd_T45 x51 x53).f1) ((rd_T45 x51 x53).f2)))) else (none)) else (none)) else (if (x8.length : Int) > 100 then (some (([] : List (S45)), 4)) else ((impl_sorted.f x8).bind fun t739 => (some (t739, 0))))
def impl_Mount.j3 : Nat → ByteArray → List (S45) → List (S45) → Int → Int → Bool → ByteArray → ByteArray → Bool → Option ((List (S45)) × Int)
 | 0, _, _, _, _, _, _, _, _, _ => none
 | k + 1, x1, x8, x51, x52, x53, x66, x744000, x744001, x744002 => if x66 = true then (some (([] : List (S45)), 3)) else ((impl_over.f x1 x744000).bind fun t745 => (if t745 = true then (impl_Mount.l1 k x1 x8 x51 x52 (wrap64 (x53 + 1))) else (if x8.length < 3518437208883 then (impl_Mount.l1 k x1 (x8 ++ [(⟨x744000, x744001, x744002⟩ : S45)]) x51 x52 (wrap64 (x53 + 1))) else (none))))
end
def impl_Mount.f (k : Nat) (qa : List (S45)) (a1 : ByteArray) (qb : List (S45)) : Option ((List (S45)) × Int) := (impl_ValidTree.f k qa).bind fun t730 => (if t730 = true then ((impl_ValidTree.f k qb).bind fun t731 => (if t731 = true then ((impl_ValidPath.f k a1).bind fun t732 => (impl_Mount.j0 k a1 (!t732) qa qb)) else (impl_Mount.j0 k a1 true qa qb))) else (impl_Mount.j0 k a1 true qa qb))
theorem impl_Mount.mono_l : ∀ k, (∀ y0 y1 y2 y3, LeO (impl_Mount.j0 k y0 y1 y2 y3) (impl_Mount.j0 (k + 1) y0 y1 y2 y3)) ∧ (∀ y0 y1 y2 y3 y4 y5, LeO (impl_Mount.l0 k y0 y1 y2 y3 y4 y5) (impl_Mount.l0 (k + 1) y0 y1 y2 y3 y4 y5)) ∧ (∀ y0 y1 y2 y3 y4, LeO (impl_Mount.l1 k y0 y1 y2 y3 y4) (impl_Mount.l1 (k + 1) y0 y1 y2 y3 y4)) ∧ (∀ y0 y1 y2 y3 y4 y5 y6 y7 y8, LeO (impl_Mount.j3 k y0 y1 y2 y3 y4 y5 y6 y7 y8) (impl_Mount.j3 (k + 1) y0 y1 y2 y3 y4 y5 y6 y7 y8))
 | 0 => ⟨fun _ _ _ _ r h => by simp [impl_Mount.j0] at h, fun _ _ _ _ _ _ r h => by simp [impl_Mount.l0] at h, fun _ _ _ _ _ r h => by simp [impl_Mount.l1] at h, fun _ _ _ _ _ _ _ _ _ r h => by simp [impl_Mount.j3] at h⟩
 | k + 1 => by
  obtain ⟨ih0, ih1, ih2, ih3⟩ := impl_Mount.mono_l k; refine ⟨?_, ?_, ?_, ?_⟩
  ·intro y0 y1 y2 y3
   unfold impl_Mount.j0
   repeat' first
   | (with_reducible exact ih0 _ _ _ _)
   | (with_reducible exact ih1 _ _ _ _ _ _)
   | (with_reducible exact ih2 _ _ _ _ _)
   | (with_reducible exact ih3 _ _ _ _ _ _ _ _ _)
   | (with_reducible exact impl_ValidPath.mono _ _)
   | (with_reducible exact impl_ValidTree.mono _ _)
   | (with_reducible exact LeO.refl _)
   | (with_reducible exact LeO.none _)
   | (with_reducible refine LeO.ite ?_ ?_)
   | (with_reducible refine LeO.bind ?_ (fun _ => ?_))
   | exact ih0 _ _ _ _
   | exact ih1 _ _ _ _ _ _
   | exact ih2 _ _ _ _ _
   | exact ih3 _ _ _ _ _ _ _ _ _
   | exact impl_ValidPath.mono _ _
   | exact impl_ValidTree.mono _ _
   | exact LeO.none _
   | refine LeO.ite ?_ ?_
   | refine LeO.bind ?_ (fun _ => ?_)
  ·intro y0 y1 y2 y3 y4 y5
   unfold impl_Mount.l0
   repeat' first
   | (with_reducible exact ih0 _ _ _ _)
   | (with_reducible exact ih1 _ _ _ _ _ _)
   | (with_reducible exact ih2 _ _ _ _ _)
   | (with_reducible exact ih3 _ _ _ _ _ _ _ _ _)
   | (with_reducible exact impl_ValidPath.mono _ _)
   | (with_reducible exact impl_ValidTree.mono _ _)
   | (with_reducible exact LeO.refl _)
   | (with_reducible exact LeO.none _)
   | (with_reducible refine LeO.ite ?_ ?_)
   | (with_reducible refine LeO.bind ?_ (fun _ => ?_))
   | exact ih0 _ _ _ _
   | exact ih1 _ _ _ _ _ _
   | exact ih2 _ _ _ _ _
   | exact ih3 _ _ _ _ _ _ _ _ _
   | exact impl_ValidPath.mono _ _
   | exact impl_ValidTree.mono _ _
   | exact LeO.none _
   | refine LeO.ite ?_ ?_
   | refine LeO.bind ?_ (fun _ => ?_)
  ·intro y0 y1 y2 y3 y4
   unfold impl_Mount.l1
   repeat' first
   | (with_reducible exact ih0 _ _ _ _)
   | (with_reducible exact ih1 _ _ _ _ _ _)
   | (with_reducible exact ih2 _ _ _ _ _)
   | (with_reducible exact ih3 _ _ _ _ _ _ _ _ _)
   | (with_reducible exact impl_ValidPath.mono _ _)
   | (with_reducible exact impl_ValidTree.mono _ _)
   | (with_reducible exact LeO.refl _)
   | (with_reducible exact LeO.none _)
   | (with_reducible refine LeO.ite ?_ ?_)
   | (with_reducible refine LeO.bind ?_ (fun _ => ?_))
   | exact ih0 _ _ _ _
   | exact ih1 _ _ _ _ _ _
   | exact ih2 _ _ _ _ _
   | exact ih3 _ _ _ _ _ _ _ _ _
   | exact impl_ValidPath.mono _ _
   | exact impl_ValidTree.mono _ _
   | exact LeO.none _
   | refine LeO.ite ?_ ?_
   | refine LeO.bind ?_ (fun _ => ?_)
  ·intro y0 y1 y2 y3 y4 y5 y6 y7 y8
   unfold impl_Mount.j3
   repeat' first
   | (with_reducible exact ih0 _ _ _ _)
   | (with_reducible exact ih1 _ _ _ _ _ _)
   | (with_reducible exact ih2 _ _ _ _ _)
   | (with_reducible exact ih3 _ _ _ _ _ _ _ _ _)
   | (with_reducible exact impl_ValidPath.mono _ _)
   | (with_reducible exact impl_ValidTree.mono _ _)
   | (with_reducible exact LeO.refl _)
   | (with_reducible exact LeO.none _)
   | (with_reducible refine LeO.ite ?_ ?_)
   | (with_reducible refine LeO.bind ?_ (fun _ => ?_))
   | exact ih0 _ _ _ _
   | exact ih1 _ _ _ _ _ _
   | exact ih2 _ _ _ _ _
   | exact ih3 _ _ _ _ _ _ _ _ _
   | exact impl_ValidPath.mono _ _
   | exact impl_ValidTree.mono _ _
   | exact LeO.none _
   | refine LeO.ite ?_ ?_
   | refine LeO.bind ?_ (fun _ => ?_)
theorem impl_Mount.mono : ∀ a0 a1 a2 k, LeO (impl_Mount.f k a0 a1 a2) (impl_Mount.f (k + 1) a0 a1 a2) := by
 intro a0 a1 a2 k; obtain ⟨ih0, ih1, ih2, ih3⟩ := impl_Mount.mono_l k
 unfold impl_Mount.f
 repeat' first
   | (with_reducible exact ih0 _ _ _ _)
   | (with_reducible exact ih1 _ _ _ _ _ _)
   | (with_reducible exact ih2 _ _ _ _ _)
   | (with_reducible exact ih3 _ _ _ _ _ _ _ _ _)
   | (with_reducible exact impl_ValidPath.mono _ _)
   | (with_reducible exact impl_ValidTree.mono _ _)
   | (with_reducible exact LeO.refl _)
   | (with_reducible exact LeO.none _)
   | (with_reducible refine LeO.ite ?_ ?_)
   | (with_reducible refine LeO.bind ?_ (fun _ => ?_))
   | exact ih0 _ _ _ _
   | exact ih1 _ _ _ _ _ _
   | exact ih2 _ _ _ _ _
   | exact ih3 _ _ _ _ _ _ _ _ _
   | exact impl_ValidPath.mono _ _
   | exact impl_ValidTree.mono _ _
   | exact LeO.none _
   | refine LeO.ite ?_ ?_
   | refine LeO.bind ?_ (fun _ => ?_)
set_option maxHeartbeats 8000000 in
set_option maxRecDepth 100000 in
theorem impl_Mount.calls (k : Nat) (A0_0 : Option Addr) (c0_0 : Nat) (qa : List (S45)) (a1 : ByteArray) (A2_0 : Option Addr) (c2_0 : Nat) (qb : List (S45)) (r1 : List (S45)) (r2 : Int) (w : World) (hg : GOK w) (hr0_0 : Kd.C k45 w A0_0 qa.length qa) (hc0_0 : qa.length ≤ c0_0) (hr2_0 : Kd.C k45 w A2_0 qb.length qb) (hc2_0 : qb.length ≤ c2_0) (h : impl_Mount.f k qa a1 qb = some (r1, r2)) :
  Calls Tryd.prog 46 #[.agg #[.slice A0_0 qa.length c0_0], .string a1, .agg #[.slice A2_0 qb.length c2_0]] w fun e w' => ∃ v0_ : Value, e = .returned (.tuple #[.agg #[v0_], .int .i64 r2]) ∧ Kd.R k45 45 w' w.heap.size (fun _ => True) v0_ r1 ∧ Below w.heap.size w w' := by
 have HG := Aside0.mk hg; clear hg; have hu29 := Tryd.underlying29; have hu45 := Tryd.underlying45; have HR0_0 := Aside0.mk hr0_0; have HC0_0 := Aside0.mk hc0_0; clear hr0_0 hc0_0; have HR2_0 := Aside0.mk hr2_0; have HC2_0 := Aside0.mk hc2_0; clear hr2_0 hc2_0; have HB := Aside0.mk (Below.refl w.heap.size w); have H : ((impl_ValidTree.f k qa).bind fun t730 => (if t730 = true then ((impl_ValidTree.f k qb).bind fun t731 => (if t731 = true then ((impl_ValidPath.f k a1).bind fun t732 => (impl_Mount.j0 k a1 (!t732) qa qb)) else (impl_Mount.j0 k a1 true qa qb))) else (impl_Mount.j0 k a1 true qa qb))) = some (r1, r2) := h; clear h; have HC4 := Aside0.mk H; clear H
 go_enter Tryd.func46, Tryd.ntmps46
 go_upto_region 1 with (first | ((with_reducible refine gd 3 rfl ?_); refine bx 3 29 (#[.slice A0_0 qa.length c0_0]) ?_; intro gb727 hg w5 hbox hb; refine Ya4 (below_step (be HB.out) hb) (hbox) (bs hg (be HB.out)) (bs hg (be HB.out)) ?_; clear HB; intro HB qd GW727 qh; clear hb hbox hg) | ((with_reducible refine gd 5 rfl ?_); refine bx 5 29 (#[.slice A2_0 qb.length c2_0]) ?_; intro gb728 hg w6 hbox hb; refine Ya7 (bb qd hb) (below_step (be1 HB.out qh.out) hb) (hbox) (bs hg (be1 HB.out qh.out)) (bs hg (be1 HB.out qh.out)) (bl hg qd) (br hg qd) ?_; clear qd HB; intro qd HB qg GW728 qi q2 q3; clear hb hbox hg) | ((with_reducible refine gd 6 rfl ?_); refine bx 6 29 (#[.slice none 0 0]) ?_; intro qp hg w7 hbox hb; have n0_ := Aside0.mk (bb qd hb); have n1_ := Aside0.mk (bb qg hb); have n2_ := Aside0.mk (below_step (be2 HB.out qh.out qi.out) hb); have n3_ := Aside0.mk (hbox); have n4_ := Aside0.mk (bs hg (be2 HB.out qh.out qi.out)); have n5_ := Aside0.mk (bs hg (be2 HB.out qh.out qi.out)); have n6_ := Aside0.mk (bl hg qd); have n7_ := Aside0.mk (br hg qd); have n8_ := Aside0.mk (bl hg qg); have n9_ := Aside0.mk (br hg qg); clear qd; clear qg; clear HB; have qd := n0_; have qg := n1_; have HB := n2_; have qf := n3_; have GW729 := n4_; have qj := n5_; have qu := n6_; have qv := n7_; have qw := n8_; have qx := n9_; clear n0_ n1_ n2_ n3_ n4_ n5_ n6_ n7_ n8_ n9_; clear hb hbox hg))
 (try simp only [Act.put, List.setIfInBounds_toArray, List.set_cons_zero, List.set_cons_succ])
 go_cut [25] (fun v25 wc => ∃ (kq : Nat) (x25_3 : Bool), v25 = .bool x25_3 ∧ Aside0 (impl_Mount.j0 kq a1 x25_3 qa qb = some (r1, r2)) ∧ Aside0 (kq ≤ k) ∧ Aside0 (wc.heap[gb727]? = some (.cells #[(.slice A0_0 qa.length c0_0)] 29 (0, 0))) ∧ Aside0 (wc.heap[gb728]? = some (.cells #[(.slice A2_0 qb.length c2_0)] 29 (0, 0))) ∧ Aside0 (wc.heap[qp]? = some (.cells #[(.slice none 0 0)] 29 (0, 0))) ∧ Aside0 (Below w.heap.size w wc))
 case first =>
  have H := HC4.out; clear HC4; replace H := Option.bind_eq_some_iff.mp H; obtain ⟨t730, A80, H⟩ := H; replace H : (if t730 = true then ((impl_ValidTree.f k qb).bind fun t731 => (if t731 = true then ((impl_ValidPath.f k a1).bind fun t732 => (impl_Mount.j0 k a1 (!t732) qa qb)) else (impl_Mount.j0 k a1 true qa qb))) else (impl_Mount.j0 k a1 true qa qb)) = some (r1, r2) := H; have A8 := Aside0.mk A80; clear A80
  by_cases c9 : t730 = true
  ·subst c9
   have H1 : ((impl_ValidTree.f k qb).bind fun t731 => (if t731 = true then ((impl_ValidPath.f k a1).bind fun t732 => (impl_Mount.j0 k a1 (!t732) qa qb)) else (impl_Mount.j0 k a1 true qa qb))) = some (r1, r2) := by rw [if_pos rfl] at H; exact H
   clear H; have H := H1; clear H1; replace H := Option.bind_eq_some_iff.mp H; obtain ⟨t731, A100, H⟩ := H; replace H : (if t731 = true then ((impl_ValidPath.f k a1).bind fun t732 => (impl_Mount.j0 k a1 (!t732) qa qb)) else (impl_Mount.j0 k a1 true qa qb)) = some (r1, r2) := H; have A10 := Aside0.mk A100; clear A100
   by_cases c11 : t731 = true
   ·subst c11
    have H1 : ((impl_ValidPath.f k a1).bind fun t732 => (impl_Mount.j0 k a1 (!t732) qa qb)) = some (r1, r2) := by rw [if_pos rfl] at H; exact H
    clear H; have H := H1; clear H1; replace H := Option.bind_eq_some_iff.mp H; obtain ⟨t732, A120, H⟩ := H; replace H : (impl_Mount.j0 k a1 (!t732) qa qb) = some (r1, r2) := H; have A12 := Aside0.mk A120; clear A120; have H' := Aside0.mk H; clear H; have hnb13 := q2.out; have hnc13 := q3.out; have hnb14 := qu.out; have hnc14 := qv.out; have ⟨hcz15_0, hfz15_0⟩ := Yc1 qd.out
    go_wp2_with (first | ((with_reducible refine gc 15 rfl ?_); refine gl (some 14) _ (#[.agg #[.slice A0_0 qa.length c0_0]]) Tryd.func15 ?_; (with_reducible refine (impl_ValidTree.calls k _ _ qa true _ ?sideG ?side1 ?side2 A8.out).mono ?_); (case sideG => (first | exact HG.out | exact GOK.below HG.out (by repeat (first | (with_reducible first | exact HB.out | apply below_alloc | apply pw_below_drewN | apply below_drew1 | refine below_set ?_ qh.out | refine below_set ?_ qi.out | refine below_set ?_ qj.out | refine below_set ?_ qn.out | refine below_set ?_ qo.out) | exact HB.out | exact Below.refl _ _)))); (case side1 => exact cb (Kd.C_below HR0_0.out HB.out)); (case side2 => exact HC0_0.out); rintro e w16 ⟨rfl, hb⟩; refine ⟨_, rfl, ?_⟩; refine Ya4 (bb qd hb) (bb qg hb) (bb qf hb) (below_step (be3 HB.out qh.out qi.out qj.out) hb) ?_; clear qd qg qf HB; intro qd qg qf HB; (try clear hb); (try clear hb2); (try clear hk); (try clear hi); have hnb17 := qw.out; have hnc17 := qx.out; have ⟨hcz18_0, hfz18_0⟩ := Yc1 qg.out) | (go_at_call 15; (with_reducible refine (impl_ValidTree.calls k _ _ qb true _ ?sideG ?side1 ?side2 A10.out).mono ?_); (case sideG => (first | exact HG.out | exact GOK.below HG.out (by repeat (first | (with_reducible first | exact HB.out | apply below_alloc | apply pw_below_drewN | apply below_drew1 | refine below_set ?_ qh.out | refine below_set ?_ qi.out | refine below_set ?_ qj.out | refine below_set ?_ qn.out | refine below_set ?_ qo.out) | exact HB.out | exact Below.refl _ _)))); (case side1 => exact cb (Kd.C_below HR2_0.out HB.out)); (case side2 => exact HC2_0.out); rintro e w19 ⟨rfl, hb⟩; refine Ya4 (bb qd hb) (bb qg hb) (bb qf hb) (below_step (be3 HB.out qh.out qi.out qj.out) hb) ?_; clear qd qg qf HB; intro qd qg qf HB; (try clear hb); (try clear hb2); (try clear hk); (try clear hi)) | (go_at_call 57; (with_reducible refine (impl_ValidPath.calls k a1 t732 _ ?sideG A12.out).mono ?_); (case sideG => (first | exact HG.out | exact GOK.below HG.out (by repeat (first | (with_reducible first | exact HB.out | apply below_alloc | apply pw_below_drewN | apply below_drew1 | refine below_set ?_ qh.out | refine below_set ?_ qi.out | refine below_set ?_ qj.out | refine below_set ?_ qn.out | refine below_set ?_ qo.out) | exact HB.out | exact Below.refl _ _)))); rintro e w20 ⟨rfl, hb⟩; refine Ya4 (bb qd hb) (bb qg hb) (bb qf hb) (below_step (be3 HB.out qh.out qi.out qj.out) hb) ?_; clear qd qg qf HB; intro qd qg qf HB; (try clear hb); (try clear hb2); (try clear hk); (try clear hi)))
    go_meet
    case rel => exact ⟨_, (!t732), Ye1, H', ⟨by first | omega | exact Nat.le_refl _⟩, ⟨bk qd.out⟩, ⟨bk qg.out⟩, ⟨bk qf.out⟩, ⟨be3 HB.out qh.out qi.out qj.out⟩⟩
   ·replace c11 := Bool.eq_false_iff.mpr c11; subst c11
    have H1 : (impl_Mount.j0 k a1 true qa qb) = some (r1, r2) := by rw [if_neg (show ¬ (false = true) by decide)] at H; exact H
    clear H; have H := H1; clear H1; have H' := Aside0.mk H; clear H; have hnb21 := q2.out; have hnc21 := q3.out; have hnb22 := qu.out; have hnc22 := qv.out; have ⟨hcz23_0, hfz23_0⟩ := Yc1 qd.out
    go_wp2_with (first | ((with_reducible refine gc 15 rfl ?_); refine gl (some 14) _ (#[.agg #[.slice A0_0 qa.length c0_0]]) Tryd.func15 ?_; (with_reducible refine (impl_ValidTree.calls k _ _ qa true _ ?sideG ?side1 ?side2 A8.out).mono ?_); (case sideG => (first | exact HG.out | exact GOK.below HG.out (by repeat (first | (with_reducible first | exact HB.out | apply below_alloc | apply pw_below_drewN | apply below_drew1 | refine below_set ?_ qh.out | refine below_set ?_ qi.out | refine below_set ?_ qj.out | refine below_set ?_ qn.out | refine below_set ?_ qo.out) | exact HB.out | exact Below.refl _ _)))); (case side1 => exact cb (Kd.C_below HR0_0.out HB.out)); (case side2 => exact HC0_0.out); rintro e w24 ⟨rfl, hb⟩; refine ⟨_, rfl, ?_⟩; refine Ya4 (bb qd hb) (bb qg hb) (bb qf hb) (below_step (be3 HB.out qh.out qi.out qj.out) hb) ?_; clear qd qg qf HB; intro qd qg qf HB; (try clear hb); (try clear hb2); (try clear hk); (try clear hi); have hnb25 := qw.out; have hnc25 := qx.out; have ⟨hcz26_0, hfz26_0⟩ := Yc1 qg.out) | (go_at_call 15; (with_reducible refine (impl_ValidTree.calls k _ _ qb false _ ?sideG ?side1 ?side2 A10.out).mono ?_); (case sideG => (first | exact HG.out | exact GOK.below HG.out (by repeat (first | (with_reducible first | exact HB.out | apply below_alloc | apply pw_below_drewN | apply below_drew1 | refine below_set ?_ qh.out | refine below_set ?_ qi.out | refine below_set ?_ qj.out | refine below_set ?_ qn.out | refine below_set ?_ qo.out) | exact HB.out | exact Below.refl _ _)))); (case side1 => exact cb (Kd.C_below HR2_0.out HB.out)); (case side2 => exact HC2_0.out); rintro e w27 ⟨rfl, hb⟩; refine Ya4 (bb qd hb) (bb qg hb) (bb qf hb) (below_step (be3 HB.out qh.out qi.out qj.out) hb) ?_; clear qd qg qf HB; intro qd qg qf HB; (try clear hb); (try clear hb2); (try clear hk); (try clear hi)))
    go_meet
    case rel => exact ⟨_, (true), Ye1, H', ⟨by first | omega | exact Nat.le_refl _⟩, ⟨bk qd.out⟩, ⟨bk qg.out⟩, ⟨bk qf.out⟩, ⟨be3 HB.out qh.out qi.out qj.out⟩⟩
  ·replace c9 := Bool.eq_false_iff.mpr c9; subst c9
   have H1 : (impl_Mount.j0 k a1 true qa qb) = some (r1, r2) := by rw [if_neg (show ¬ (false = true) by decide)] at H; exact H
   clear H; have H := H1; clear H1; have H' := Aside0.mk H; clear H; have hnb28 := q2.out; have hnc28 := q3.out; have hnb29 := qu.out; have hnc29 := qv.out; have ⟨hcz30_0, hfz30_0⟩ := Yc1 qd.out
   go_wp2_with (first | ((with_reducible refine gc 15 rfl ?_); refine gl (some 14) _ (#[.agg #[.slice A0_0 qa.length c0_0]]) Tryd.func15 ?_; (with_reducible refine (impl_ValidTree.calls k _ _ qa false _ ?sideG ?side1 ?side2 A8.out).mono ?_); (case sideG => (first | exact HG.out | exact GOK.below HG.out (by repeat (first | (with_reducible first | exact HB.out | apply below_alloc | apply pw_below_drewN | apply below_drew1 | refine below_set ?_ qh.out | refine below_set ?_ qi.out | refine below_set ?_ qj.out | refine below_set ?_ qn.out | refine below_set ?_ qo.out) | exact HB.out | exact Below.refl _ _)))); (case side1 => exact cb (Kd.C_below HR0_0.out HB.out)); (case side2 => exact HC0_0.out); rintro e w31 ⟨rfl, hb⟩; refine ⟨_, rfl, ?_⟩; refine Ya4 (bb qd hb) (bb qg hb) (bb qf hb) (below_step (be3 HB.out qh.out qi.out qj.out) hb) ?_; clear qd qg qf HB; intro qd qg qf HB; (try clear hb); (try clear hb2); (try clear hk); (try clear hi)))
   go_meet
   case rel => exact ⟨_, (true), Ye1, H', ⟨by first | omega | exact Nat.le_refl _⟩, ⟨bk qd.out⟩, ⟨bk qg.out⟩, ⟨bk qf.out⟩, ⟨be3 HB.out qh.out qi.out qj.out⟩⟩
 case rest =>
  clear HC4; (try clear c1); (try clear c2); (try clear p2); (try clear c4); (try clear c9); (try clear c11); (try clear c13); (try clear c14); (try clear c15); (try clear c17); (try clear c21); (try clear c22); (try clear c25); (try clear c28); (try clear c29); (try clear hcz15_0); (try clear hcz18_0); (try clear hcz23_0); (try clear hcz26_0); (try clear hcz30_0); (try clear hfz15_0); (try clear hfz18_0); (try clear hfz23_0); (try clear hfz26_0); (try clear hfz30_0); obtain ⟨kq, x25_3, rfl, HA, HJ3, qd, qg, qf, HB⟩ := hcut
  cases kq with
  | zero => exact absurd HA.out (by simp [impl_Mount.j0])
  | succ kj3 =>
   have H := HA.out; clear HA; simp only [impl_Mount.j0] at H
   by_cases c32 : x25_3 = true
   ·subst c32
    have H1 : (some (([] : List (S45)), 1)) = some (r1, r2) := by rw [if_pos rfl] at H; exact H
    clear H; have H := H1; clear H1; simp only [Option.some.injEq, Prod.mk.injEq] at H; obtain ⟨rfl, rfl⟩ := H; have hnb33 := qv.out; have hnc33 := qu.out; have hnb34 := qx.out; have hnc34 := qw.out; have ⟨hcz35_0, hfz35_0⟩ := Yc1 qf.out
    go_wp2
    refine bodyPost_ret (results_ct rfl _ _ qp 29 #[.slice none 0 0] (0, 0) _ rfl (by (with_reducible repeat (first | apply blk_drewN | apply blk_drew | apply blk_alloc)); refine blk_put (cs := #[.slice none 0 0]) ?_ 0 _ rfl; (with_reducible repeat (first | apply blk_drewN | apply blk_drew | apply blk_alloc)); exact qf.out) Tryd.underlying29 rfl (by kernel_rfl)) rfl ?_; exact ⟨_, Ye2, nl, (by first | exact be3 HB.out qh.out qi.out qj.out | exact be2 HB.out qh.out qi.out | exact be1 HB.out qh.out)⟩
   ·replace c32 := Bool.eq_false_iff.mpr c32; subst c32
    have H1 : (impl_Mount.l0 kj3 a1 ([] : List (S45)) qb (qb.length : Int) 0 qa) = some (r1, r2) := by rw [if_neg (show ¬ (false = true) by decide)] at H; exact H
    clear H; have H := H1; clear H1; have H' := Aside0.mk H; clear H; have hnb36 := q3.out; have hnc36 := q2.out; have hnb37 := qw.out; have hnc37 := qx.out; have ⟨hcz38_0, hfz38_0⟩ := Yc1 qg.out
    go_wp2
    go_loopg [8, 30] kj3 (fun kq v8 v30 w' => ∃ (x8_2 : List (S45)) (qe : Int), v30 = .int .i64 qe ∧ Aside0 (impl_Mount.l0 kq a1 x8_2 qb (qb.length : Int) qe qa = some (r1, r2)) ∧ Aside0 (kq ≤ kj3) ∧ Aside0 (Kd.R k45 45 w' w.heap.size (fun _ => True) v8 x8_2) ∧ Aside0 (w'.heap[gb727]? = some (.cells #[(.slice A0_0 qa.length c0_0)] 29 (0, 0))) ∧ Aside0 (w'.heap[gb728]? = some (.cells #[(.slice A2_0 qb.length c2_0)] 29 (0, 0))) ∧ Aside0 (w'.heap[qp]? = some (.cells #[(.slice none 0 0)] 29 (0, 0))) ∧ Aside0 (Below w.heap.size w w'))
    case atStart => exact ⟨(([] : List (S45))), (0), Ye1, H', ⟨Nat.le_refl _⟩, ⟨nl⟩, ⟨bk qd.out⟩, ⟨bk qg.out⟩, ⟨bk qf.out⟩, ⟨be3 HB.out qh.out qi.out qj.out⟩⟩
    case round =>
     clear H'; (try clear c1); (try clear c2); (try clear p2); (try clear c3); (try clear c4); (try clear c9); (try clear c11); (try clear c13); (try clear c14); (try clear c15); (try clear c17); (try clear c21); (try clear c22); (try clear c25); (try clear c28); (try clear c29); (try clear c32); (try clear c33); (try clear c34); (try clear c36); (try clear c37); (try clear hcz15_0); (try clear hcz18_0); (try clear hcz23_0); (try clear hcz26_0); (try clear hcz30_0); (try clear hcz35_0); (try clear hcz38_0); (try clear hfz15_0); (try clear hfz18_0); (try clear hfz23_0); (try clear hfz26_0); (try clear hfz30_0); (try clear hfz35_0); (try clear hfz38_0); (try clear p2); obtain ⟨x8_2, qe, rfl, HA, HK2, qk, qd, qg, qf, HB⟩ := hrel
     cases gk with
     | zero => exact absurd HA.out (by simp [impl_Mount.l0])
     | succ k2 =>
      have H := HA.out; clear HA; simp only [impl_Mount.l0] at H
      by_cases c39 : qe < (qb.length : Int)
      ·rw [if_pos c39] at H
       have c39b0 : decide (qe < (qb.length : Int)) = true := decide_eq_true c39; clear c39
       by_cases c40 : 0 ≤ qe
       ·rw [if_pos c40] at H
        have c40b0 : decide (0 ≤ qe) = true := decide_eq_true c40; clear c40
        by_cases c41 : qe < (qb.length : Int)
        ·rw [if_pos c41] at H
         have c41b0 : decide (qe < (qb.length : Int)) = true := decide_eq_true c41; clear c41
         by_cases c42 : a1.size + 1 ≤ 9223372036854775807
         ·rw [if_pos c42] at H
          have c42b0 := eq_true c42; have c42b1 : decide (a1.size + 1 ≤ 9223372036854775807) = true := decide_eq_true c42
          try have c42b2 : (9223372036854775807 < a1.size + 1) = False := eq_false (Nat.not_lt.2 c42)
          by_cases c43 : (a1 ++ (⟨#[47]⟩ : ByteArray)).size + ((rd_T45 qb qe).f0).size ≤ 9223372036854775807
          ·rw [if_pos c43] at H
           have c43b0 := eq_true c43; have c43b1 : decide ((a1 ++ (⟨#[47]⟩ : ByteArray)).size + ((rd_T45 qb qe).f0).size ≤ 9223372036854775807) = true := decide_eq_true c43
           try have c43b2 : (9223372036854775807 < (a1 ++ (⟨#[47]⟩ : ByteArray)).size + ((rd_T45 qb qe).f0).size) = False := eq_false (Nat.not_lt.2 c43)
           replace H := Option.bind_eq_some_iff.mp H; obtain ⟨t735, A440, H⟩ := H; replace H : (if t735 = true then (if x8_2.length < 3518437208883 then (impl_Mount.l0 k2 a1 (x8_2 ++ [(⟨(a1 ++ (⟨#[47]⟩ : ByteArray)) ++ ((rd_T45 qb qe).f0), (rd_T45 qb qe).f1, (rd_T45 qb qe).f2⟩ : S45)]) qb (qb.length : Int) (wrap64 (qe + 1)) qa) else (none)) else (some (([] : List (S45)), 2))) = some (r1, r2) := H; have A44 := Aside0.mk A440; clear A440
           by_cases c45 : t735 = true
           ·subst c45
            have H1 : (if x8_2.length < 3518437208883 then (impl_Mount.l0 k2 a1 (x8_2 ++ [(⟨(a1 ++ (⟨#[47]⟩ : ByteArray)) ++ ((rd_T45 qb qe).f0), (rd_T45 qb qe).f1, (rd_T45 qb qe).f2⟩ : S45)]) qb (qb.length : Int) (wrap64 (qe + 1)) qa) else (none)) = some (r1, r2) := by rw [if_pos rfl] at H; exact H
            clear H; have H := H1; clear H1
            by_cases c46 : x8_2.length < 3518437208883
            ·rw [if_pos c46] at H
             have LMc46 := Aside0.mk c46; clear c46
             obtain ⟨y736, hy736⟩ : ∃ y_ : List (S45), y_ = (x8_2 ++ [(⟨(a1 ++ (⟨#[47]⟩ : ByteArray)) ++ ((rd_T45 qb qe).f0), (rd_T45 qb qe).f1, (rd_T45 qb qe).f2⟩ : S45)]) := ⟨_, rfl⟩
             replace H : (impl_Mount.l0 k2 a1 y736 qb (qb.length : Int) (wrap64 (qe + 1)) qa) = some (r1, r2) := by first | (rw [hy736]; with_reducible exact H) | (have H2_ := (Option.bind_some _ _).symm.trans H; rw [hy736]; with_reducible exact H2_) | (have H2_ := (Option.bind_some _ _).symm.trans H; with_reducible exact H2_) | with_reducible exact H | (rw [hy736]; exact H) | exact H
             have Ny736 := Aside0.mk hy736; clear hy736; have H' := Aside0.mk H; clear H; have p733 : 0 ≤ (qe : Int) := oda; have q733 : qe < (qb.length : Int) := oda; obtain ⟨ad733, e733, hx733_0, hx733_1, hx733_2⟩ := at_T45 (Kd.C_below HR2_0.out HB.out) qe p733 q733
             cases e733
             replace p733 := eq_true p733; replace q733 := eq_true q733
             go_wp2_with (first | ((with_reducible refine gd 10 rfl ?_); refine bx 10 45 (#[.string (⟨#[]⟩ : ByteArray), .string (⟨#[]⟩ : ByteArray), .bool false]) ?_; intro qm hg w47 hbox hb; have n0_ := Aside0.mk (Kd.R_below (Kd.R_elderB (kr qk.out) qm (Nat.le_of_eq hg.symm)) hb); have n1_ := Aside0.mk (bb qd hb); have n2_ := Aside0.mk (bb qg hb); have n3_ := Aside0.mk (bb qf hb); have n4_ := Aside0.mk (below_step (be3 HB.out qh.out qi.out qj.out) hb); have n5_ := Aside0.mk (hbox); have n6_ := Aside0.mk (bs hg (be3 HB.out qh.out qi.out qj.out)); have n7_ := Aside0.mk (bs hg (be3 HB.out qh.out qi.out qj.out)); have n8_ := Aside0.mk (bl hg qd); have n9_ := Aside0.mk (br hg qd); have n10_ := Aside0.mk (bl hg qg); have n11_ := Aside0.mk (br hg qg); have n12_ := Aside0.mk (bl hg qf); have n13_ := Aside0.mk (br hg qf); clear qk; clear qd; clear qg; clear qf; clear HB; have qk := n0_; have qd := n1_; have qg := n2_; have qf := n3_; have HB := n4_; have qr := n5_; have GW734 := n6_; have qn := n7_; have q4 := n8_; have NB734_727 := n9_; have q5 := n10_; have NB734_728 := n11_; have q6 := n12_; have NB734_729 := n13_; clear n0_ n1_ n2_ n3_ n4_ n5_ n6_ n7_ n8_ n9_ n10_ n11_ n12_ n13_; clear hb hbox hg; have hnb48 := NB734_727.out; have hnc48 := q4.out; have hnb49 := NB734_728.out; have hnc49 := q5.out; have hnb50 := NB734_729.out; have hnc50 := q6.out; have ⟨hcz51_0, hcz51_1, hcz51_2, hfz51_0, hfz51_1, hfz51_2⟩ := Yc3 qr.out) | ((with_reducible refine gc 57 rfl ?_); refine gl (some 42) _ (#[.string ((a1 ++ (⟨#[47]⟩ : ByteArray)) ++ ((rd_T45 qb qe).f0))]) Tryd.func57 ?_; (with_reducible refine (impl_ValidPath.calls k2 ((a1 ++ (⟨#[47]⟩ : ByteArray)) ++ ((rd_T45 qb qe).f0)) true _ ?sideG A44.out).mono ?_); (case sideG => (first | exact HG.out | exact GOK.below HG.out (by repeat (first | (with_reducible first | exact HB.out | apply below_alloc | apply pw_below_drewN | apply below_drew1 | refine below_set ?_ qh.out | refine below_set ?_ qi.out | refine below_set ?_ qj.out | refine below_set ?_ qn.out | refine below_set ?_ qo.out) | exact HB.out | exact Below.refl _ _)))); rintro e w52 ⟨rfl, hb⟩; refine ⟨_, rfl, ?_⟩; refine Ya6 (Kd.R_below (by (with_reducible repeat (first | apply Kd.R_alloc | apply Kd.R_drewN | apply Kd.R_drew)); exact (Kd.R_mono (Kd.R_far (p := ⟨qm, 0, none⟩) (Kd.R_far (p := ⟨qm, 2, none⟩) (Kd.R_far (p := ⟨qm, 1, none⟩) (Kd.R_far (p := ⟨qm, 0, none⟩) (Kd.R_mono qk.out (fun k_ hk => (⟨hk, hk.2⟩ : _ ∧ k_ ≠ qm))) (fun _ hk => hk.2) (.string ((rd_T45 qb qe).f0))) (fun _ hk => hk.2) (.string ((rd_T45 qb qe).f1))) (fun _ hk => hk.2) (.bool ((rd_T45 qb qe).f2))) (fun _ hk => hk.2) (.string ((a1 ++ (⟨#[47]⟩ : ByteArray)) ++ ((rd_T45 qb qe).f0)))) (fun _ h_ => h_.1))) hb) (blk_below (g := gb727) (o := .cells #[.slice A0_0 qa.length c0_0] 29 (0, 0)) (bkf qd.out q4.out) hb) (blk_below (g := gb728) (o := .cells #[.slice (some ad733) qb.length c2_0] 29 (0, 0)) (bkf qg.out q5.out) hb) (blk_below (g := qp) (o := .cells #[.slice none 0 0] 29 (0, 0)) (bkf qf.out q6.out) hb) (blk_below (g := qm) (o := .cells #[.string ((a1 ++ (⟨#[47]⟩ : ByteArray)) ++ ((rd_T45 qb qe).f0)), .string ((rd_T45 qb qe).f1), .bool ((rd_T45 qb qe).f2)] 45 (0, 0)) (by (with_reducible repeat (first | apply blk_drewN | apply blk_drew | apply blk_alloc)); refine blk_put (cs := #[.string ((rd_T45 qb qe).f0), .string ((rd_T45 qb qe).f1), .bool ((rd_T45 qb qe).f2)]) ?_ 0 _ rfl; (with_reducible repeat (first | apply blk_drewN | apply blk_drew | apply blk_alloc)); refine blk_put (cs := #[.string ((rd_T45 qb qe).f0), .string ((rd_T45 qb qe).f1), .bool false]) ?_ 2 _ rfl; (with_reducible repeat (first | apply blk_drewN | apply blk_drew | apply blk_alloc)); refine blk_put (cs := #[.string ((rd_T45 qb qe).f0), .string (⟨#[]⟩ : ByteArray), .bool false]) ?_ 1 _ rfl; (with_reducible repeat (first | apply blk_drewN | apply blk_drew | apply blk_alloc)); refine blk_put (cs := #[.string (⟨#[]⟩ : ByteArray), .string (⟨#[]⟩ : ByteArray), .bool false]) ?_ 0 _ rfl; (with_reducible repeat (first | apply blk_drewN | apply blk_drew | apply blk_alloc)); exact qr.out) hb) (below_step (be4 HB.out qh.out qi.out qj.out qn.out) hb) ?_; clear qk qd qg qf qr HB; intro qk qd qg qf qr HB; (try clear hb); (try clear hb2); (try clear hk); (try clear hi); have ⟨hcz53_0, hcz53_1, hcz53_2, hfz53_0, hfz53_1, hfz53_2⟩ := Yc3 qr.out) | ((with_reducible refine gate_builtin (b := .append) (xs := #[.tmp 45, .tmp 47]) rfl ?_); at_builtin; refine Kd.R_append k45 (w0 := w) w.heap.size rfl (.tmp 45) (.tmp 47) 27 45 (.agg #[(.string ⟨#[]⟩), (.string ⟨#[]⟩), (.bool false)]) 40 rfl Tryd.underlying27 info45 rfl (by decide) (by omega) u8 x8_2 (⟨(a1 ++ (⟨#[47]⟩ : ByteArray)) ++ ((rd_T45 qb qe).f0), (rd_T45 qb qe).f1, (rd_T45 qb qe).f2⟩ : S45) [.string ((a1 ++ (⟨#[47]⟩ : ByteArray)) ++ ((rd_T45 qb qe).f0)), .string ((rd_T45 qb qe).f1), .bool ((rd_T45 qb qe).f2)] (fun k_ => k_ ≠ qm) (fun _ => False) rfl rfl ?aP (fun _ hk => hk.elim) ?aF ?aO ?aB ?aS ?aL ?_; (case aP => exact k45_mkM _ _ _ (⟨(a1 ++ (⟨#[47]⟩ : ByteArray)) ++ ((rd_T45 qb qe).f0), (rd_T45 qb qe).f1, (rd_T45 qb qe).f2⟩ : S45)); (case aB => exact (be4 HB.out qh.out qi.out qj.out qn.out)); (case aF => exact (fun k_ hk => Kd.freshB (g := qm) (o := .cells #[.string ((a1 ++ (⟨#[47]⟩ : ByteArray)) ++ ((rd_T45 qb qe).f0)), .string ((rd_T45 qb qe).f1), .bool ((rd_T45 qb qe).f2)] 45 (0, 0)) (bk qr.out) k_ hk)); (case aO => exact (by (with_reducible repeat (first | apply Kd.R_alloc | apply Kd.R_drewN | apply Kd.R_drew)); exact Kd.R_mono qk.out (fun _ hk => hk.2))); (case aS => exact (below_size (be4 HB.out qh.out qi.out qj.out qn.out))); (case aL => have := LMc46.out; omega); intro v737 w54 ho hb hg hat; rw [← Ny736.out] at ho; refine Ya6 (blk_grown (g := gb727) (o := .cells #[.slice A0_0 qa.length c0_0] 29 (0, 0)) (bk qd.out) hg (Kd.R_ne qk.out qd.out (by decide))) (blk_grown (g := gb728) (o := .cells #[.slice (some ad733) qb.length c2_0] 29 (0, 0)) (bk qg.out) hg (Kd.R_ne qk.out qg.out (by decide))) (blk_grown (g := qp) (o := .cells #[.slice none 0 0] 29 (0, 0)) (bk qf.out) hg (Kd.R_ne qk.out qf.out (by decide))) (blk_grown (g := qm) (o := .cells #[.string ((a1 ++ (⟨#[47]⟩ : ByteArray)) ++ ((rd_T45 qb qe).f0)), .string ((rd_T45 qb qe).f1), .bool ((rd_T45 qb qe).f2)] 45 (0, 0)) (bk qr.out) hg (Kd.R_away qk.out (fun _ hk => hk.2))) (hb) (ho) ?_; clear qd qg qf qr HB qk; intro qd qg qf qr HB HO738; clear ho hb hg hat))
             go_roundg k2
             case measure => have := HJ3.out; have := HK2.out; omega
             case rel => exact ⟨(y736), (wrap64 (qe + 1)), Ye1, H', ⟨by have := HJ3.out; have := HK2.out; omega⟩, ⟨by (with_reducible repeat (first | apply Kd.R_alloc | apply Kd.R_drewN | apply Kd.R_drew)); exact Kd.R_mono HO738.out (fun _ hk => trivial)⟩, ⟨bk qd.out⟩, ⟨bk qg.out⟩, ⟨bk qf.out⟩, ⟨be4 HB.out qh.out qi.out qj.out qn.out⟩⟩
            ·rw [if_neg c46] at H
             exact absurd H (by simp)
           ·replace c45 := Bool.eq_false_iff.mpr c45; subst c45
            have H1 : (some (([] : List (S45)), 2)) = some (r1, r2) := by rw [if_neg (show ¬ (false = true) by decide)] at H; exact H
            clear H; have H := H1; clear H1; simp only [Option.some.injEq, Prod.mk.injEq] at H; obtain ⟨rfl, rfl⟩ := H; have p733 : 0 ≤ (qe : Int) := oda; have q733 : qe < (qb.length : Int) := oda; obtain ⟨ad733, e733, hx733_0, hx733_1, hx733_2⟩ := at_T45 (Kd.C_below HR2_0.out HB.out) qe p733 q733
            cases e733
            replace p733 := eq_true p733; replace q733 := eq_true q733
            go_wp2_with (first | ((with_reducible refine gd 10 rfl ?_); refine bx 10 45 (#[.string (⟨#[]⟩ : ByteArray), .string (⟨#[]⟩ : ByteArray), .bool false]) ?_; intro qm hg w55 hbox hb; have n0_ := Aside0.mk (Kd.R_below (Kd.R_elderB (kr qk.out) qm (Nat.le_of_eq hg.symm)) hb); have n1_ := Aside0.mk (bb qd hb); have n2_ := Aside0.mk (bb qg hb); have n3_ := Aside0.mk (bb qf hb); have n4_ := Aside0.mk (below_step (be3 HB.out qh.out qi.out qj.out) hb); have n5_ := Aside0.mk (hbox); have n6_ := Aside0.mk (bs hg (be3 HB.out qh.out qi.out qj.out)); have n7_ := Aside0.mk (bs hg (be3 HB.out qh.out qi.out qj.out)); have n8_ := Aside0.mk (bl hg qd); have n9_ := Aside0.mk (br hg qd); have n10_ := Aside0.mk (bl hg qg); have n11_ := Aside0.mk (br hg qg); have n12_ := Aside0.mk (bl hg qf); have n13_ := Aside0.mk (br hg qf); clear qk; clear qd; clear qg; clear qf; clear HB; have qk := n0_; have qd := n1_; have qg := n2_; have qf := n3_; have HB := n4_; have qr := n5_; have GW734 := n6_; have qn := n7_; have q4 := n8_; have NB734_727 := n9_; have q5 := n10_; have NB734_728 := n11_; have q6 := n12_; have NB734_729 := n13_; clear n0_ n1_ n2_ n3_ n4_ n5_ n6_ n7_ n8_ n9_ n10_ n11_ n12_ n13_; clear hb hbox hg; have hnb56 := NB734_727.out; have hnc56 := q4.out; have hnb57 := NB734_728.out; have hnc57 := q5.out; have hnb58 := NB734_729.out; have hnc58 := q6.out; have ⟨hcz59_0, hcz59_1, hcz59_2, hfz59_0, hfz59_1, hfz59_2⟩ := Yc3 qr.out) | ((with_reducible refine gc 57 rfl ?_); refine gl (some 42) _ (#[.string ((a1 ++ (⟨#[47]⟩ : ByteArray)) ++ ((rd_T45 qb qe).f0))]) Tryd.func57 ?_; (with_reducible refine (impl_ValidPath.calls k2 ((a1 ++ (⟨#[47]⟩ : ByteArray)) ++ ((rd_T45 qb qe).f0)) false _ ?sideG A44.out).mono ?_); (case sideG => (first | exact HG.out | exact GOK.below HG.out (by repeat (first | (with_reducible first | exact HB.out | apply below_alloc | apply pw_below_drewN | apply below_drew1 | refine below_set ?_ qh.out | refine below_set ?_ qi.out | refine below_set ?_ qj.out | refine below_set ?_ qn.out | refine below_set ?_ qo.out) | exact HB.out | exact Below.refl _ _)))); rintro e w60 ⟨rfl, hb⟩; refine ⟨_, rfl, ?_⟩; refine Ya6 (Kd.R_below (by (with_reducible repeat (first | apply Kd.R_alloc | apply Kd.R_drewN | apply Kd.R_drew)); exact (Kd.R_mono (Kd.R_far (p := ⟨qm, 0, none⟩) (Kd.R_far (p := ⟨qm, 2, none⟩) (Kd.R_far (p := ⟨qm, 1, none⟩) (Kd.R_far (p := ⟨qm, 0, none⟩) (Kd.R_mono qk.out (fun k_ hk => (⟨hk, hk.2⟩ : _ ∧ k_ ≠ qm))) (fun _ hk => hk.2) (.string ((rd_T45 qb qe).f0))) (fun _ hk => hk.2) (.string ((rd_T45 qb qe).f1))) (fun _ hk => hk.2) (.bool ((rd_T45 qb qe).f2))) (fun _ hk => hk.2) (.string ((a1 ++ (⟨#[47]⟩ : ByteArray)) ++ ((rd_T45 qb qe).f0)))) (fun _ h_ => h_.1))) hb) (blk_below (g := gb727) (o := .cells #[.slice A0_0 qa.length c0_0] 29 (0, 0)) (bkf qd.out q4.out) hb) (blk_below (g := gb728) (o := .cells #[.slice (some ad733) qb.length c2_0] 29 (0, 0)) (bkf qg.out q5.out) hb) (blk_below (g := qp) (o := .cells #[.slice none 0 0] 29 (0, 0)) (bkf qf.out q6.out) hb) (blk_below (g := qm) (o := .cells #[.string ((a1 ++ (⟨#[47]⟩ : ByteArray)) ++ ((rd_T45 qb qe).f0)), .string ((rd_T45 qb qe).f1), .bool ((rd_T45 qb qe).f2)] 45 (0, 0)) (by (with_reducible repeat (first | apply blk_drewN | apply blk_drew | apply blk_alloc)); refine blk_put (cs := #[.string ((rd_T45 qb qe).f0), .string ((rd_T45 qb qe).f1), .bool ((rd_T45 qb qe).f2)]) ?_ 0 _ rfl; (with_reducible repeat (first | apply blk_drewN | apply blk_drew | apply blk_alloc)); refine blk_put (cs := #[.string ((rd_T45 qb qe).f0), .string ((rd_T45 qb qe).f1), .bool false]) ?_ 2 _ rfl; (with_reducible repeat (first | apply blk_drewN | apply blk_drew | apply blk_alloc)); refine blk_put (cs := #[.string ((rd_T45 qb qe).f0), .string (⟨#[]⟩ : ByteArray), .bool false]) ?_ 1 _ rfl; (with_reducible repeat (first | apply blk_drewN | apply blk_drew | apply blk_alloc)); refine blk_put (cs := #[.string (⟨#[]⟩ : ByteArray), .string (⟨#[]⟩ : ByteArray), .bool false]) ?_ 0 _ rfl; (with_reducible repeat (first | apply blk_drewN | apply blk_drew | apply blk_alloc)); exact qr.out) hb) (below_step (be4 HB.out qh.out qi.out qj.out qn.out) hb) ?_; clear qk qd qg qf qr HB; intro qk qd qg qf qr HB; (try clear hb); (try clear hb2); (try clear hk); (try clear hi); have hnb61 := qv.out; have hnc61 := qu.out; have hnb62 := qx.out; have hnc62 := qw.out; have ⟨hcz63_0, hfz63_0⟩ := Yc1 qf.out))
            refine bodyPost_ret (results_ct rfl _ _ qp 29 #[.slice none 0 0] (0, 0) _ rfl (by (with_reducible repeat (first | apply blk_drewN | apply blk_drew | apply blk_alloc)); refine blk_put (cs := #[.slice none 0 0]) ?_ 0 _ rfl; (with_reducible repeat (first | apply blk_drewN | apply blk_drew | apply blk_alloc)); exact qf.out) Tryd.underlying29 rfl (by kernel_rfl)) rfl ?_; exact ⟨_, Ye2, nl, (by first | exact be4 HB.out qh.out qi.out qj.out qn.out | exact be3 HB.out qh.out qi.out qj.out | exact be2 HB.out qh.out qi.out)⟩
          ·rw [if_neg c43] at H
           exact absurd H (by simp)
         ·rw [if_neg c42] at H
          exact absurd H (by simp)
        ·rw [if_neg c41] at H
         exact absurd H (by simp)
       ·rw [if_neg c40] at H
        exact absurd H (by simp)
      ·rw [if_neg c39] at H
       have c39b0 : decide (qe < (qb.length : Int)) = false := decide_eq_false c39; clear c39; have H' := Aside0.mk H; clear H; have hnb64 := q2.out; have hnc64 := q3.out; have hnb65 := qu.out; have hnc65 := qv.out; have ⟨hcz66_0, hfz66_0⟩ := Yc1 qd.out
       go_wp2
       go_loopg [8, 53] k2 (fun kq v8 v53 w' => ∃ (ql : List (S45)) (qc : Int), v53 = .int .i64 qc ∧ Aside0 (impl_Mount.l1 kq a1 ql qa (qa.length : Int) qc = some (r1, r2)) ∧ Aside0 (kq ≤ k2) ∧ Aside0 (Kd.R k45 45 w' w.heap.size (fun _ => True) v8 ql) ∧ Aside0 (w'.heap[gb727]? = some (.cells #[(.slice A0_0 qa.length c0_0)] 29 (0, 0))) ∧ Aside0 (w'.heap[gb728]? = some (.cells #[(.slice A2_0 qb.length c2_0)] 29 (0, 0))) ∧ Aside0 (w'.heap[qp]? = some (.cells #[(.slice none 0 0)] 29 (0, 0))) ∧ Aside0 (Below w.heap.size w w'))
       case atStart => exact ⟨(x8_2), (0), Ye1, H', ⟨Nat.le_refl _⟩, ⟨kr qk.out⟩, ⟨bk qd.out⟩, ⟨bk qg.out⟩, ⟨bk qf.out⟩, ⟨be3 HB.out qh.out qi.out qj.out⟩⟩
       case round =>
        clear H'; (try clear c1); (try clear c2); (try clear p2); (try clear c3); (try clear c4); (try clear c5); (try clear c6); (try clear p6); (try clear p7); (try clear q7); (try clear hx7); (try clear c9); (try clear c11); (try clear c13); (try clear c14); (try clear c15); (try clear c17); (try clear c21); (try clear c22); (try clear c25); (try clear c28); (try clear c29); (try clear c32); (try clear c33); (try clear c34); (try clear c36); (try clear c37); (try clear c39); (try clear c39b0); (try clear c40); (try clear c40b0); (try clear c41); (try clear c41b0); (try clear c42); (try clear c42b0); (try clear c42b1); (try clear c42b2); (try clear c43); (try clear c43b0); (try clear c43b1); (try clear c43b2); (try clear c45); (try clear c46); (try clear c48); (try clear c49); (try clear c50); (try clear c56); (try clear c57); (try clear c58); (try clear c61); (try clear c62); (try clear c64); (try clear p64); (try clear c65); (try clear hcz15_0); (try clear hcz18_0); (try clear hcz23_0); (try clear hcz26_0); (try clear hcz30_0); (try clear hcz35_0); (try clear hcz38_0); (try clear hcz51_0); (try clear hcz51_1); (try clear hcz51_2); (try clear hcz53_0); (try clear hcz53_1); (try clear hcz53_2); (try clear hcz59_0); (try clear hcz59_1); (try clear hcz59_2); (try clear hcz63_0); (try clear hcz66_0); (try clear hfz15_0); (try clear hfz18_0); (try clear hfz23_0); (try clear hfz26_0); (try clear hfz30_0); (try clear hfz35_0); (try clear hfz38_0); (try clear hfz51_0); (try clear hfz51_1); (try clear hfz51_2); (try clear hfz53_0); (try clear hfz53_1); (try clear hfz53_2); (try clear hfz59_0); (try clear hfz59_1); (try clear hfz59_2); (try clear hfz63_0); (try clear hfz66_0); (try clear hx733_0); (try clear hx733_1); (try clear hx733_2); (try clear p2); (try clear p733); (try clear q733); obtain ⟨ql, qc, rfl, HA, HK3, qk, qd, qg, qf, HB⟩ := hrel
        cases gk with
        | zero => exact absurd HA.out (by simp [impl_Mount.l1])
        | succ k3 =>
         have H := HA.out; clear HA; simp only [impl_Mount.l1] at H
         by_cases c67 : qc < (qa.length : Int)
         ·rw [if_pos c67] at H
          have c67b0 : decide (qc < (qa.length : Int)) = true := decide_eq_true c67; clear c67
          by_cases c68 : 0 ≤ qc
          ·rw [if_pos c68] at H
           have c68b0 : decide (0 ≤ qc) = true := decide_eq_true c68; clear c68
           by_cases c69 : qc < (qa.length : Int)
           ·rw [if_pos c69] at H
            have c69b0 : decide (qc < (qa.length : Int)) = true := decide_eq_true c69; clear c69; have HC70 := Aside0.mk H; clear H; have p742 : 0 ≤ (qc : Int) := oda; have q742 : qc < (qa.length : Int) := oda; obtain ⟨ad742, e742, hx742_0, hx742_1, hx742_2⟩ := at_T45 (Kd.C_below HR0_0.out HB.out) qc p742 q742
            cases e742
            replace p742 := eq_true p742; replace q742 := eq_true q742
            go_upto_region 15 with (first | ((with_reducible refine gd 12 rfl ?_); refine bx 12 45 (#[.string (⟨#[]⟩ : ByteArray), .string (⟨#[]⟩ : ByteArray), .bool false]) ?_; intro qt hg w71 hbox hb; have n0_ := Aside0.mk (Kd.R_below (Kd.R_elderB (kr qk.out) qt (Nat.le_of_eq hg.symm)) hb); have n1_ := Aside0.mk (bb qd hb); have n2_ := Aside0.mk (bb qg hb); have n3_ := Aside0.mk (bb qf hb); have n4_ := Aside0.mk (below_step (be3 HB.out qh.out qi.out qj.out) hb); have n5_ := Aside0.mk (hbox); have n6_ := Aside0.mk (bs hg (be3 HB.out qh.out qi.out qj.out)); have n7_ := Aside0.mk (bs hg (be3 HB.out qh.out qi.out qj.out)); have n8_ := Aside0.mk (bl hg qd); have n9_ := Aside0.mk (br hg qd); have n10_ := Aside0.mk (bl hg qg); have n11_ := Aside0.mk (br hg qg); have n12_ := Aside0.mk (bl hg qf); have n13_ := Aside0.mk (br hg qf); clear qk; clear qd; clear qg; clear qf; clear HB; have qk := n0_; have qd := n1_; have qg := n2_; have qf := n3_; have HB := n4_; have BK743 := n5_; have GW743 := n6_; have qo := n7_; have qz := n8_; have q8 := n9_; have q0 := n10_; have q9 := n11_; have qy := n12_; have q1 := n13_; clear n0_ n1_ n2_ n3_ n4_ n5_ n6_ n7_ n8_ n9_ n10_ n11_ n12_ n13_; clear hb hbox hg; have hnb72 := q8.out; have hnc72 := qz.out; have hnb73 := q9.out; have hnc73 := q0.out; have hnb74 := q1.out; have hnc74 := qy.out; have ⟨hcz75_0, hcz75_1, hcz75_2, hfz75_0, hfz75_1, hfz75_2⟩ := Yc3 BK743.out))
            (try simp only [Act.put, List.setIfInBounds_toArray, List.set_cons_zero, List.set_cons_succ])
            go_cut [66] (fun v66 wc => ∃ (kq : Nat) (x66_69 : Bool), v66 = .bool x66_69 ∧ Aside0 (impl_Mount.j3 kq a1 ql qa (qa.length : Int) qc x66_69 ((rd_T45 qa qc).f0) ((rd_T45 qa qc).f1) ((rd_T45 qa qc).f2) = some (r1, r2)) ∧ Aside0 (kq ≤ k3) ∧ Aside0 (Kd.R k45 45 wc w.heap.size (fun k_ => k_ ≠ qt) u8 ql) ∧ Aside0 (wc.heap[gb727]? = some (.cells #[(.slice (some ad742) qa.length c0_0)] 29 (0, 0))) ∧ Aside0 (wc.heap[gb728]? = some (.cells #[(.slice A2_0 qb.length c2_0)] 29 (0, 0))) ∧ Aside0 (wc.heap[qp]? = some (.cells #[(.slice none 0 0)] 29 (0, 0))) ∧ Aside0 (wc.heap[qt]? = some (.cells #[.string ((rd_T45 qa qc).f0), .string ((rd_T45 qa qc).f1), .bool ((rd_T45 qa qc).f2)] 45 (0, 0))) ∧ Aside0 (Below w.heap.size w wc))
            case first =>
             have H := HC70.out; clear HC70
             by_cases c76 : ((rd_T45 qa qc).f0).toList = a1.toList
             ·rw [if_pos c76] at H
              have c76b0 : (((rd_T45 qa qc).f0).toList == a1.toList) = true := beq_iff_eq.mpr c76; have c76b1 : (((rd_T45 qa qc).f0).toList != a1.toList) = false := bne_eq_false_iff_eq.mpr c76; clear c76; (first | rw [c76b0] | (simp only [i64_w, i32_w]; rw [c76b0]) | skip); have H' := Aside0.mk H; clear H; have hnb77 := q8.out; have hnc77 := qz.out; have hnb78 := q9.out; have hnc78 := q0.out; have hnb79 := q1.out; have hnc79 := qy.out; have ⟨hcz80_0, hcz80_1, hcz80_2, hfz80_0, hfz80_1, hfz80_2⟩ := Yc3 BK743.out
              go_wp2
              go_meet
              case rel => exact ⟨_, (true), Ye1, H', ⟨by have := HJ3.out; have := HK2.out; have := HK3.out; first | omega | exact Nat.le_refl _⟩, ⟨by (with_reducible repeat (first | apply Kd.R_alloc | apply Kd.R_drewN | apply Kd.R_drew)); exact Kd.R_mono (Kd.R_far (p := ⟨qt, 2, none⟩) (Kd.R_far (p := ⟨qt, 1, none⟩) (Kd.R_far (p := ⟨qt, 0, none⟩) (Kd.R_mono qk.out (fun k_ hk => (⟨hk, hk.2⟩ : _ ∧ k_ ≠ qt))) (fun _ hk => hk.2) (.string ((rd_T45 qa qc).f0))) (fun _ hk => hk.2) (.string ((rd_T45 qa qc).f1))) (fun _ hk => hk.2) (.bool ((rd_T45 qa qc).f2))) (fun _ hk => hk.1.2)⟩, ⟨bkf qd.out qz.out⟩, ⟨bkf qg.out q0.out⟩, ⟨bkf qf.out qy.out⟩, ⟨by (with_reducible repeat (first | apply blk_drewN | apply blk_drew | apply blk_alloc)); refine blk_put (cs := #[.string ((rd_T45 qa qc).f0), .string ((rd_T45 qa qc).f1), .bool false]) ?_ 2 _ rfl; (with_reducible repeat (first | apply blk_drewN | apply blk_drew | apply blk_alloc)); refine blk_put (cs := #[.string ((rd_T45 qa qc).f0), .string (⟨#[]⟩ : ByteArray), .bool false]) ?_ 1 _ rfl; (with_reducible repeat (first | apply blk_drewN | apply blk_drew | apply blk_alloc)); refine blk_put (cs := #[.string (⟨#[]⟩ : ByteArray), .string (⟨#[]⟩ : ByteArray), .bool false]) ?_ 0 _ rfl; (with_reducible repeat (first | apply blk_drewN | apply blk_drew | apply blk_alloc)); exact BK743.out⟩, ⟨be4 HB.out qh.out qi.out qj.out qo.out⟩⟩
             ·rw [if_neg c76] at H
              have c76b0 : (((rd_T45 qa qc).f0).toList == a1.toList) = false := beq_eq_false_iff_ne.mpr c76; have c76b1 : (((rd_T45 qa qc).f0).toList != a1.toList) = true := bne_iff_ne.mpr c76; (first | rw [c76b0] | (simp only [i64_w, i32_w]; rw [c76b0]) | skip); replace H := Option.bind_eq_some_iff.mp H; obtain ⟨t744, A810, H⟩ := H; replace H : (impl_Mount.j3 k3 a1 ql qa (qa.length : Int) qc t744 ((rd_T45 qa qc).f0) ((rd_T45 qa qc).f1) ((rd_T45 qa qc).f2)) = some (r1, r2) := H; have A81 := Aside0.mk A810; clear A810; have H' := Aside0.mk H; clear H; have hnb82 := q8.out; have hnc82 := qz.out; have hnb83 := q9.out; have hnc83 := q0.out; have hnb84 := q1.out; have hnc84 := qy.out; have ⟨hcz85_0, hcz85_1, hcz85_2, hfz85_0, hfz85_1, hfz85_2⟩ := Yc3 BK743.out
              go_wp2_with (first | (go_at_call 52; (with_reducible refine (impl_over.calls ((rd_T45 qa qc).f0) a1 t744 _ A81.out).mono ?_); rintro e w' ⟨rfl, ⟨nd, rfl⟩⟩))
              go_meet
              case rel => exact ⟨_, (t744), Ye1, H', ⟨by have := HJ3.out; have := HK2.out; have := HK3.out; first | omega | exact Nat.le_refl _⟩, ⟨by (with_reducible repeat (first | apply Kd.R_alloc | apply Kd.R_drewN | apply Kd.R_drew)); exact Kd.R_mono (Kd.R_far (p := ⟨qt, 2, none⟩) (Kd.R_far (p := ⟨qt, 1, none⟩) (Kd.R_far (p := ⟨qt, 0, none⟩) (Kd.R_mono qk.out (fun k_ hk => (⟨hk, hk.2⟩ : _ ∧ k_ ≠ qt))) (fun _ hk => hk.2) (.string ((rd_T45 qa qc).f0))) (fun _ hk => hk.2) (.string ((rd_T45 qa qc).f1))) (fun _ hk => hk.2) (.bool ((rd_T45 qa qc).f2))) (fun _ hk => hk.1.2)⟩, ⟨bkf qd.out qz.out⟩, ⟨bkf qg.out q0.out⟩, ⟨bkf qf.out qy.out⟩, ⟨by (with_reducible repeat (first | apply blk_drewN | apply blk_drew | apply blk_alloc)); refine blk_put (cs := #[.string ((rd_T45 qa qc).f0), .string ((rd_T45 qa qc).f1), .bool false]) ?_ 2 _ rfl; (with_reducible repeat (first | apply blk_drewN | apply blk_drew | apply blk_alloc)); refine blk_put (cs := #[.string ((rd_T45 qa qc).f0), .string (⟨#[]⟩ : ByteArray), .bool false]) ?_ 1 _ rfl; (with_reducible repeat (first | apply blk_drewN | apply blk_drew | apply blk_alloc)); refine blk_put (cs := #[.string (⟨#[]⟩ : ByteArray), .string (⟨#[]⟩ : ByteArray), .bool false]) ?_ 0 _ rfl; (with_reducible repeat (first | apply blk_drewN | apply blk_drew | apply blk_alloc)); exact BK743.out⟩, ⟨be4 HB.out qh.out qi.out qj.out qo.out⟩⟩
            case rest =>
             clear HC70; (try clear c1); (try clear c2); (try clear p2); (try clear c3); (try clear c4); (try clear c5); (try clear c6); (try clear p6); (try clear c7); (try clear p7); (try clear q7); (try clear hx7); (try clear c8); (try clear c9); (try clear c11); (try clear c13); (try clear c14); (try clear c15); (try clear c17); (try clear c21); (try clear c22); (try clear c25); (try clear c28); (try clear c29); (try clear c32); (try clear c33); (try clear c34); (try clear c36); (try clear c37); (try clear c39); (try clear c39b0); (try clear c40); (try clear c40b0); (try clear c41); (try clear c41b0); (try clear c42); (try clear c42b0); (try clear c42b1); (try clear c42b2); (try clear c43); (try clear c43b0); (try clear c43b1); (try clear c43b2); (try clear c45); (try clear c46); (try clear c48); (try clear c49); (try clear c50); (try clear c56); (try clear c57); (try clear c58); (try clear c61); (try clear c62); (try clear c64); (try clear p64); (try clear c65); (try clear c67); (try clear c67b0); (try clear c68); (try clear c68b0); (try clear c69); (try clear c69b0); (try clear c72); (try clear c73); (try clear p73); (try clear q73); (try clear hx73); (try clear c74); (try clear p74); (try clear q74); (try clear hx74); (try clear c76); (try clear c76b0); (try clear c76b1); (try clear c77); (try clear c78); (try clear c79); (try clear c82); (try clear c83); (try clear c84); (try clear hcz15_0); (try clear hcz18_0); (try clear hcz23_0); (try clear hcz26_0); (try clear hcz30_0); (try clear hcz35_0); (try clear hcz38_0); (try clear hcz51_0); (try clear hcz51_1); (try clear hcz51_2); (try clear hcz53_0); (try clear hcz53_1); (try clear hcz53_2); (try clear hcz59_0); (try clear hcz59_1); (try clear hcz59_2); (try clear hcz63_0); (try clear hcz66_0); (try clear hcz75_0); (try clear hcz75_1); (try clear hcz75_2); (try clear hcz80_0); (try clear hcz80_1); (try clear hcz80_2); (try clear hcz85_0); (try clear hcz85_1); (try clear hcz85_2); (try clear hfz15_0); (try clear hfz18_0); (try clear hfz23_0); (try clear hfz26_0); (try clear hfz30_0); (try clear hfz35_0); (try clear hfz38_0); (try clear hfz51_0); (try clear hfz51_1); (try clear hfz51_2); (try clear hfz53_0); (try clear hfz53_1); (try clear hfz53_2); (try clear hfz59_0); (try clear hfz59_1); (try clear hfz59_2); (try clear hfz63_0); (try clear hfz66_0); (try clear hfz75_0); (try clear hfz75_1); (try clear hfz75_2); (try clear hfz80_0); (try clear hfz80_1); (try clear hfz80_2); (try clear hfz85_0); (try clear hfz85_1); (try clear hfz85_2); (try clear hx733_0); (try clear hx733_1); (try clear hx733_2); (try clear hx742_0); (try clear hx742_1); (try clear hx742_2); (try clear p2); (try clear p6); (try clear p64); (try clear p7); (try clear p733); (try clear p742); (try clear q7); (try clear q733); (try clear q742); obtain ⟨kq, x66_69, rfl, HA, HJ69, qk, qd, qg, qf, BK743, HB⟩ := hcut
             cases kq with
             | zero => exact absurd HA.out (by simp [impl_Mount.j3])
             | succ kj69 =>
              have H := HA.out; clear HA; simp only [impl_Mount.j3] at H
              by_cases c86 : x66_69 = true
              ·subst c86
               have H1 : (some (([] : List (S45)), 3)) = some (r1, r2) := by rw [if_pos rfl] at H; exact H
               clear H; have H := H1; clear H1; simp only [Option.some.injEq, Prod.mk.injEq] at H; obtain ⟨rfl, rfl⟩ := H; have hnb87 := qv.out; have hnc87 := qu.out; have hnb88 := qx.out; have hnc88 := qw.out; have hnb89 := qy.out; have hnc89 := q1.out; have ⟨hcz90_0, hfz90_0⟩ := Yc1 qf.out
               go_wp2
               refine bodyPost_ret (results_ct rfl _ _ qp 29 #[.slice none 0 0] (0, 0) _ rfl (by (with_reducible repeat (first | apply blk_drewN | apply blk_drew | apply blk_alloc)); refine blk_put (cs := #[.slice none 0 0]) ?_ 0 _ rfl; (with_reducible repeat (first | apply blk_drewN | apply blk_drew | apply blk_alloc)); exact qf.out) Tryd.underlying29 rfl (by kernel_rfl)) rfl ?_; exact ⟨_, Ye2, nl, (by first | exact be4 HB.out qh.out qi.out qj.out qo.out | exact be3 HB.out qh.out qi.out qj.out | exact be2 HB.out qh.out qi.out)⟩
              ·replace c86 := Bool.eq_false_iff.mpr c86; subst c86
               have H1 : ((impl_over.f a1 ((rd_T45 qa qc).f0)).bind fun t745 => (if t745 = true then (impl_Mount.l1 kj69 a1 ql qa (qa.length : Int) (wrap64 (qc + 1))) else (if ql.length < 3518437208883 then (impl_Mount.l1 kj69 a1 (ql ++ [(⟨((rd_T45 qa qc).f0), ((rd_T45 qa qc).f1), ((rd_T45 qa qc).f2)⟩ : S45)]) qa (qa.length : Int) (wrap64 (qc + 1))) else (none)))) = some (r1, r2) := by rw [if_neg (show ¬ (false = true) by decide)] at H; exact H
               clear H; have H := H1; clear H1; replace H := Option.bind_eq_some_iff.mp H; obtain ⟨t745, A910, H⟩ := H; replace H : (if t745 = true then (impl_Mount.l1 kj69 a1 ql qa (qa.length : Int) (wrap64 (qc + 1))) else (if ql.length < 3518437208883 then (impl_Mount.l1 kj69 a1 (ql ++ [(⟨((rd_T45 qa qc).f0), ((rd_T45 qa qc).f1), ((rd_T45 qa qc).f2)⟩ : S45)]) qa (qa.length : Int) (wrap64 (qc + 1))) else (none))) = some (r1, r2) := H; have A91 := Aside0.mk A910; clear A910
               by_cases c92 : t745 = true
               ·subst c92
                have H1 : (impl_Mount.l1 kj69 a1 ql qa (qa.length : Int) (wrap64 (qc + 1))) = some (r1, r2) := by rw [if_pos rfl] at H; exact H
                clear H; have H := H1; clear H1; have H' := Aside0.mk H; clear H; have hnb93 := q8.out; have hnc93 := qz.out; have hnb94 := q9.out; have hnc94 := q0.out; have hnb95 := q1.out; have hnc95 := qy.out; have ⟨hcz96_0, hcz96_1, hcz96_2, hfz96_0, hfz96_1, hfz96_2⟩ := Yc3 BK743.out
                go_wp2_with (first | ((with_reducible refine gc 52 rfl ?_); refine gl (some 71) _ (#[.string a1, .string ((rd_T45 qa qc).f0)]) Tryd.func52 ?_; (with_reducible refine (impl_over.calls a1 ((rd_T45 qa qc).f0) true _ A91.out).mono ?_); rintro e w' ⟨rfl, ⟨nd, rfl⟩⟩; refine ⟨_, rfl, ?_⟩))
                go_roundg kj69
                case measure => have := HJ3.out; have := HK2.out; have := HK3.out; have := HJ69.out; omega
                case rel => exact ⟨(ql), (wrap64 (qc + 1)), Ye1, H', ⟨by have := HJ3.out; have := HK2.out; have := HK3.out; have := HJ69.out; omega⟩, ⟨by (with_reducible repeat (first | apply Kd.R_alloc | apply Kd.R_drewN | apply Kd.R_drew)); exact Kd.R_mono qk.out (fun _ hk => trivial)⟩, ⟨bk qd.out⟩, ⟨bk qg.out⟩, ⟨bk qf.out⟩, ⟨be4 HB.out qh.out qi.out qj.out qo.out⟩⟩
               ·replace c92 := Bool.eq_false_iff.mpr c92; subst c92
                have H1 : (if ql.length < 3518437208883 then (impl_Mount.l1 kj69 a1 (ql ++ [(⟨((rd_T45 qa qc).f0), ((rd_T45 qa qc).f1), ((rd_T45 qa qc).f2)⟩ : S45)]) qa (qa.length : Int) (wrap64 (qc + 1))) else (none)) = some (r1, r2) := by rw [if_neg (show ¬ (false = true) by decide)] at H; exact H
                clear H; have H := H1; clear H1
                by_cases c97 : ql.length < 3518437208883
                ·rw [if_pos c97] at H
                 have LMc97 := Aside0.mk c97; clear c97
                 obtain ⟨y746, hy746⟩ : ∃ y_ : List (S45), y_ = (ql ++ [(⟨((rd_T45 qa qc).f0), ((rd_T45 qa qc).f1), ((rd_T45 qa qc).f2)⟩ : S45)]) := ⟨_, rfl⟩
                 replace H : (impl_Mount.l1 kj69 a1 y746 qa (qa.length : Int) (wrap64 (qc + 1))) = some (r1, r2) := by first | (rw [hy746]; with_reducible exact H) | (have H2_ := (Option.bind_some _ _).symm.trans H; rw [hy746]; with_reducible exact H2_) | (have H2_ := (Option.bind_some _ _).symm.trans H; with_reducible exact H2_) | with_reducible exact H | (rw [hy746]; exact H) | exact H
                 have Ny746 := Aside0.mk hy746; clear hy746; have H' := Aside0.mk H; clear H; have hnb98 := q8.out; have hnc98 := qz.out; have hnb99 := q9.out; have hnc99 := q0.out; have hnb100 := q1.out; have hnc100 := qy.out; have ⟨hcz101_0, hcz101_1, hcz101_2, hfz101_0, hfz101_1, hfz101_2⟩ := Yc3 BK743.out
                 go_wp2_with (first | ((with_reducible refine gc 52 rfl ?_); refine gl (some 71) _ (#[.string a1, .string ((rd_T45 qa qc).f0)]) Tryd.func52 ?_; (with_reducible refine (impl_over.calls a1 ((rd_T45 qa qc).f0) false _ A91.out).mono ?_); rintro e w' ⟨rfl, ⟨nd, rfl⟩⟩; refine ⟨_, rfl, ?_⟩) | ((with_reducible refine gate_builtin (b := .append) (xs := #[.tmp 73, .tmp 75]) rfl ?_); at_builtin; refine Kd.R_append k45 (w0 := w) w.heap.size rfl (.tmp 73) (.tmp 75) 27 45 (.agg #[(.string ⟨#[]⟩), (.string ⟨#[]⟩), (.bool false)]) 40 rfl Tryd.underlying27 info45 rfl (by decide) (by omega) u8 ql (⟨((rd_T45 qa qc).f0), ((rd_T45 qa qc).f1), ((rd_T45 qa qc).f2)⟩ : S45) [.string ((rd_T45 qa qc).f0), .string ((rd_T45 qa qc).f1), .bool ((rd_T45 qa qc).f2)] (fun k_ => k_ ≠ qt) (fun _ => False) rfl rfl ?aP (fun _ hk => hk.elim) ?aF ?aO ?aB ?aS ?aL ?_; (case aP => exact k45_mkM _ _ _ (⟨((rd_T45 qa qc).f0), ((rd_T45 qa qc).f1), ((rd_T45 qa qc).f2)⟩ : S45)); (case aB => exact (be4 HB.out qh.out qi.out qj.out qo.out)); (case aF => exact (fun k_ hk => Kd.freshB (g := qt) (o := .cells #[.string ((rd_T45 qa qc).f0), .string ((rd_T45 qa qc).f1), .bool ((rd_T45 qa qc).f2)] 45 (0, 0)) (bk BK743.out) k_ hk)); (case aO => exact (kr qk.out)); (case aS => exact (below_size (be4 HB.out qh.out qi.out qj.out qo.out))); (case aL => have := LMc97.out; omega); intro v747 w102 ho hb hg hat; rw [← Ny746.out] at ho; refine Ya6 (blk_grown (g := gb727) (o := .cells #[.slice (some ad742) qa.length c0_0] 29 (0, 0)) (bk qd.out) hg (Kd.R_ne qk.out qd.out (by decide))) (blk_grown (g := gb728) (o := .cells #[.slice A2_0 qb.length c2_0] 29 (0, 0)) (bk qg.out) hg (Kd.R_ne qk.out qg.out (by decide))) (blk_grown (g := qp) (o := .cells #[.slice none 0 0] 29 (0, 0)) (bk qf.out) hg (Kd.R_ne qk.out qf.out (by decide))) (blk_grown (g := qt) (o := .cells #[.string ((rd_T45 qa qc).f0), .string ((rd_T45 qa qc).f1), .bool ((rd_T45 qa qc).f2)] 45 (0, 0)) (bk BK743.out) hg (Kd.R_away qk.out (fun _ hk => hk))) (hb) (ho) ?_; clear qd qg qf BK743 HB qk; intro qd qg qf BK743 HB HO748; clear ho hb hg hat))
                 go_roundg kj69
                 case measure => have := HJ3.out; have := HK2.out; have := HK3.out; have := HJ69.out; omega
                 case rel => exact ⟨(y746), (wrap64 (qc + 1)), Ye1, H', ⟨by have := HJ3.out; have := HK2.out; have := HK3.out; have := HJ69.out; omega⟩, ⟨by (with_reducible repeat (first | apply Kd.R_alloc | apply Kd.R_drewN | apply Kd.R_drew)); exact Kd.R_mono HO748.out (fun _ hk => trivial)⟩, ⟨bk qd.out⟩, ⟨bk qg.out⟩, ⟨bk qf.out⟩, ⟨be4 HB.out qh.out qi.out qj.out qo.out⟩⟩
                ·rw [if_neg c97] at H
                 exact absurd H (by simp)
           ·rw [if_neg c69] at H
            exact absurd H (by simp)
          ·rw [if_neg c68] at H
           exact absurd H (by simp)
         ·rw [if_neg c67] at H
          have c67b0 : decide (qc < (qa.length : Int)) = false := decide_eq_false c67; clear c67
          by_cases c103 : (ql.length : Int) > 100
          ·rw [if_pos c103] at H
           have c103b0 : decide (100 < (ql.length : Int)) = true := decide_eq_true c103; have c103b1 : decide (100 < ql.length) = true := decide_eq_true (by omega); clear c103; simp only [Option.some.injEq, Prod.mk.injEq] at H; obtain ⟨rfl, rfl⟩ := H; obtain ⟨Ao104, co104, eo104⟩ := Kd.R_slice qk.out; subst eo104; have hnb105 := qv.out; have hnc105 := qu.out; have hnb106 := qx.out; have hnc106 := qw.out; have ⟨hcz107_0, hfz107_0⟩ := Yc1 qf.out
           go_wp2
           refine bodyPost_ret (results_ct rfl _ _ qp 29 #[.slice none 0 0] (0, 0) _ rfl (by (with_reducible repeat (first | apply blk_drewN | apply blk_drew | apply blk_alloc)); refine blk_put (cs := #[.slice none 0 0]) ?_ 0 _ rfl; (with_reducible repeat (first | apply blk_drewN | apply blk_drew | apply blk_alloc)); exact qf.out) Tryd.underlying29 rfl (by kernel_rfl)) rfl ?_; exact ⟨_, Ye2, nl, (by first | exact be3 HB.out qh.out qi.out qj.out | exact be2 HB.out qh.out qi.out | exact be1 HB.out qh.out)⟩
          ·rw [if_neg c103] at H
           have c103b0 : decide (100 < (ql.length : Int)) = false := decide_eq_false c103; have c103b1 : decide (100 < ql.length) = false := decide_eq_false (by omega); clear c103; replace H := Option.bind_eq_some_iff.mp H; obtain ⟨t739, A1080, H⟩ := H; replace H : (some (t739, 0)) = some (r1, r2) := H; have A108 := Aside0.mk A1080; clear A1080; simp only [Option.some.injEq, Prod.mk.injEq] at H; obtain ⟨rfl, rfl⟩ := H; obtain ⟨Ao109, co109, eo109⟩ := Kd.R_slice qk.out; subst eo109
           go_wp2_with (first | ((with_reducible refine gc 73 rfl ?_); refine gl (some 83) _ (#[.slice Ao109 ql.length co109]) Tryd.func73 ?_; (with_reducible refine (impl_sorted.calls (fun k_ => some k_ = (.slice Ao109 ql.length co109 : Value).ownBlock) (.slice Ao109 ql.length co109) ql t739 w _ ?side1 ?side2 A108.out).mono ?_); (case side1 => repeat (first | (with_reducible first | exact HB.out | apply below_alloc | apply pw_below_drewN | apply below_drew1 | refine below_set ?_ qh.out | refine below_set ?_ qi.out | refine below_set ?_ qj.out) | exact HB.out)); (case side2 => exact Kd.R_tight rfl qk.out); rintro e w110 ⟨v740, rfl, ho0, hb, hkp⟩; refine ⟨_, rfl, ?_⟩; refine Ya5 (blk_kept (bk qd.out) hkp (fun hs_ => (fun e_ => (Kd.R_ne qk.out qd.out (by decide)) e_) hs_)) (blk_kept (bk qg.out) hkp (fun hs_ => (fun e_ => (Kd.R_ne qk.out qg.out (by decide)) e_) hs_)) (blk_kept (bk qf.out) hkp (fun hs_ => (fun e_ => (Kd.R_ne qk.out qf.out (by decide)) e_) hs_)) (Kd.R_mono (ok' := fun k_ => True) ho0 (fun k_ hk_ => trivial)) (hb) ?_; clear qd qg qf HB qk; intro qd qg qf HO741 HB; (try clear hb); (try clear hkp); (try clear ho0); obtain ⟨Ao111, co111, eo111⟩ := Kd.R_slice HO741.out; subst eo111; have hnb112 := qv.out; have hnc112 := qu.out; have hnb113 := qx.out; have hnc113 := qw.out; have ⟨hcz114_0, hfz114_0⟩ := Yc1 qf.out))
           refine bodyPost_ret (results_ct rfl _ _ qp 29 #[.slice Ao111 t739.length co111] (0, 0) _ rfl (by (with_reducible repeat (first | apply blk_drewN | apply blk_drew | apply blk_alloc)); refine blk_put (cs := #[.slice none 0 0]) ?_ 0 _ rfl; (with_reducible repeat (first | apply blk_drewN | apply blk_drew | apply blk_alloc)); exact qf.out) Tryd.underlying29 rfl (by kernel_rfl)) rfl ?_; exact ⟨_, Ye2, by (with_reducible repeat (first | apply Kd.R_alloc | apply Kd.R_drewN | apply Kd.R_drew)); exact Kd.R_mono (Kd.R_far (p := ⟨qp, 0, none⟩) (Kd.R_types HO741.out qf.out (by decide)) (fun _ hk => hk.2) (.slice Ao111 t739.length co111)) (fun _ hk => trivial), (by first | exact be3 HB.out qh.out qi.out qj.out | exact be2 HB.out qh.out qi.out | exact be1 HB.out qh.out)⟩

end Go.Proofs.YtkdghhkpmkfjhaaDoor.P

