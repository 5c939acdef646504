/- Several texts of this claim in one file: YtkdghhkpmkfjhaaDoorPImplSorted, YtkdghhkpmkfjhaaDoorPImplEntry65, YtkdghhkpmkfjhaaDoorPImplEntry66, YtkdghhkpmkfjhaaDoorPImplRemove, YtkdghhkpmkfjhaaDoorPLawsFnExactRemove. -/
import Derived.Test.YtkdghhkpmkfjhaaDoorM3
import Derived.Test.YtkdghhkpmkfjhaaDoorM4
import Derived.Test.YtkdghhkpmkfjhaaDoorM7
import Derived.Deep.QuietTactic
import Derived.Shelf.SlSortFuncK.WholeK
import Derived.Shelf.GgSortFunc.Tiny
import Derived.Deep.RegionLaw
import Derived.Lib.SliceRun
import Derived.Shelf.Slices.Delete
import Derived.Laws.AppendOwn
import Derived.Shelf.Slices.Clone
import Derived.Test.YtkdghhkpmkfjhaaDoorM5
import Derived.Test.YtkdghhkpmkfjhaaDoorM6
namespace Go.Proofs.YtkdghhkpmkfjhaaDoor.P
open Go.RowKit Go.Proofs.YtkdghhkpmkfjhaaDoorW.PrintWords Go.Proofs.YtkdghhkpmkfjhaaDoorW.PrintLast Go.Proofs.YtkdghhkpmkfjhaaDoorW.PrintMore
attribute [local go_sem] max2_int min2_int max_two min_two max_three min_three max_four min_four
set_option linter.unusedVariables false
set_option linter.unusedSimpArgs false

/-! ### impl_sorted: function 73 -/
/- Walked by hand. -/
open Go.Proofs.YtkdghhkpmkfjhaaDoor.Pure
def impl_sorted.f (l0 : List S45) : Option (List S45) := if l0.length < 4611686018427387904 ∧ Apart l0 then some (sortE l0) else none
instance : Inhabited S45 := ⟨z45⟩
def impl_sorted.enc (x : S45) : List Value := [.string x.f0, .string x.f1, .bool x.f2]
def impl_sorted.lt (x y : S45) : Bool := Op.bytesLess x.f0.toList y.f0.toList
theorem impl_sorted.swo : Go.Sort.SWO impl_sorted.lt where
 irrefl x := less_irrefl _
 trans x y z h1 h2 := less_trans _ _ _ h1 h2
 ntrans x y z h1 h2 := by
  unfold impl_sorted.lt at *
  rw [← Bool.not_eq_true]
  intro h3
  by_cases e1 : x.f0.toList = y.f0.toList
  ·rw [e1] at h3
   exact absurd h3 (by rw [h2]; simp)
  ·have := less_trans _ _ _ (less_or h1 e1) h3
   exact absurd this (by show ¬ Op.bytesLess y.f0.toList z.f0.toList = true; rw [h2]; simp)
section
variable {w : World} {g n : Nat} {os : Array Obj} {cur : Array Value} {e : TypeId} {fr : Nat × Nat}
theorem impl_sorted.heap_put (d : Array Value) (hb : w.heap[g]? = some (.cells cur e fr)) : (Sort.grow (Sort.putRow id (Sort.ahead w n) g 0 d) os).heap[g]? = some (.cells (Sort.putCells id 0 d cur) e fr) := by
 have hg : g < w.heap.size := (Array.getElem?_eq_some_iff.1 hb).1
 rw [Sort.heap_grow_old _ _ (by simpa using hg)]
 simp [Sort.putRow, Sort.mapBlock, Sort.ahead, Array.getElem?_modify, hb, Sort.onCells]
theorem impl_sorted.grown (d : Array Value) : w.grownBy (Sort.grow (Sort.putRow id (Sort.ahead w n) g 0 d) os) (some g) := by
 refine ⟨rfl, rfl, rfl, by simp, fun k hk hne => ?_⟩
 rw [Sort.heap_grow_old _ _ (by simpa using hk)]
 have : g ≠ k := fun e => hne (by rw [e])
 simp [Sort.putRow, Sort.mapBlock, Sort.ahead, Array.getElem?_modify, this]
theorem impl_sorted.take_put (cur : Array Value) (ts : List Value) (h : ts.length ≤ cur.size) : (Sort.putCells id 0 ts.toArray cur).toList.take ts.length = ts := by
 apply List.ext_getElem?
 intro j
 by_cases hj : j < ts.length
 ·rw [List.getElem?_take_of_lt hj, Array.getElem?_toList]
  simp [Sort.putCells, hj, show j < cur.size by omega]
 ·rw [List.getElem?_take_eq_none (by omega), List.getElem?_eq_none (by omega)]
end
theorem impl_sorted.flat_get (l : List S45) (j : Nat) (x : S45) (h : l[j]? = some x) : ((Sort.flatK impl_sorted.enc 3 l.toArray).toList.drop (j * 3)).take 3 = impl_sorted.enc x := by
 have hj := (List.getElem?_eq_some_iff.1 h).1
 have hx : l.toArray[j]! = x := by
  rw [getElem!_pos l.toArray j (by simpa using hj)]
  simpa using (List.getElem?_eq_some_iff.1 h).2
 apply List.ext_getElem?
 intro c
 by_cases hc : c < 3
 ·rw [List.getElem?_take_of_lt hc, List.getElem?_drop, Array.getElem?_toList]
  have hlt : j * 3 + c < l.toArray.size * 3 := by
   simp only [List.size_toArray]
   omega
  have := Sort.get_flatK impl_sorted.enc 3 l.toArray (j * 3 + c) hlt
  rw [getElem!_pos _ _ (by simpa using hlt)] at this
  rw [Array.getElem?_eq_getElem (by simpa using hlt), this, show (j * 3 + c) / 3 = j from by omega, show (j * 3 + c) % 3 = c from by omega, hx]
  rw [getElem!_pos (impl_sorted.enc x) c hc, List.getElem?_eq_getElem (show c < (impl_sorted.enc x).length from hc)]
  rfl
 ·rw [List.getElem?_take_eq_none (by omega), List.getElem?_eq_none (by show 3 ≤ c; omega)]
theorem impl_sorted.flat_of (l : List S45) {cs : List Value} (h : Reps (fun x c => c = impl_sorted.enc x) 3 l cs) : cs = (Sort.flatK impl_sorted.enc 3 l.toArray).toList := by
 apply List.ext_getElem?
 intro t
 by_cases ht : t < l.length * 3
 ·have hj : t / 3 < l.length := by omega
  obtain ⟨x, hx⟩ : ∃ x, l[t / 3]? = some x := ⟨_, List.getElem?_eq_getElem hj⟩
  have h1 := h.2 _ x hx
  have h2 := impl_sorted.flat_get l _ x hx
  have h3 : ((cs.drop (t / 3 * 3)).take 3)[t % 3]? = (((Sort.flatK impl_sorted.enc 3 l.toArray).toList.drop (t / 3 * 3)).take 3)[t % 3]? := by rw [h1, h2]
  rw [List.getElem?_take_of_lt (by omega), List.getElem?_take_of_lt (by omega), List.getElem?_drop, List.getElem?_drop, show t / 3 * 3 + t % 3 = t from by omega] at h3
  exact h3
 ·rw [List.getElem?_eq_none (by rw [h.1]; omega), List.getElem?_eq_none (by simp; omega)]
theorem impl_sorted.reps_flat (w : World) (base : Nat) (ok : Nat → Prop) (l : List S45) : Reps (k45.M w base ok) 3 l (Sort.flatK impl_sorted.enc 3 l.toArray).toList := by
 refine ⟨by simp, fun j x hx => ?_⟩
 rw [impl_sorted.flat_get l j x hx]
 exact k45_mkM w base ok x
/-- What a row of entries of one's own is, cell by cell. -/
theorem impl_sorted.opened {w : World} {base : Nat} {ok : Nat → Prop} {v : Value} {l : List S45} (h : Kd.R k45 45 w base ok v l) : w.ownsRow base 45 3 v l.length (Sort.flatK impl_sorted.enc 3 l.toArray).toList := by
 obtain ⟨_, inner, ho, hr⟩ := h
 have hr' : Reps (fun x c => c = impl_sorted.enc x) 3 l inner := hr.imp_ (fun x c hc => k45_openM hc)
 rw [← impl_sorted.flat_of l hr']
 exact ho
theorem impl_sorted.holds {w : World} {g cap n : Nat} {base : Nat} {l : List S45} (h : w.ownsRow base 45 3 (.slice (some ⟨g, 0, none⟩) n cap) l.length (Sort.flatK impl_sorted.enc 3 l.toArray).toList) : Sort.HoldsK impl_sorted.enc 3 w g 0 l.toArray := by
 rcases h.2 with ⟨h0, _⟩ | ⟨g', cap', cur, hv, hbase, hb, h1, h2, h3, h4⟩
 ·cases h0
 injection hv with hv _ _
 injection hv with hv
 injection hv with hv
 subst hv
 intro j hj
 have hj' : j < l.length * 3 := by simpa using hj
 refine ⟨?_, by simp [World.frozen?, hb]⟩
 have h5 : (cur.toList.take (l.length * 3))[j]? = (Sort.flatK impl_sorted.enc 3 l.toArray).toList[j]? := by rw [h4]
 rw [List.getElem?_take_of_lt hj', Array.getElem?_toList, Array.getElem?_toList, Array.getElem?_eq_getElem hj] at h5
 rw [Nat.zero_add, blk_cell hb j, h5]
 show some _ = some ((Sort.flatK impl_sorted.enc 3 l.toArray)[j]!)
 rw [getElem!_pos (Sort.flatK impl_sorted.enc 3 l.toArray) j hj]
noncomputable def impl_sorted.svT : TypeInfo := (Tryd.prog.info? 27).get (by kernel_rfl)
noncomputable def impl_sorted.svE : TypeInfo := (Tryd.prog.info? 45).get (by kernel_rfl)
theorem impl_sorted.svK (n : Nat) (h2 : 2 ≤ n) : Go.Lib.swapperK n impl_sorted.svE 25 = 9 := by
 have a : impl_sorted.svE.hasPointers = true := by kernel_rfl
 have b : impl_sorted.svE.bytes = 40 := by kernel_rfl
 have c : (n == 0) = false := by simp; omega
 have d : (n == 1) = false := by simp; omega
 simp [Go.Lib.swapperK, a, b, c, d]
set_option maxHeartbeats 2000000 in
theorem impl_sorted.less_calls (blk off c Bs size : Nat) (W : World) (G : Nat → ByteArray) (hs : W.cell? ⟨Bs, 0, none⟩ = some (.slice (some ⟨blk, off, none⟩) size c))
  (hc : ∀ t, t < size → W.cell? ⟨blk, off + t * 3, none⟩ = some (.string (G t))) (i j : Nat) (hi : i < size) (hj : j < size) (_hsz : size < 4611686018427387904) :
  Calls Tryd.prog 91 #[.int .i64 i, .int .i64 j, .pointer (some ⟨Bs, 0, none⟩)] W fun e w' => e = .returned (.bool (Op.bytesLess (G i).toList (G j).toList)) ∧ ∃ q, w' = W.drewN q := by
 have ci := hc i hi
 have cj := hc j hj
 have hu45 := Tryd.underlying45
 have hu27 := Tryd.underlying27
 clear hc
 go_enter Tryd.func91, Tryd.ntmps91
 go_wp2
 go_quiet (fail)
 go_wp2
 go_ret
 exact ⟨rfl, nq, rfl⟩
theorem impl_sorted.sort_calls (blk c Bs : Nat) (d : Array S45) (h2 : 2 ≤ d.size) (hsz : d.size < 4611686018427387904) (w : World) (hH : Sort.HoldsK impl_sorted.enc 3 w blk 0 d) (hblk : blk < w.heap.size)
  (hBs : w.cell? ⟨Bs, 0, none⟩ = some (.slice (some ⟨blk, 0, none⟩) d.size c)) (hB1 : Bs < w.heap.size) (hB2 : Bs ≠ blk) :
  Calls Tryd.prog 90 #[.iface 27 (.slice (some ⟨blk, 0, none⟩) d.size c), .func (.func 91) #[] #[.pointer (some ⟨Bs, 0, none⟩)]] w fun e w' =>
   e = .returned (.tuple #[]) ∧ ∃ d' n os, Sort.PermIn 0 d.size d d' ∧ Sort.SortedIn impl_sorted.lt 0 d.size d' ∧ w' = Sort.grow (Sort.putRowK impl_sorted.enc 3 (Sort.ahead w n) blk 0 d') os := by
 have hless : LessReadsK Tryd.prog 91 #[.pointer (some ⟨Bs, 0, none⟩)] impl_sorted.enc 3 impl_sorted.lt blk 0 d.size w := by
  intro m os dk hs i j hi hj
  have e : sortWorldK impl_sorted.enc 3 w blk 0 m dk os = Sort.putRowK impl_sorted.enc 3 (Sort.grow (Sort.ahead w m) os) blk 0 dk := by
   unfold sortWorldK; rw [Sort.putRowK_grow _ _ (Sort.ahead w m) _ blk 0 _ hblk]
  have hHg : Sort.HoldsK impl_sorted.enc 3 (Sort.grow (Sort.ahead w m) os) blk 0 d := Sort.holdsK_grow _ _ _ _ blk 0 d hblk (Sort.holdsK_ahead _ _ _ _ _ _ _ hH)
  refine impl_sorted.less_calls blk 0 c Bs d.size _ (fun t => dk[t]!.f0) ?_ (fun t ht => ?_) i j hi hj (by omega)
  ·rw [e, Sort.cell?_putRowK_other _ _ _ blk 0 dk _ (by exact hB2), Sort.cell?_grow _ _ _ (by exact hB1)]; exact hBs
  ·rw [e]; exact ((Sort.holdsK_putRowK _ _ _ blk 0 d dk hHg hs).cell (i := t) (c := 0) (by omega) (by omega)).1
 exact Any.sort_Slice_cells_sorted Tryd.laysGg6 27 45 impl_sorted.svT impl_sorted.svE (by kernel_rfl) (by kernel_rfl) (by kernel_rfl) (by kernel_rfl) 25 (fun _ => by kernel_rfl) impl_sorted.enc 3 (fun _ => rfl) (by kernel_rfl) (fun _ => by kernel_rfl)
  (fun x v hv => by simp [impl_sorted.enc] at hv; rcases hv with rfl | rfl | rfl <;> rfl) impl_sorted.lt impl_sorted.swo 91 _
  (enters_of Tryd.func91 (by kernel_rfl) rfl) blk 0 c d h2 hsz 121 (by rw [impl_sorted.svK _ h2]; kernel_rfl) false
  (fun args W => run_callFunc_extern Tryd.func121 (by kernel_rfl) (by kernel_rfl) (by kernel_rfl) (e := Extern.ReflectliteSwapper.swap false) (by kernel_rfl) args W) w hless hH hblk
theorem impl_sorted.tiny_calls (p : Option Addr) (n c Bs : Nat) (h1 : n ≤ 1) (w : World) :
  Calls Tryd.prog 90 #[.iface 27 (.slice p n c), .func (.func 91) #[] #[.pointer (some ⟨Bs, 0, none⟩)]] w fun e w' => e = .returned (.tuple #[]) ∧ ∃ os, w' = Sort.grow w os := by
 have : n = 0 ∨ n = 1 := by omega
 rcases this with rfl | rfl
 ·exact Any.sort_Slice_tiny Tryd.laysGg6 27 45 impl_sorted.svT impl_sorted.svE (by kernel_rfl) (by kernel_rfl) (by kernel_rfl) (by kernel_rfl) 25 (fun _ => by kernel_rfl) p 0 c (by omega) 113 (by kernel_rfl) _ _ _ w
 ·exact Any.sort_Slice_tiny Tryd.laysGg6 27 45 impl_sorted.svT impl_sorted.svE (by kernel_rfl) (by kernel_rfl) (by kernel_rfl) (by kernel_rfl) 25 (fun _ => by kernel_rfl) p 1 c (by omega) 114 (by kernel_rfl) _ _ _ w
theorem impl_sorted.grown_cell (W : World) (b : Nat) (v : Value) : W.grownBy (W.setCell ⟨b, 0, none⟩ v) (some b) :=
 ⟨rfl, rfl, rfl, by simp, fun i _ hne => Below.heap_setCell W ⟨b, 0, none⟩ v i (fun e => hne (by rw [e]))⟩
theorem impl_sorted.sort_one : ∀ l : List S45, l.length ≤ 1 → sortE l = l
 | [], _ => rfl
 | [_], _ => rfl
 | _ :: _ :: _, h => by simp at h
theorem impl_sorted.grow_below (w : World) (os : Array Obj) : Below w.heap.size w (Sort.grow w os) := ⟨rfl, rfl, rfl, by simp [Sort.grow], fun k hk => Sort.heap_grow_old w os hk⟩
theorem impl_sorted.sorted_of {l : List S45} {d' : Array S45} (ha : Apart l) (hp : Sort.PermIn 0 l.toArray.size l.toArray d') (hs : Sort.SortedIn impl_sorted.lt 0 l.toArray.size d') : d' = (sortE l).toArray := by
 obtain ⟨h1, _, h2⟩ := hp
 rw [← h1, Array.extract_size, h1, Array.extract_size] at h2
 have hd : d'.toList = sortE l := by
  refine sortE_of ha (by simpa using h2) ?_
  rw [List.pairwise_iff_getElem]
  intro i j hi hj hij
  have hi' : i < d'.size := by simpa using hi
  have hj' : j < d'.size := by simpa using hj
  have := hs i j (Nat.zero_le _) hij (by rw [← h1]; exact hj')
  rw [getElem!_pos d' i hi', getElem!_pos d' j hj'] at this
  exact this
 rw [← hd]
/-- What the sort leaves of the row. -/
theorem impl_sorted.row_of {w w2 : World} {base g cap n : Nat} {os : Array Obj} {ok : Nat → Prop} {l d : List S45} (h : Kd.R k45 45 w2 base ok (.slice (some ⟨g, 0, none⟩) l.length cap) l) (hl : d.length = l.length) :
  Kd.R k45 45 (Sort.grow (Sort.putRowK impl_sorted.enc 3 (Sort.ahead w2 n) g 0 d.toArray) os) base ok (.slice (some ⟨g, 0, none⟩) l.length cap) d ∧ w2.grownBy (Sort.grow (Sort.putRowK impl_sorted.enc 3 (Sort.ahead w2 n) g 0 d.toArray) os) (some g) := by
 have ho := impl_sorted.opened h
 refine ⟨⟨h.1, (Sort.flatK impl_sorted.enc 3 d.toArray).toList, ?_, impl_sorted.reps_flat _ _ _ d⟩, impl_sorted.grown _⟩
 rcases ho.2 with ⟨h0, _⟩ | ⟨g', cap', cur, hv, hbase, hb, h1, h2, h3, h4⟩
 ·cases h0
 injection hv with hv _ hcap
 injection hv with hv
 injection hv with hv
 subst hv
 subst hcap
 refine ⟨by rw [show (k45).sz = 3 from rfl]; simp [hl], .inr ⟨g, cap, _, by rw [hl], hbase, impl_sorted.heap_put _ hb, by rw [hl]; exact h1, h2, by rw [show (k45).sz = 3 from rfl]; simp [Sort.putCells, h3], ?_⟩⟩
 have hlen : (Sort.flatK impl_sorted.enc 3 d.toArray).toList.length = d.length * 3 := by simp
 have := impl_sorted.take_put cur (Sort.flatK impl_sorted.enc 3 d.toArray).toList (by rw [hlen, hl, h3]; exact Nat.mul_le_mul_right 3 h1)
 rw [hlen] at this
 exact this
set_option maxHeartbeats 2000000 in
set_option maxRecDepth 100000 in
theorem impl_sorted.calls (P0_ : Nat → Prop) (u9000_ : Value) (l0 : List S45) (r : List S45) (w0 w : World) (hB : Below w0.heap.size w0 w) (ho0 : Kd.R k45 45 w w0.heap.size P0_ u9000_ l0) (h : impl_sorted.f l0 = some r) :
  Calls Tryd.prog 73 #[u9000_] w fun e w' => ∃ v0_ : Value, e = .returned (.agg #[v0_]) ∧ Kd.R k45 45 w' w0.heap.size (fun k_ => (P0_ k_ ∨ w.heap.size ≤ k_)) v0_ r ∧ Below w0.heap.size w0 w' ∧ Kept w w' (fun k_ => P0_ k_) := by
 have hu27 := Tryd.underlying27
 have hu29 := Tryd.underlying29
 unfold impl_sorted.f at h
 split at h
 ·rename_i hc
  obtain rfl := Option.some.inj h
  have HC := Aside0.mk hc
  clear h hc
  obtain ⟨A, c, rfl⟩ := Kd.R_slice ho0
  have HO := Aside0.mk ho0
  have HB := Aside0.mk (Below.refl w.heap.size w)
  have HB0 := Aside0.mk hB
  clear ho0 hB
  by_cases h2 : l0.length ≤ 1
  ·have ht := fun Bs W => impl_sorted.tiny_calls A l0.length c Bs h2 W
   have HT := Aside0.mk ht
   have hs1 := impl_sorted.sort_one l0 h2
   rw [hs1]
   clear h2 ht hs1
   go_enter Tryd.func73, Tryd.ntmps73
   go_wp2_with (first | ((with_reducible refine gd 1 rfl ?_); refine bx 1 27 (#[.slice A l0.length c]) ?_; intro b1 hg w1 hbox hb; refine Ya3 hbox (below_step (be HB.out) hb) (bs hg (be HB.out)) ?_; clear HB; intro B1 HB G1; clear hb hbox hg; have ⟨hcz1, hfz1⟩ := Yc1 B1.out) | ((with_reducible refine gd 2 rfl ?_); refine bx 2 29 (#[.slice none 0 0]) ?_; intro b2 hg w2 hbox hb; refine Ya4 hbox (below_step (be HB.out) hb) (bs hg (be HB.out)) (bb B1 hb) ?_; clear HB B1; intro B2 HB G2 B1; clear hb hbox hg hcz1 hfz1; have ⟨hcz1, hfz1⟩ := Yc1 B1.out; have ⟨hcz2, hfz2⟩ := Yc1 B2.out) | (go_at_call 90; (with_reducible refine (HT.out _ _).mono ?_); rintro e w' ⟨rfl, os, rfl⟩; have hb3 := impl_sorted.grow_below w2 os; refine Ya3 (bb B2 hb3) (below_step (be HB.out) hb3) (bb B1 hb3) ?_; clear HB B1 B2 hcz1 hfz1 hcz2 hfz2 hb3; intro B2 HB B1; generalize Sort.grow w2 os = w3 at B1 B2 HB ⊢; have ⟨hcz1, hfz1⟩ := Yc1 B1.out; have ⟨hcz2, hfz2⟩ := Yc1 B2.out))
   refine bodyPost_ret (results_cell_row rfl _ _ b2 29 #[.slice A l0.length c] (0, 0) _ rfl (by refine blk_put (cs := #[.slice none 0 0]) ?_ 0 _ rfl; exact B2.out) Tryd.underlying29 rfl (by kernel_rfl)) rfl ?_
   have hb : Below w.heap.size w (w3.setCell ⟨b2, 0, none⟩ (.slice A l0.length c)) := be1 HB.out G2.out
   exact ⟨_, rfl, Kd.R_mono (Kd.R_below HO.out hb) (fun k_ hk => .inl hk), below_then HB0.out HB0.out.size hb, hb.size, fun i hi _ => hb.block i hi⟩
  ·obtain ⟨g, cap, hv, hbase, hlt, cells, hcell⟩ := Kd.R_form HO.out (by omega)
   injection hv with hA _ hcap
   subst hA
   subst hcap
   have HG := Aside0.mk (show w0.heap.size ≤ g ∧ g < w.heap.size ∧ w.heap[g]? = some (.cells cells 45 (0, 0)) from ⟨hbase, hlt, hcell⟩)
   have H2 := Aside0.mk (show 2 ≤ l0.toArray.size from by simp; omega)
   clear h2 hbase hlt hcell
   go_enter Tryd.func73, Tryd.ntmps73
   go_wp2_with (first | ((with_reducible refine gd 1 rfl ?_); refine bx 1 27 (#[.slice (some ⟨g, 0, none⟩) l0.length c]) ?_; intro b1 hg w1 hbox hb; refine Ya3 hbox (below_step (be HB.out) hb) (bs hg (be HB.out)) ?_; clear HB; intro B1 HB G1; clear hb hbox hg; have ⟨hcz1, hfz1⟩ := Yc1 B1.out) | ((with_reducible refine gd 2 rfl ?_); refine bx 2 29 (#[.slice none 0 0]) ?_; intro b2 hg w2 hbox hb; refine Ya4 hbox (below_step (be HB.out) hb) (bs hg (be HB.out)) (bb B1 hb) ?_; clear HB B1; intro B2 HB G2 B1; clear hb hbox hg hcz1 hfz1; have ⟨hcz1, hfz1⟩ := Yc1 B1.out; have ⟨hcz2, hfz2⟩ := Yc1 B2.out) | (go_at_call 90; have HS := impl_sorted.sort_calls g c b1 l0.toArray H2.out (by simpa using HC.out.1) w2 (impl_sorted.holds (impl_sorted.opened (Kd.R_below HO.out HB.out))) (Nat.lt_of_lt_of_le HG.out.2.1 HB.out.size) (by simpa using hcz1) (blk_lt B1.out) (by have := HG.out.2.1; have := G1.out; omega); rw [List.size_toArray] at HS; (with_reducible refine HS.mono ?_); rintro e w' ⟨rfl, d', nd, os, hp, hs, rfl⟩; obtain rfl := impl_sorted.sorted_of HC.out.2 (by simpa using hp) (by simpa using hs); clear HS hp hs; have hl2 : (sortE l0).length = l0.length := (sortE_perm l0).length_eq; have ⟨hrow, hgrow⟩ := impl_sorted.row_of (w := w2) (Kd.R_below HO.out HB.out) (n := nd) (os := os) (d := sortE l0) hl2; generalize Sort.grow (Sort.putRowK impl_sorted.enc 3 (Sort.ahead w2 nd) g 0 (sortE l0).toArray) os = w3 at hrow hgrow ⊢; have hn1 : some b1 ≠ some g := (by have := HG.out.2.1; have := G1.out; intro e; injection e; omega); have hn2 : some b2 ≠ some g := (by have := HG.out.2.1; have := G2.out; intro e; injection e; omega); have hcz1' := Yc1 (blk_grown B1.out hgrow hn1); have B2' := Aside0.mk (blk_grown B2.out hgrow hn2); have HN2 := Aside0.mk hn2; have HR := Aside0.mk hrow; have HW := Aside0.mk hgrow; clear hcz1 hfz1 hcz2 hfz2 hrow hgrow hn1 hn2; have ⟨hcz1, hfz1⟩ := hcz1'; clear hcz1'; have ⟨hcz2, hfz2⟩ := Yc1 B2'.out))
   refine bodyPost_ret (results_cell_row rfl _ _ b2 29 #[.slice (some ⟨g, 0, none⟩) l0.length c] (0, 0) _ rfl (by refine blk_put (cs := #[.slice none 0 0]) ?_ 0 _ rfl; exact B2'.out) Tryd.underlying29 rfl (by kernel_rfl)) rfl ?_
   have hset := impl_sorted.grown_cell w3 b2 (.slice (some ⟨g, 0, none⟩) l0.length c)
   have h2w : w.heap.size ≤ b2 := G2.out
   have h3w : w2.heap.size ≤ w3.heap.size := HW.out.size
   have hbw := below_then HB0.out HB0.out.size HB.out
   have hszB : w0.heap.size ≤ w2.heap.size := hbw.size
   have hgB := HG.out.1
   have h0w := HB0.out.size
   refine ⟨_, rfl, Kd.R_mono (Kd.R_grown1 HR.out rfl hset (fun e => HN2.out e)) (fun k_ hk => .inl hk), pw_below_grown (pw_below_grown hbw (some g) hszB HW.out (fun k hk => ?_)) (some b2) (by omega) hset (fun k hk => ?_), ?_, fun i hi hP => ?_⟩
   ·injection hk with hk; omega
   ·injection hk with hk; omega
   ·have := HB.out.size; have := hset.size; omega
   ·have hig : i ≠ g := (by rintro rfl; exact hP (HO.out.1 _ rfl))
    have hw := HB.out.size
    rw [hset.block i (by omega) (by intro e; injection e; omega), HW.out.block i (by omega) (by intro e; injection e; omega), HB.out.block i hi]
 ·cases h


end Go.Proofs.YtkdghhkpmkfjhaaDoor.P


namespace Go.Proofs.YtkdghhkpmkfjhaaDoor.P
open Go.RowKit Go.Proofs.YtkdghhkpmkfjhaaDoorW.PrintWords Go.Proofs.YtkdghhkpmkfjhaaDoorW.PrintLast Go.Proofs.YtkdghhkpmkfjhaaDoorW.PrintMore
attribute [local go_sem] max2_int min2_int max_two min_two max_three min_three max_four min_four
set_option linter.unusedVariables false
set_option linter.unusedSimpArgs false

/-! ### impl_Entry_65: function 65 -/
/- Walked by hand. -/
def impl_Entry_65.f (l0 : List S45) (a1 : Int) (a2 : Int) : Option (List S45) := if 0 ≤ a1 ∧ a2 = a1 + 1 ∧ a1 < (l0.length : Int) ∧ l0.length ≤ 1000000 then some (l0.eraseIdx a1.toNat) else none
def impl_Entry_65.many : Array Value → Nat → List Value → Array Value
 | cur, _, [] => cur
 | cur, o, v :: vs => impl_Entry_65.many (cur.setIfInBounds o v) (o + 1) vs
theorem impl_Entry_65.many_size : ∀ (vs : List Value) (o : Nat) (cur : Array Value), (impl_Entry_65.many cur o vs).size = cur.size
 | [], _, _ => rfl
 | v :: vs, o, cur => by
  show (impl_Entry_65.many (cur.setIfInBounds o v) (o + 1) vs).size = _
  rw [impl_Entry_65.many_size vs (o + 1) _]
  simp
theorem impl_Entry_65.many_out : ∀ (vs : List Value) (o : Nat) (cur : Array Value) (t : Nat), t < o ∨ o + vs.length ≤ t → (impl_Entry_65.many cur o vs)[t]? = cur[t]?
 | [], _, _, _, _ => rfl
 | v :: vs, o, cur, t, h => by
  rw [List.length_cons] at h
  show (impl_Entry_65.many (cur.setIfInBounds o v) (o + 1) vs)[t]? = _
  rw [impl_Entry_65.many_out vs (o + 1) _ t (by omega), Array.getElem?_setIfInBounds_ne (by omega)]
theorem impl_Entry_65.many_in : ∀ (vs : List Value) (o : Nat) (cur : Array Value) (t : Nat), o ≤ t → t < o + vs.length → o + vs.length ≤ cur.size → (impl_Entry_65.many cur o vs)[t]? = vs[t - o]?
 | [], o, _, t, h1, h2, _ => by
  simp at h2
  omega
 | v :: vs, o, cur, t, h1, h2, h3 => by
  rw [List.length_cons] at h2 h3
  show (impl_Entry_65.many (cur.setIfInBounds o v) (o + 1) vs)[t]? = _
  by_cases he : t = o
  ·subst he
   rw [impl_Entry_65.many_out vs (t + 1) _ t (by omega), Array.getElem?_setIfInBounds_self_of_lt (by omega), Nat.sub_self]
   rfl
  ·rw [impl_Entry_65.many_in vs (o + 1) _ t (by omega) (by omega) (by simp; omega), show t - o = (t - (o + 1)) + 1 from by omega]
   rfl
theorem impl_Entry_65.heap_many (g : Nat) (e : TypeId) : ∀ (vs : List Value) (o : Nat) (W : World) (cur : Array Value), W.heap[g]? = some (.cells cur e (0, 0)) → (W.setCells g o vs).heap[g]? = some (.cells (impl_Entry_65.many cur o vs) e (0, 0))
 | [], _, _, _, h => h
 | v :: vs, o, W, cur, h => by
  show ((W.setCell ⟨g, o, none⟩ v).setCells g (o + 1) vs).heap[g]? = _
  exact impl_Entry_65.heap_many g e vs (o + 1) _ _ (blk_set h o v)
theorem impl_Entry_65.size_many (g : Nat) : ∀ (vs : List Value) (o : Nat) (W : World), (W.setCells g o vs).heap.size = W.heap.size
 | [], _, _ => rfl
 | v :: vs, o, W => by
  show ((W.setCell ⟨g, o, none⟩ v).setCells g (o + 1) vs).heap.size = _
  rw [impl_Entry_65.size_many g vs (o + 1) _]
  simp
theorem impl_Entry_65.far_many (g : Nat) {k : Nat} (hne : k ≠ g) : ∀ (vs : List Value) (o : Nat) (W : World), (W.setCells g o vs).heap[k]? = W.heap[k]?
 | [], _, _ => rfl
 | v :: vs, o, W => by
  show ((W.setCell ⟨g, o, none⟩ v).setCells g (o + 1) vs).heap[k]? = _
  rw [impl_Entry_65.far_many g hne vs (o + 1) _]
  exact Below.heap_setCell W ⟨g, o, none⟩ v k hne
theorem impl_Entry_65.below_many {B g : Nat} {a : World} (hg : B ≤ g) : ∀ (vs : List Value) (o : Nat) (W : World), Below B a W → Below B a (W.setCells g o vs)
 | [], _, _, h => h
 | v :: vs, o, W, h => impl_Entry_65.below_many hg vs (o + 1) (W.setCell ⟨g, o, none⟩ v) (h.setCell hg _)
theorem impl_Entry_65.flat_at (l : List S45) (t : Nat) : (Sort.flatK impl_sorted.enc 3 l.toArray).toList[t]? = l[t / 3]?.bind fun x => (impl_sorted.enc x)[t % 3]? := by
 by_cases hj : t / 3 < l.length
 ·rw [List.getElem?_eq_getElem hj, Option.bind_some, ← impl_sorted.flat_get l (t / 3) l[t / 3] (List.getElem?_eq_getElem hj), List.getElem?_take_of_lt (by omega), List.getElem?_drop, show t / 3 * 3 + t % 3 = t from by omega]
 ·rw [List.getElem?_eq_none (by simp; omega), List.getElem?_eq_none (by omega)]
  rfl
theorem impl_Entry_65.erase_cells (l : List S45) (i : Nat) (hi : i < l.length) (cur zs : List Value) (hz : zs.length = 3) (cs : Array Value) (hs : l.length * 3 ≤ cs.size) (h : cs.toList.take (l.length * 3) = (Sort.flatK impl_sorted.enc 3 l.toArray).toList) :
  (impl_Entry_65.many (impl_Entry_65.many cs (i * 3) ((Sort.flatK impl_sorted.enc 3 l.toArray).toList.drop ((i + 1) * 3))) ((l.length - 1) * 3) zs).toList.take ((l.eraseIdx i).length * 3) = (Sort.flatK impl_sorted.enc 3 (l.eraseIdx i).toArray).toList := by
 have hlen : (l.eraseIdx i).length = l.length - 1 := by rw [List.length_eraseIdx, if_pos hi]
 have hdl : ((Sort.flatK impl_sorted.enc 3 l.toArray).toList.drop ((i + 1) * 3)).length = (l.length - 1 - i) * 3 := by simp; omega
 have hcs : ∀ t, t < l.length * 3 → cs[t]? = (Sort.flatK impl_sorted.enc 3 l.toArray).toList[t]? := by
  intro t ht
  rw [← h, List.getElem?_take_of_lt ht, Array.getElem?_toList]
 apply List.ext_getElem?
 intro t
 by_cases ht : t < (l.length - 1) * 3
 ·rw [hlen, List.getElem?_take_of_lt ht, Array.getElem?_toList, impl_Entry_65.many_out _ _ _ _ (.inl ht), impl_Entry_65.flat_at, List.getElem?_eraseIdx]
  by_cases h3 : t < i * 3
  ·rw [impl_Entry_65.many_out _ _ _ _ (.inl h3), hcs t (by omega), impl_Entry_65.flat_at, if_pos (by omega)]
  ·rw [impl_Entry_65.many_in _ _ _ _ (by omega) (by omega) (by omega), List.getElem?_drop, impl_Entry_65.flat_at, if_neg (by omega), show ((i + 1) * 3 + (t - i * 3)) / 3 = t / 3 + 1 from by omega, show ((i + 1) * 3 + (t - i * 3)) % 3 = t % 3 from by omega]
 ·rw [List.getElem?_eq_none (by rw [hlen, List.length_take]; omega), List.getElem?_eq_none (by rw [show (Sort.flatK impl_sorted.enc 3 (l.eraseIdx i).toArray).toList.length = (l.eraseIdx i).length * 3 from by simp, hlen]; omega)]
theorem impl_Entry_65.clear3 (P : Program) (w : World) (t e ty : TypeId) (z : Value) (v1 v2 v3 : Value) (ht : P.underlying t = some (.slice e)) (hv : ∀ w, (zeroValue e).run P w = .ok z w) (hz : z.cells = #[v1, v2, v3]) (h1 : v1.oneCell' = true) (h2 : v2.oneCell' = true) (h3 : v3.oneCell' = true) (b o c : Nat)
  (hc : ∀ j, j < 3 → (w.cell? ⟨b, o + j, none⟩).isSome = true) (hf : ∀ j, j < 3 → w.frozen? ⟨b, o + j, none⟩ = false) :
  (Builtin.clear_ #[t] ty #[.slice (some ⟨b, o, none⟩) 1 c]).run P w = .ok (.tuple #[]) (w.setCells b o [v1, v2, v3]) := by
 have hzc : (Builtin.zeroCells z.cells 1).toList = [v1, v2, v3] := by
  rw [hz]
  simp [Builtin.zeroCells]
  apply List.ext_getElem
  ·simp
  ·intro i h1 h2
   match i, h2 with
   | 0, _ => simp
   | 1, _ => simp
   | 2, _ => simp
 have hst := run_storeCells_cells (P := P) b o [v1, v2, v3] 0 w (by simpa using hc) (by simpa using hf) (by simp [h1, h2, h3])
 simp only [Nat.add_zero] at hst
 simp [Builtin.clear_, run_underlying ht, hv, hzc, hst]
set_option maxHeartbeats 2000000 in
set_option maxRecDepth 100000 in
theorem impl_Entry_65.calls (P0_ : Nat → Prop) (u9000_ : Value) (l0 : List S45) (a1 : Int) (a2 : Int) (r : List S45) (w0 w : World) (hB : Below w0.heap.size w0 w) (ho0 : Kd.R k45 45 w w0.heap.size P0_ u9000_ l0) (h : impl_Entry_65.f l0 a1 a2 = some r) :
  Calls Tryd.prog 65 #[u9000_, .int .i64 a1, .int .i64 a2] w fun e w' => ∃ v0_ : Value, e = .returned v0_ ∧ Kd.R k45 45 w' w0.heap.size (fun k_ => (P0_ k_ ∨ w.heap.size ≤ k_)) v0_ r ∧ Below w0.heap.size w0 w' ∧ Kept w w' (fun k_ => P0_ k_) := by
 have hu27 := Tryd.underlying27
 unfold impl_Entry_65.f at h
 split at h
 ·rename_i hc
  obtain ⟨h0, rfl, h1, h2⟩ := hc
  obtain rfl := Option.some.inj h
  clear h
  obtain ⟨i, rfl⟩ : ∃ i : Nat, a1 = (i : Int) := ⟨a1.toNat, by omega⟩
  rw [Int.toNat_natCast]
  have hi : i < l0.length := by omega
  obtain ⟨A, c, rfl⟩ := Kd.R_slice ho0
  obtain ⟨g, cap, hv, hbase, hlt, cells, hcell⟩ := Kd.R_form ho0 (by omega)
  injection hv with hA _ hcap
  subst hA
  subst hcap
  have hown := impl_sorted.opened ho0
  have hH := impl_sorted.holds hown
  obtain ⟨cur, hb, hcl, hcx, hcz, htk⟩ : ∃ cur : Array Value, w.heap[g]? = some (.cells cur 45 (0, 0)) ∧ l0.length ≤ c ∧ c ≤ maxLen ∧ cur.size = c * 3 ∧ cur.toList.take (l0.length * 3) = (Sort.flatK impl_sorted.enc 3 l0.toArray).toList := by
   rcases hown.2 with ⟨h0, _⟩ | ⟨g', cap', cur, hv, _, hb, h1, h2, h3, h4⟩
   ·cases h0
   injection hv with hv _ hcap
   injection hv with hv
   injection hv with hv
   subst hv
   subst hcap
   exact ⟨cur, hb, h1, h2, h3, h4⟩
  have hcm : c ≤ 9223372036854775807 := by have := hcx; unfold maxLen at this; omega
  have hgetc : ∀ t, t < l0.length * 3 → cur[t]? = (Sort.flatK impl_sorted.enc 3 l0.toArray).toList[t]? := by
   intro t ht
   rw [← htk, List.getElem?_take_of_lt ht, Array.getElem?_toList]
  obtain ⟨news, hnews⟩ : ∃ news, news = (Sort.flatK impl_sorted.enc 3 l0.toArray).toList.drop ((i + 1) * 3) := ⟨_, rfl⟩
  have hlen : news.length = (l0.length - (i + 1)) * 3 := by rw [hnews]; simp; omega
  obtain ⟨A, hA, hsrc⟩ : ∃ A : Addr, (if c = i + 1 then some (⟨g, 0, none⟩ : Addr) else some ⟨g, (i + 1) * 3, none⟩) = some A ∧ Aside0 (∀ t u, news[t]? = some u → w.drew.cell? (A.add t) = some u) := by
   by_cases hh : c = i + 1
   ·refine ⟨⟨g, 0, none⟩, by simp [hh], Aside0.mk fun t u hu => ?_⟩
    have h0 : news.length = 0 := by rw [hlen]; omega
    rw [List.length_eq_zero_iff.1 h0] at hu
    simp at hu
   ·refine ⟨⟨g, (i + 1) * 3, none⟩, by simp [hh], Aside0.mk fun t u hu => ?_⟩
    have ht : t < (l0.length - (i + 1)) * 3 := by
     have := (List.getElem?_eq_some_iff.1 hu).1
     rwa [hlen] at this
    rw [Addr.add_lit]
    show w.cell? _ = some u
    rw [blk_cell hb, hgetc _ (by omega), ← hu, hnews, List.getElem?_drop]
  have s1 : Aside0 (news.length = (l0.length - (i + 1)) * 3) := Aside0.mk hlen
  have s2 : Aside0 (∀ u ∈ news, u.oneCell' = true) := Aside0.mk (by
   intro u hu
   rw [hnews] at hu
   obtain ⟨t, ht⟩ := List.mem_iff_getElem?.1 (List.mem_of_mem_drop hu)
   rw [impl_Entry_65.flat_at] at ht
   obtain ⟨x, _, hx⟩ := Option.bind_eq_some_iff.1 ht
   have h4 := List.mem_of_getElem? hx
   simp [impl_sorted.enc] at h4
   rcases h4 with rfl | rfl | rfl <;> rfl)
  have s3 : Aside0 (∀ t, t < news.length → (w.drew.cell? ⟨g, 0 + i * 3 + t, none⟩).isSome = true ∧ w.drew.frozen? ⟨g, 0 + i * 3 + t, none⟩ = false) := Aside0.mk (by
   intro t ht
   rw [hlen] at ht
   refine ⟨?_, by show w.frozen? _ = false; simp [World.frozen?, hb]⟩
   show (w.cell? _).isSome = true
   rw [blk_cell hb, Array.getElem?_eq_getElem (by omega)]
   rfl)
  obtain ⟨W1, hW1⟩ : ∃ W1, W1 = w.drew.setCells g (0 + i * 3) news := ⟨_, rfl⟩
  have hb1 : W1.heap[g]? = some (.cells (impl_Entry_65.many cur (0 + i * 3) news) 45 (0, 0)) := by rw [hW1]; exact impl_Entry_65.heap_many g _ news _ _ cur hb
  obtain ⟨W2, hW2⟩ : ∃ W2, W2 = W1.setCells g ((i + (l0.length - (i + 1))) * 3) [.string ByteArray.empty, .string ByteArray.empty, .bool false] := ⟨_, rfl⟩
  have hb2 : W2.heap[g]? = some (.cells (impl_Entry_65.many (impl_Entry_65.many cur (0 + i * 3) news) ((i + (l0.length - (i + 1))) * 3) [.string ByteArray.empty, .string ByteArray.empty, .bool false]) 45 (0, 0)) := by rw [hW2]; exact impl_Entry_65.heap_many g _ _ _ _ _ hb1
  have hclr : ∀ ty, (Builtin.clear_ #[27] ty #[.slice (some ⟨g, (i + (l0.length - (i + 1))) * 3, none⟩) (l0.length - (i + (l0.length - (i + 1)))) (c - (i + (l0.length - (i + 1))))]).run Tryd.prog W1 = .ok (.tuple #[]) W2 := by
   intro ty
   rw [show l0.length - (i + (l0.length - (i + 1))) = 1 from by omega, hW2]
   refine impl_Entry_65.clear3 _ W1 _ 45 ty (.agg #[.string ByteArray.empty, .string ByteArray.empty, .bool false]) _ _ _ hu27 (fun w => by kernel_rfl) rfl rfl rfl rfl g _ _ (fun j hj => ?_) (fun j hj => by simp [World.frozen?, hb1])
   rw [blk_cell hb1, Array.getElem?_eq_getElem (by rw [impl_Entry_65.many_size, hcz]; omega)]
   rfl
  have hW : Aside0 (W1 = w.drew.setCells g (0 + i * 3) news) := Aside0.mk hW1
  have hic : i ≤ c := by omega
  have mixed : Tryd.prog.follows .mixedOrders = true := by kernel_rfl
  have hp1 : 0 ≤ (i : Int) + 1 := by omega
  have hp2 : (i : Int) + 1 ≤ (l0.length : Int) := by omega
  have hp3 : 0 ≤ (i : Int) := by omega
  have hjc : i + 1 ≤ c := by omega
  have HO := Aside0.mk ho0
  have HB0 := Aside0.mk hB
  have HX := Aside0.mk (show cur.size = c * 3 ∧ cur.toList.take (l0.length * 3) = (Sort.flatK impl_sorted.enc 3 l0.toArray).toList ∧ w.heap[g]? = some (.cells cur 45 (0, 0)) ∧ news = (Sort.flatK impl_sorted.enc 3 l0.toArray).toList.drop ((i + 1) * 3) ∧ W2.heap[g]? = some (.cells (impl_Entry_65.many (impl_Entry_65.many cur (0 + i * 3) news) ((i + (l0.length - (i + 1))) * 3) [.string ByteArray.empty, .string ByteArray.empty, .bool false]) 45 (0, 0)) ∧ W2 = W1.setCells g ((i + (l0.length - (i + 1))) * 3) [.string ByteArray.empty, .string ByteArray.empty, .bool false] from ⟨hcz, htk, hb, hnews, hb2, hW2⟩)
  clear ho0 hB hH hown hb hcz htk hgetc hnews hlen hb1 hW1 hb2 hW2 hcell
  go_enter Tryd.func65, Tryd.ntmps65
  go_wp2_with fail
  go_region_law_o (refine step_append_room rfl (.tmp 22) (.tmp 25) 27 rfl 45 impl_sorted.svE 3 hu27 (by kernel_rfl) (by kernel_rfl) g 0 i c (by simp [Act.eval, Act.put]) A (l0.length - (i + 1)) (c - (i + 1)) news (by simp [Act.eval, Act.put]) s1.out hsrc.out s2.out (by omega) s3.out ?_; rw [← hW.out])
  go_wp2
  go_ret
  obtain ⟨z1, z2, z3, z4, z5, z6⟩ := HX.out
  have hfar : ∀ k, k ≠ g → W2.heap[k]? = w.heap[k]? := by
   intro k hne
   rw [z6, impl_Entry_65.far_many _ hne, hW.out, impl_Entry_65.far_many _ hne]
   rfl
  have hsz : W2.heap.size = w.heap.size := by
   rw [z6, impl_Entry_65.size_many, hW.out, impl_Entry_65.size_many]
   rfl
  have hlen : (l0.eraseIdx i).length = l0.length - 1 := by rw [List.length_eraseIdx, if_pos hi]
  have hon : i + (l0.length - (i + 1)) = l0.length - 1 := by omega
  rw [Nat.zero_add, hon] at z5
  refine ⟨.slice (some ⟨g, 0, none⟩) (l0.length - 1) c, by rw [← hon]; rfl, Kd.R_mono ⟨HO.out.1, (Sort.flatK impl_sorted.enc 3 (l0.eraseIdx i).toArray).toList, ?_, impl_sorted.reps_flat _ _ _ _⟩ (fun k hk => .inl hk), ?_, ?_, ?_⟩
  ·rw [show (k45).sz = 3 from rfl]
   refine ⟨by simp, .inr ⟨g, c, _, by rw [hlen], hbase, z5, by omega, hcx, by rw [impl_Entry_65.many_size, impl_Entry_65.many_size]; exact z1, ?_⟩⟩
   rw [z4]
   exact impl_Entry_65.erase_cells l0 i hi [] _ rfl cur (by rw [z1]; omega) z2
  ·rw [z6, hW.out]
   exact impl_Entry_65.below_many hbase _ _ _ (impl_Entry_65.below_many hbase _ _ _ HB0.out.drew)
  ·exact Nat.le_of_eq hsz.symm
  ·intro k _ hk
   exact hfar k (by rintro rfl; exact hk (HO.out.1 _ rfl))
 ·cases h


end Go.Proofs.YtkdghhkpmkfjhaaDoor.P


namespace Go.Proofs.YtkdghhkpmkfjhaaDoor.P
open Go.RowKit Go.Proofs.YtkdghhkpmkfjhaaDoorW.PrintWords Go.Proofs.YtkdghhkpmkfjhaaDoorW.PrintLast Go.Proofs.YtkdghhkpmkfjhaaDoorW.PrintMore
attribute [local go_sem] max2_int min2_int max_two min_two max_three min_three max_four min_four
set_option linter.unusedVariables false
set_option linter.unusedSimpArgs false

/-! ### impl_Entry_66: function 66 -/
/- Walked by hand. -/
def impl_Entry_66.f (l0 : List S45) : Option (List S45) := if l0.length * 40 ≤ 140737488355328 then some l0 else none
/-- The cells of a row that is read. -/
theorem impl_Entry_66.cells {w : World} {A0 : Option Addr} {l0 : List S45} (hr0 : Kd.C k45 w A0 l0.length l0) (hn : 0 < l0.length) : ∃ ad, A0 = some ad ∧ ∀ t u, (Sort.flatK impl_sorted.enc 3 l0.toArray).toList[t]? = some u → w.cell? (ad.add t) = some u := by
 obtain ⟨ad, e, hc⟩ := hr0.2.2 hn
 refine ⟨ad, e, fun t u hu => ?_⟩
 have ht : t < l0.length * 3 := by
  have := (List.getElem?_eq_some_iff.1 hu).1
  simpa using this
 have hj : t / 3 < l0.length := by omega
 obtain ⟨c, hcl, hR, hcell⟩ := hc (t / 3) l0[t / 3] (List.getElem?_eq_getElem hj)
 obtain rfl := k45_open hR
 have h1 := impl_sorted.flat_get l0 (t / 3) l0[t / 3] (List.getElem?_eq_getElem hj)
 have h2 := hcell (t % 3) u (by
  show (impl_sorted.enc l0[t / 3])[t % 3]? = some u
  rw [← h1, List.getElem?_take_of_lt (by omega), List.getElem?_drop, show t / 3 * 3 + t % 3 = t from by omega]
  exact hu)
 rw [show (k45).sz = 3 from rfl, show t / 3 * 3 + t % 3 = t from by omega] at h2
 exact h2
set_option maxHeartbeats 2000000 in
set_option maxRecDepth 100000 in
theorem impl_Entry_66.calls (A0 : Option Addr) (c0 : Nat) (l0 : List S45) (r : List S45) (w : World) (hr0 : Kd.C k45 w A0 l0.length l0) (hc0 : l0.length ≤ c0) (h : impl_Entry_66.f l0 = some r) :
  Calls Tryd.prog 66 #[.slice A0 l0.length c0] w fun e w' => ∃ v0_ : Value, e = .returned (v0_) ∧ Kd.R k45 45 w' w.heap.size (fun _ => True) v0_ r ∧ Below w.heap.size w w' := by
 have hu27 := Tryd.underlying27
 have q27 : ∀ (w : World) (a : Option Addr) (n c n' c' : Nat), (binOp .eql 27 (.slice a n c) (.slice none n' c')).run Tryd.prog w = .ok (.bool a.isNone) w := fun w a n c n' c' => Lib.run_eql_slice_nil w _ _ a n c n' c' hu27
 unfold impl_Entry_66.f at h
 split at h
 ·rename_i hsz
  obtain rfl := Option.some.inj h
  clear h
  cases A0 with
  | none =>
   have hl : l0.length = 0 := by
    by_cases hn : 0 < l0.length
    ·obtain ⟨ad, e, _⟩ := impl_Entry_66.cells hr0 hn
     cases e
    ·omega
   have hnil : l0 = [] := List.length_eq_zero_iff.1 hl
   subst hnil
   clear hr0
   go_enter Tryd.func66, Tryd.ntmps66
   go_wp2
   go_ret
   exact ⟨_, rfl, Kd.R_nil _ _ _ _ _, Below.refl _ _⟩
  | some ad =>
   have HN : Aside0 (∀ t u, (Sort.flatK impl_sorted.enc 3 l0.toArray).toList[t]? = some u → w.cell? (ad.add t) = some u) := Aside0.mk (by
    intro t u hu
    by_cases hn : 0 < l0.length
    ·obtain ⟨ad', e, hh⟩ := impl_Entry_66.cells hr0 hn
     cases e
     exact hh t u hu
    ·have := (List.getElem?_eq_some_iff.1 hu).1
     simp at this
     omega)
   clear hr0
   have HS := Aside0.mk hsz
   clear hsz
   go_enter Tryd.func66, Tryd.ntmps66
   go_wp2_with (at_builtin; go_loud (refine wpList_append_own _ rfl _ _ 27 rfl w.heap.size 45 impl_sorted.svE (.agg #[.string ByteArray.empty, .string ByteArray.empty, .bool false]) 3 40 hu27 (by kernel_rfl) (by kernel_rfl) (by kernel_rfl) (by kernel_rfl) rfl (by decide) _ _ _ rfl (World.ownsRow_made w #[] 0 (Nat.le_refl _) (Nat.zero_le _) rfl) ad l0.length c0 (Sort.flatK impl_sorted.enc 3 l0.toArray).toList rfl ?qc1 ?qc2 ?qc3 ?qc4 ?qc5 ?qc6 ?_))
   case qc1 => simp
   case qc2 => exact fun j u hj => Lib.cell?_alloc_some _ (HN.out j u hj)
   case qc3 =>
    intro u hu
    obtain ⟨t, ht⟩ := List.mem_iff_getElem?.1 hu
    have h3 : t < l0.length * 3 := by
     have := (List.getElem?_eq_some_iff.1 ht).1
     simpa using this
    have hj : t / 3 < l0.length := by omega
    have h1 := impl_sorted.flat_get l0 (t / 3) l0[t / 3] (List.getElem?_eq_getElem hj)
    have h2 : (impl_sorted.enc l0[t / 3])[t % 3]? = some u := by
     rw [← h1, List.getElem?_take_of_lt (by omega), List.getElem?_drop, show t / 3 * 3 + t % 3 = t from by omega]
     exact ht
    have h4 := List.mem_of_getElem? h2
    simp [impl_sorted.enc] at h4
    rcases h4 with rfl | rfl | rfl <;> rfl
   case qc4 => have := HS.out; unfold maxLen; omega
   case qc5 => have := HS.out; omega
   case qc6 => simp
   intro v' w1 hown hgrow hnil
   go_wp2
   go_ret
   refine ⟨v', rfl, ⟨fun _ _ => trivial, (Sort.flatK impl_sorted.enc 3 l0.toArray).toList, ?_, impl_sorted.reps_flat w1 w.heap.size _ l0⟩, ?_⟩
   ·have h3 : w1.ownsRow w.heap.size 45 3 v' l0.length (Sort.flatK impl_sorted.enc 3 l0.toArray).toList := by simpa using hown
    exact h3
   ·exact ((Below.refl _ w).alloc (Nat.le_refl _) _).grown hgrow (by simp) (by intro k hk; simp [Value.ownBlock] at hk; omega)
 ·cases h


end Go.Proofs.YtkdghhkpmkfjhaaDoor.P


namespace Go.Proofs.YtkdghhkpmkfjhaaDoor.P
open Go.RowKit Go.Proofs.YtkdghhkpmkfjhaaDoorW.PrintWords Go.Proofs.YtkdghhkpmkfjhaaDoorW.PrintLast Go.Proofs.YtkdghhkpmkfjhaaDoorW.PrintMore
attribute [local go_sem] max2_int min2_int max_two min_two max_three min_three max_four min_four
set_option linter.unusedVariables false
set_option linter.unusedSimpArgs false

/-! ### impl_Remove: function 34 -/
def impl_Remove.f (k : Nat) (l0_0 : List (S45)) (a1 : ByteArray) : Option ((List (S45)) × Int) := (impl_ValidTree.f k l0_0).bind fun t475 => (if t475 = true then ((impl_find.f k l0_0 a1).bind fun bt476 => (if bt476.2 = true then ((impl_Entry_66.f l0_0).bind fun t478 => ((impl_Entry_65.f t478 bt476.1 (wrap64 (bt476.1 + 1))).bind fun t481 => (some (t481, 0)))) else (some (([] : List (S45)), 4)))) else (some (([] : List (S45)), 1)))
theorem impl_Remove.mono : ∀ a0 a1 k, LeO (impl_Remove.f k a0 a1) (impl_Remove.f (k + 1) a0 a1) := by
 intro a0 a1 k
 unfold impl_Remove.f
 repeat' first
   | (with_reducible exact impl_ValidTree.mono _ _)
   | (with_reducible exact impl_find.mono _ _ _)
   | (with_reducible exact LeO.refl _)
   | (with_reducible exact LeO.none _)
   | (with_reducible refine LeO.ite ?_ ?_)
   | (with_reducible refine LeO.bind ?_ (fun _ => ?_))
   | exact impl_ValidTree.mono _ _
   | exact impl_find.mono _ _ _
   | exact LeO.none _
   | refine LeO.ite ?_ ?_
   | refine LeO.bind ?_ (fun _ => ?_)
set_option maxHeartbeats 8000000 in
set_option maxRecDepth 100000 in
theorem impl_Remove.calls (k : Nat) (A0_0 : Option Addr) (c0_0 : Nat) (l0_0 : List (S45)) (a1 : ByteArray) (r1 : List (S45)) (r2 : Int) (w : World) (hg : GOK w) (hr0_0 : Kd.C k45 w A0_0 l0_0.length l0_0) (hc0_0 : l0_0.length ≤ c0_0) (h : impl_Remove.f k l0_0 a1 = some (r1, r2)) :
  Calls Tryd.prog 34 #[.agg #[.slice A0_0 l0_0.length c0_0], .string a1] w fun e w' => ∃ v0_ : Value, e = .returned (.tuple #[.agg #[v0_], .int .i64 r2]) ∧ Kd.R k45 45 w' w.heap.size (fun _ => True) v0_ r1 ∧ Below w.heap.size w w' := by
 have HG := Aside0.mk hg
 clear hg
 have hu29 := Tryd.underlying29
 have HR0_0 := Aside0.mk hr0_0
 have HC0_0 := Aside0.mk hc0_0
 clear hr0_0 hc0_0
 have HB := Aside0.mk (Below.refl w.heap.size w)
 have H : ((impl_ValidTree.f k l0_0).bind fun t475 => (if t475 = true then ((impl_find.f k l0_0 a1).bind fun bt476 => (if bt476.2 = true then ((impl_Entry_66.f l0_0).bind fun t478 => ((impl_Entry_65.f t478 bt476.1 (wrap64 (bt476.1 + 1))).bind fun t481 => (some (t481, 0)))) else (some (([] : List (S45)), 4)))) else (some (([] : List (S45)), 1)))) = some (r1, r2) := h
 clear h
 replace H := Option.bind_eq_some_iff.mp H
 obtain ⟨t475, A30, H⟩ := H
 replace H : (if t475 = true then ((impl_find.f k l0_0 a1).bind fun bt476 => (if bt476.2 = true then ((impl_Entry_66.f l0_0).bind fun t478 => ((impl_Entry_65.f t478 bt476.1 (wrap64 (bt476.1 + 1))).bind fun t481 => (some (t481, 0)))) else (some (([] : List (S45)), 4)))) else (some (([] : List (S45)), 1))) = some (r1, r2) := H
 have A3 := Aside0.mk A30
 clear A30
 by_cases c4 : t475 = true
 ·subst c4
  have H1 : ((impl_find.f k l0_0 a1).bind fun bt476 => (if bt476.2 = true then ((impl_Entry_66.f l0_0).bind fun t478 => ((impl_Entry_65.f t478 bt476.1 (wrap64 (bt476.1 + 1))).bind fun t481 => (some (t481, 0)))) else (some (([] : List (S45)), 4)))) = some (r1, r2) := by rw [if_pos rfl] at H; exact H
  clear H
  have H := H1
  clear H1
  replace H := Option.bind_eq_some_iff.mp H
  obtain ⟨⟨t476, t477⟩, A50, H⟩ := H
  replace H : (if t477 = true then ((impl_Entry_66.f l0_0).bind fun t478 => ((impl_Entry_65.f t478 t476 (wrap64 (t476 + 1))).bind fun t481 => (some (t481, 0)))) else (some (([] : List (S45)), 4))) = some (r1, r2) := H
  have A5 := Aside0.mk A50
  clear A50
  by_cases c6 : t477 = true
  ·subst c6
   have H1 : ((impl_Entry_66.f l0_0).bind fun t478 => ((impl_Entry_65.f t478 t476 (wrap64 (t476 + 1))).bind fun t481 => (some (t481, 0)))) = some (r1, r2) := by rw [if_pos rfl] at H; exact H
   clear H
   have H := H1
   clear H1
   replace H := Option.bind_eq_some_iff.mp H
   obtain ⟨t478, A70, H⟩ := H
   replace H : ((impl_Entry_65.f t478 t476 (wrap64 (t476 + 1))).bind fun t481 => (some (t481, 0))) = some (r1, r2) := H
   have A7 := Aside0.mk A70
   clear A70
   replace H := Option.bind_eq_some_iff.mp H
   obtain ⟨t481, A80, H⟩ := H
   replace H : (some (t481, 0)) = some (r1, r2) := H
   have A8 := Aside0.mk A80
   clear A80
   simp only [Option.some.injEq, Prod.mk.injEq] at H
   obtain ⟨rfl, rfl⟩ := H
   go_enter Tryd.func34, Tryd.ntmps34
   go_wp2_with (first | ((with_reducible refine gd 2 rfl ?_); refine bx 2 29 (#[.slice A0_0 l0_0.length c0_0]) ?_; intro gb473 hg w9 hbox hb; refine Ya4 (below_step (be HB.out) hb) (hbox) (bs hg (be HB.out)) (bs hg (be HB.out)) ?_; clear HB; intro HB BK473 GW473 GE473; clear hb hbox hg) | ((with_reducible refine gd 4 rfl ?_); refine bx 4 29 (#[.slice none 0 0]) ?_; intro gb474 hg w10 hbox hb; refine Ya7 (bb BK473 hb) (below_step (be1 HB.out GE473.out) hb) (hbox) (bs hg (be1 HB.out GE473.out)) (bs hg (be1 HB.out GE473.out)) (bl hg BK473) (br hg BK473) ?_; clear BK473 HB; intro BK473 HB BK474 GW474 GE474 NB473_474 NB474_473; clear hb hbox hg; have hnb11 := NB473_474.out; have hnc11 := NB474_473.out; have ⟨hcz12_0, hfz12_0⟩ := Yc1 BK473.out) | ((with_reducible refine gc 15 rfl ?_); refine gl (some 9) _ (#[.agg #[.slice A0_0 l0_0.length c0_0]]) Tryd.func15 ?_; (with_reducible refine (impl_ValidTree.calls k _ _ l0_0 true _ ?sideG ?side1 ?side2 A3.out).mono ?_); (case sideG => exact gk2 HG.out HB.out GE473.out GE474.out); (case side1 => exact cb (Kd.C_below HR0_0.out HB.out)); (case side2 => exact HC0_0.out); rintro e w13 ⟨rfl, hb⟩; refine ⟨_, rfl, ?_⟩; refine Ya3 (bb BK473 hb) (bb BK474 hb) (below_step (be2 HB.out GE473.out GE474.out) hb) ?_; clear BK473 BK474 HB; intro BK473 BK474 HB; (try clear hb); (try clear hb2); (try clear hk); (try clear hi); have ⟨hcz14_0, hfz14_0⟩ := Yc1 BK473.out) | ((with_reducible refine gc 60 rfl ?_); refine gl (some 15) _ (#[.agg #[.slice A0_0 l0_0.length c0_0], .string a1]) Tryd.func60 ?_; (with_reducible refine (impl_find.calls k _ _ l0_0 a1 t476 true _ ?side1 ?side2 A5.out).mono ?_); (case side1 => exact cb (Kd.C_below HR0_0.out HB.out)); (case side2 => exact HC0_0.out); rintro e w15 ⟨rfl, hb⟩; refine ⟨_, rfl, ?_⟩; refine Ya3 (bb BK473 hb) (bb BK474 hb) (below_step (be2 HB.out GE473.out GE474.out) hb) ?_; clear BK473 BK474 HB; intro BK473 BK474 HB; (try clear hb); (try clear hb2); (try clear hk); (try clear hi); have ⟨hcz16_0, hfz16_0⟩ := Yc1 BK473.out) | ((with_reducible refine gc 66 rfl ?_); refine gl (some 23) _ (#[.slice A0_0 l0_0.length c0_0]) Tryd.func66 ?_; (with_reducible refine (impl_Entry_66.calls _ _ l0_0 t478 _ ?side1 ?side2 A7.out).mono ?_); (case side1 => exact cb (Kd.C_below HR0_0.out HB.out)); (case side2 => exact HC0_0.out); rintro e w17 ⟨v479, rfl, ho0, hb⟩; refine ⟨_, rfl, ?_⟩; refine Ya4 (Kd.R_lower ho0 (below_size (be2 HB.out GE473.out GE474.out))) (bb BK473 hb) (bb BK474 hb) (below_step (be2 HB.out GE473.out GE474.out) hb) ?_; clear BK473 BK474 HB; intro HO480 BK473 BK474 HB; (try clear hb); (try clear hb2); (try clear hk); (try clear hi); (try clear ho0); obtain ⟨Ao18, co18, eo18⟩ := Kd.R_slice HO480.out; subst eo18) | ((with_reducible refine gc 65 rfl ?_); refine gl (some 27) _ (#[.slice Ao18 t478.length co18, .int .i64 t476, .int .i64 (wrap64 (t476 + 1))]) Tryd.func65 ?_; (with_reducible refine (impl_Entry_65.calls (fun k_ => some k_ = (.slice Ao18 t478.length co18 : Value).ownBlock) (.slice Ao18 t478.length co18) t478 t476 (wrap64 (t476 + 1)) t481 w _ ?side1 ?side2 A8.out).mono ?_); (case side1 => repeat (first | (with_reducible first | exact HB.out | apply below_alloc | apply pw_below_drewN | apply below_drew1 | refine below_set ?_ GE473.out | refine below_set ?_ GE474.out) | exact HB.out)); (case side2 => exact Kd.R_tight rfl HO480.out); rintro e w19 ⟨v482, rfl, ho0, hb, hkp⟩; refine ⟨_, rfl, ?_⟩; refine Ya4 (blk_kept (bk BK473.out) hkp (fun hs_ => (fun e_ => (Kd.R_ne HO480.out BK473.out (by decide)) e_) hs_)) (blk_kept (bk BK474.out) hkp (fun hs_ => (fun e_ => (Kd.R_ne HO480.out BK474.out (by decide)) e_) hs_)) (Kd.R_mono (ok' := fun k_ => True) ho0 (fun k_ hk_ => trivial)) (hb) ?_; clear BK473 BK474 HB HO480; intro BK473 BK474 HO483 HB; (try clear hb); (try clear hkp); (try clear ho0); obtain ⟨Ao20, co20, eo20⟩ := Kd.R_slice HO483.out; subst eo20; have ⟨hcz21_0, hfz21_0⟩ := Yc1 BK474.out))
   refine bodyPost_ret (results_ct rfl _ _ gb474 29 #[.slice Ao20 t481.length co20] (0, 0) _ rfl (by (with_reducible repeat (first | refine blk_drewN ?_ _ | refine blk_drew ?_ | refine blk_alloc ?_ _)); refine blk_put (cs := #[.slice none 0 0]) ?_ 0 _ rfl; (with_reducible repeat (first | refine blk_drewN ?_ _ | refine blk_drew ?_ | refine blk_alloc ?_ _)); exact BK474.out) Tryd.underlying29 rfl (by kernel_rfl)) rfl ?_
   exact ⟨_, Ye2, by (with_reducible repeat (first | apply Kd.R_alloc | apply Kd.R_drewN | apply Kd.R_drew)); exact Kd.R_mono (Kd.R_far (p := ⟨gb474, 0, none⟩) (Kd.R_types HO483.out BK474.out (by decide)) (fun _ hk => hk.2) (.slice Ao20 t481.length co20)) (fun _ hk => trivial), (by first | exact be2 HB.out GE473.out GE474.out | exact be1 HB.out GE473.out | exact be HB.out)⟩
  ·replace c6 := Bool.eq_false_iff.mpr c6
   subst c6
   have H1 : (some (([] : List (S45)), 4)) = some (r1, r2) := by rw [if_neg (show ¬ (false = true) by decide)] at H; exact H
   clear H
   have H := H1
   clear H1
   simp only [Option.some.injEq, Prod.mk.injEq] at H
   obtain ⟨rfl, rfl⟩ := H
   go_enter Tryd.func34, Tryd.ntmps34
   go_wp2_with (first | ((with_reducible refine gd 2 rfl ?_); refine bx 2 29 (#[.slice A0_0 l0_0.length c0_0]) ?_; intro gb473 hg w22 hbox hb; refine Ya4 (below_step (be HB.out) hb) (hbox) (bs hg (be HB.out)) (bs hg (be HB.out)) ?_; clear HB; intro HB BK473 GW473 GE473; clear hb hbox hg) | ((with_reducible refine gd 4 rfl ?_); refine bx 4 29 (#[.slice none 0 0]) ?_; intro gb474 hg w23 hbox hb; refine Ya7 (bb BK473 hb) (below_step (be1 HB.out GE473.out) hb) (hbox) (bs hg (be1 HB.out GE473.out)) (bs hg (be1 HB.out GE473.out)) (bl hg BK473) (br hg BK473) ?_; clear BK473 HB; intro BK473 HB BK474 GW474 GE474 NB473_474 NB474_473; clear hb hbox hg; have hnb24 := NB473_474.out; have hnc24 := NB474_473.out; have ⟨hcz25_0, hfz25_0⟩ := Yc1 BK473.out) | ((with_reducible refine gc 15 rfl ?_); refine gl (some 9) _ (#[.agg #[.slice A0_0 l0_0.length c0_0]]) Tryd.func15 ?_; (with_reducible refine (impl_ValidTree.calls k _ _ l0_0 true _ ?sideG ?side1 ?side2 A3.out).mono ?_); (case sideG => exact gk2 HG.out HB.out GE473.out GE474.out); (case side1 => exact cb (Kd.C_below HR0_0.out HB.out)); (case side2 => exact HC0_0.out); rintro e w26 ⟨rfl, hb⟩; refine ⟨_, rfl, ?_⟩; refine Ya3 (bb BK473 hb) (bb BK474 hb) (below_step (be2 HB.out GE473.out GE474.out) hb) ?_; clear BK473 BK474 HB; intro BK473 BK474 HB; (try clear hb); (try clear hb2); (try clear hk); (try clear hi); have ⟨hcz27_0, hfz27_0⟩ := Yc1 BK473.out) | ((with_reducible refine gc 60 rfl ?_); refine gl (some 15) _ (#[.agg #[.slice A0_0 l0_0.length c0_0], .string a1]) Tryd.func60 ?_; (with_reducible refine (impl_find.calls k _ _ l0_0 a1 t476 false _ ?side1 ?side2 A5.out).mono ?_); (case side1 => exact cb (Kd.C_below HR0_0.out HB.out)); (case side2 => exact HC0_0.out); rintro e w28 ⟨rfl, hb⟩; refine ⟨_, rfl, ?_⟩; refine Ya3 (bb BK473 hb) (bb BK474 hb) (below_step (be2 HB.out GE473.out GE474.out) hb) ?_; clear BK473 BK474 HB; intro BK473 BK474 HB; (try clear hb); (try clear hb2); (try clear hk); (try clear hi); have ⟨hcz29_0, hfz29_0⟩ := Yc1 BK474.out))
   refine bodyPost_ret (results_ct rfl _ _ gb474 29 #[.slice none 0 0] (0, 0) _ rfl (by (with_reducible repeat (first | refine blk_drewN ?_ _ | refine blk_drew ?_ | refine blk_alloc ?_ _)); refine blk_put (cs := #[.slice none 0 0]) ?_ 0 _ rfl; (with_reducible repeat (first | refine blk_drewN ?_ _ | refine blk_drew ?_ | refine blk_alloc ?_ _)); exact BK474.out) Tryd.underlying29 rfl (by kernel_rfl)) rfl ?_
   exact ⟨_, Ye2, nl, (by first | exact be2 HB.out GE473.out GE474.out | exact be1 HB.out GE473.out | exact be HB.out)⟩
 ·replace c4 := Bool.eq_false_iff.mpr c4
  subst c4
  have H1 : (some (([] : List (S45)), 1)) = some (r1, r2) := by rw [if_neg (show ¬ (false = true) by decide)] at H; exact H
  clear H
  have H := H1
  clear H1
  simp only [Option.some.injEq, Prod.mk.injEq] at H
  obtain ⟨rfl, rfl⟩ := H
  go_enter Tryd.func34, Tryd.ntmps34
  go_wp2_with (first | ((with_reducible refine gd 2 rfl ?_); refine bx 2 29 (#[.slice A0_0 l0_0.length c0_0]) ?_; intro gb473 hg w30 hbox hb; refine Ya4 (below_step (be HB.out) hb) (hbox) (bs hg (be HB.out)) (bs hg (be HB.out)) ?_; clear HB; intro HB BK473 GW473 GE473; clear hb hbox hg) | ((with_reducible refine gd 4 rfl ?_); refine bx 4 29 (#[.slice none 0 0]) ?_; intro gb474 hg w31 hbox hb; refine Ya7 (bb BK473 hb) (below_step (be1 HB.out GE473.out) hb) (hbox) (bs hg (be1 HB.out GE473.out)) (bs hg (be1 HB.out GE473.out)) (bl hg BK473) (br hg BK473) ?_; clear BK473 HB; intro BK473 HB BK474 GW474 GE474 NB473_474 NB474_473; clear hb hbox hg; have hnb32 := NB473_474.out; have hnc32 := NB474_473.out; have ⟨hcz33_0, hfz33_0⟩ := Yc1 BK473.out) | ((with_reducible refine gc 15 rfl ?_); refine gl (some 9) _ (#[.agg #[.slice A0_0 l0_0.length c0_0]]) Tryd.func15 ?_; (with_reducible refine (impl_ValidTree.calls k _ _ l0_0 false _ ?sideG ?side1 ?side2 A3.out).mono ?_); (case sideG => exact gk2 HG.out HB.out GE473.out GE474.out); (case side1 => exact cb (Kd.C_below HR0_0.out HB.out)); (case side2 => exact HC0_0.out); rintro e w34 ⟨rfl, hb⟩; refine ⟨_, rfl, ?_⟩; refine Ya3 (bb BK473 hb) (bb BK474 hb) (below_step (be2 HB.out GE473.out GE474.out) hb) ?_; clear BK473 BK474 HB; intro BK473 BK474 HB; (try clear hb); (try clear hb2); (try clear hk); (try clear hi); have ⟨hcz35_0, hfz35_0⟩ := Yc1 BK474.out))
  refine bodyPost_ret (results_ct rfl _ _ gb474 29 #[.slice none 0 0] (0, 0) _ rfl (by (with_reducible repeat (first | refine blk_drewN ?_ _ | refine blk_drew ?_ | refine blk_alloc ?_ _)); refine blk_put (cs := #[.slice none 0 0]) ?_ 0 _ rfl; (with_reducible repeat (first | refine blk_drewN ?_ _ | refine blk_drew ?_ | refine blk_alloc ?_ _)); exact BK474.out) Tryd.underlying29 rfl (by kernel_rfl)) rfl ?_
  exact ⟨_, Ye2, nl, (by first | exact be2 HB.out GE473.out GE474.out | exact be1 HB.out GE473.out | exact be HB.out)⟩

end Go.Proofs.YtkdghhkpmkfjhaaDoor.P


namespace Go.Proofs.YtkdghhkpmkfjhaaDoor.P
open Go.RowKit Go.Proofs.YtkdghhkpmkfjhaaDoorW.PrintWords Go.Proofs.YtkdghhkpmkfjhaaDoorW.PrintLast Go.Proofs.YtkdghhkpmkfjhaaDoorW.PrintMore
attribute [local go_sem] max2_int min2_int max_two min_two max_three min_three max_four min_four
set_option linter.unusedVariables false
set_option linter.unusedSimpArgs false

/-! ### laws_FnExactRemove: function 8 -/
mutual
def laws_FnExactRemove.j0 : Nat → ByteArray → Int → Int → Bool → List (S62) → List (S45) → List (S45) → List (S45) → Option (Bool)
 | 0, _, _, _, _, _, _, _, _ => none
 | k + 1, x1, x7, x10, x47, x485000, x494000, x498000, x503000 => if x47 = true then (some false) else ((laws_toTree.f k x485000).bind fun t504 => ((laws_eqTree.f k x498000 t504).bind fun t507 => (if t507 = true then ((laws_markTree.f k x498000 1).bind fun bt508 => (if bt508.1 < 0 then (laws_FnExactRemove.j1 k x1 x7 true x485000 x494000 x503000) else ((laws_eqTree.f k x503000 x494000).bind fun t510 => (if t510 = true then (laws_FnExactRemove.j1 k x1 x7 (x10 != x7) x485000 x494000 x503000) else (laws_FnExactRemove.j1 k x1 x7 true x485000 x494000 x503000))))) else (some false))))
def laws_FnExactRemove.j1 : Nat → ByteArray → Int → Bool → List (S62) → List (S45) → List (S45) → Option (Bool)
 | 0, _, _, _, _, _, _ => none
 | k + 1, x1, x7, x68, x485000, x494000, x503000 => if x68 = true then (some false) else ((laws_markTree.f k x503000 1).bind fun bt511 => ((laws_heldTree.f k bt511.2 1).bind fun t513 => (if t513 < 0 then (some false) else (if t513 = bt511.1 then ((laws_toTree.f k x485000).bind fun t514 => ((impl_Remove.f k t514 x1).bind fun bt517 => ((laws_eqTree.f k bt517.1 x494000).bind fun t522 => (if t522 = true then (laws_FnExactRemove.j2 k bt511.1 (bt517.2 != x7) bt511.2) else (laws_FnExactRemove.j2 k bt511.1 true bt511.2))))) else (some false)))))
def laws_FnExactRemove.j2 : Nat → Int → Bool → List (S45) → Option (Bool)
 | 0, _, _, _ => none
 | k + 1, x12, x95, x503000 => if x95 = true then (some false) else ((laws_heldTree.f k x503000 1).bind fun t523 => (if t523 < 0 then (some false) else (if t523 = x12 then (some true) else (some false))))
end
def laws_FnExactRemove.f (k : Nat) (l0_0 : List (S62)) (a1 : ByteArray) : Option (Bool) := if (a1.size : Int) > 1048576 then (some true) else ((laws_szTree.f k l0_0 1048576).bind fun t485 => (if t485 < 0 then (some true) else ((laws_toTree.f k l0_0).bind fun t486 => ((spec_Remove.f k t486 a1).bind fun bt489 => ((laws_toTree.f k l0_0).bind fun t494 => ((impl_Remove.f k t494 a1).bind fun bt498 => ((laws_eqTree.f k bt498.1 bt489.1).bind fun t503 => (if t503 = true then (laws_FnExactRemove.j0 k a1 bt489.2 bt498.2 (bt498.2 != bt489.2) l0_0 bt489.1 t494 bt498.1) else (laws_FnExactRemove.j0 k a1 bt489.2 bt498.2 true l0_0 bt489.1 t494 bt498.1)))))))))
theorem laws_FnExactRemove.mono_l : ∀ k, (∀ y0 y1 y2 y3 y4 y5 y6 y7, LeO (laws_FnExactRemove.j0 k y0 y1 y2 y3 y4 y5 y6 y7) (laws_FnExactRemove.j0 (k + 1) y0 y1 y2 y3 y4 y5 y6 y7)) ∧ (∀ y0 y1 y2 y3 y4 y5, LeO (laws_FnExactRemove.j1 k y0 y1 y2 y3 y4 y5) (laws_FnExactRemove.j1 (k + 1) y0 y1 y2 y3 y4 y5)) ∧ (∀ y0 y1 y2, LeO (laws_FnExactRemove.j2 k y0 y1 y2) (laws_FnExactRemove.j2 (k + 1) y0 y1 y2))
 | 0 => ⟨fun _ _ _ _ _ _ _ _ r h => by simp [laws_FnExactRemove.j0] at h, fun _ _ _ _ _ _ r h => by simp [laws_FnExactRemove.j1] at h, fun _ _ _ r h => by simp [laws_FnExactRemove.j2] at h⟩
 | k + 1 => by
  obtain ⟨ih0, ih1, ih2⟩ := laws_FnExactRemove.mono_l k
  refine ⟨?_, ?_, ?_⟩
  ·intro y0 y1 y2 y3 y4 y5 y6 y7
   unfold laws_FnExactRemove.j0
   repeat' first
   | (with_reducible exact ih0 _ _ _ _ _ _ _ _)
   | (with_reducible exact ih1 _ _ _ _ _ _)
   | (with_reducible exact ih2 _ _ _)
   | (with_reducible exact impl_Remove.mono _ _ _)
   | (with_reducible exact laws_eqTree.mono _ _ _)
   | (with_reducible exact laws_heldTree.mono _ _ _)
   | (with_reducible exact laws_markTree.mono _ _ _)
   | (with_reducible exact laws_szTree.mono _ _ _)
   | (with_reducible exact laws_toTree.mono _ _)
   | (with_reducible exact spec_Remove.mono _ _ _)
   | (with_reducible exact LeO.refl _)
   | (with_reducible exact LeO.none _)
   | (with_reducible refine LeO.ite ?_ ?_)
   | (with_reducible refine LeO.bind ?_ (fun _ => ?_))
   | exact ih0 _ _ _ _ _ _ _ _
   | exact ih1 _ _ _ _ _ _
   | exact ih2 _ _ _
   | exact impl_Remove.mono _ _ _
   | exact laws_eqTree.mono _ _ _
   | exact laws_heldTree.mono _ _ _
   | exact laws_markTree.mono _ _ _
   | exact laws_szTree.mono _ _ _
   | exact laws_toTree.mono _ _
   | exact spec_Remove.mono _ _ _
   | exact LeO.none _
   | refine LeO.ite ?_ ?_
   | refine LeO.bind ?_ (fun _ => ?_)
  ·intro y0 y1 y2 y3 y4 y5
   unfold laws_FnExactRemove.j1
   repeat' first
   | (with_reducible exact ih0 _ _ _ _ _ _ _ _)
   | (with_reducible exact ih1 _ _ _ _ _ _)
   | (with_reducible exact ih2 _ _ _)
   | (with_reducible exact impl_Remove.mono _ _ _)
   | (with_reducible exact laws_eqTree.mono _ _ _)
   | (with_reducible exact laws_heldTree.mono _ _ _)
   | (with_reducible exact laws_markTree.mono _ _ _)
   | (with_reducible exact laws_szTree.mono _ _ _)
   | (with_reducible exact laws_toTree.mono _ _)
   | (with_reducible exact spec_Remove.mono _ _ _)
   | (with_reducible exact LeO.refl _)
   | (with_reducible exact LeO.none _)
   | (with_reducible refine LeO.ite ?_ ?_)
   | (with_reducible refine LeO.bind ?_ (fun _ => ?_))
   | exact ih0 _ _ _ _ _ _ _ _
   | exact ih1 _ _ _ _ _ _
   | exact ih2 _ _ _
   | exact impl_Remove.mono _ _ _
   | exact laws_eqTree.mono _ _ _
   | exact laws_heldTree.mono _ _ _
   | exact laws_markTree.mono _ _ _
   | exact laws_szTree.mono _ _ _
   | exact laws_toTree.mono _ _
   | exact spec_Remove.mono _ _ _
   | exact LeO.none _
   | refine LeO.ite ?_ ?_
   | refine LeO.bind ?_ (fun _ => ?_)
  ·intro y0 y1 y2
   unfold laws_FnExactRemove.j2
   repeat' first
   | (with_reducible exact ih0 _ _ _ _ _ _ _ _)
   | (with_reducible exact ih1 _ _ _ _ _ _)
   | (with_reducible exact ih2 _ _ _)
   | (with_reducible exact impl_Remove.mono _ _ _)
   | (with_reducible exact laws_eqTree.mono _ _ _)
   | (with_reducible exact laws_heldTree.mono _ _ _)
   | (with_reducible exact laws_markTree.mono _ _ _)
   | (with_reducible exact laws_szTree.mono _ _ _)
   | (with_reducible exact laws_toTree.mono _ _)
   | (with_reducible exact spec_Remove.mono _ _ _)
   | (with_reducible exact LeO.refl _)
   | (with_reducible exact LeO.none _)
   | (with_reducible refine LeO.ite ?_ ?_)
   | (with_reducible refine LeO.bind ?_ (fun _ => ?_))
   | exact ih0 _ _ _ _ _ _ _ _
   | exact ih1 _ _ _ _ _ _
   | exact ih2 _ _ _
   | exact impl_Remove.mono _ _ _
   | exact laws_eqTree.mono _ _ _
   | exact laws_heldTree.mono _ _ _
   | exact laws_markTree.mono _ _ _
   | exact laws_szTree.mono _ _ _
   | exact laws_toTree.mono _ _
   | exact spec_Remove.mono _ _ _
   | exact LeO.none _
   | refine LeO.ite ?_ ?_
   | refine LeO.bind ?_ (fun _ => ?_)
theorem laws_FnExactRemove.mono : ∀ a0 a1 k, LeO (laws_FnExactRemove.f k a0 a1) (laws_FnExactRemove.f (k + 1) a0 a1) := by
 intro a0 a1 k
 obtain ⟨ih0, ih1, ih2⟩ := laws_FnExactRemove.mono_l k
 unfold laws_FnExactRemove.f
 repeat' first
   | (with_reducible exact ih0 _ _ _ _ _ _ _ _)
   | (with_reducible exact ih1 _ _ _ _ _ _)
   | (with_reducible exact ih2 _ _ _)
   | (with_reducible exact impl_Remove.mono _ _ _)
   | (with_reducible exact laws_eqTree.mono _ _ _)
   | (with_reducible exact laws_heldTree.mono _ _ _)
   | (with_reducible exact laws_markTree.mono _ _ _)
   | (with_reducible exact laws_szTree.mono _ _ _)
   | (with_reducible exact laws_toTree.mono _ _)
   | (with_reducible exact spec_Remove.mono _ _ _)
   | (with_reducible exact LeO.refl _)
   | (with_reducible exact LeO.none _)
   | (with_reducible refine LeO.ite ?_ ?_)
   | (with_reducible refine LeO.bind ?_ (fun _ => ?_))
   | exact ih0 _ _ _ _ _ _ _ _
   | exact ih1 _ _ _ _ _ _
   | exact ih2 _ _ _
   | exact impl_Remove.mono _ _ _
   | exact laws_eqTree.mono _ _ _
   | exact laws_heldTree.mono _ _ _
   | exact laws_markTree.mono _ _ _
   | exact laws_szTree.mono _ _ _
   | exact laws_toTree.mono _ _
   | exact spec_Remove.mono _ _ _
   | exact LeO.none _
   | refine LeO.ite ?_ ?_
   | refine LeO.bind ?_ (fun _ => ?_)
set_option maxHeartbeats 8000000 in
set_option maxRecDepth 100000 in
theorem laws_FnExactRemove.calls (k : Nat) (A0_0 : Option Addr) (c0_0 : Nat) (l0_0 : List (S62)) (a1 : ByteArray) (r : Bool) (w : World) (hg : GOK w) (hr0_0 : Kd.C k62 w A0_0 l0_0.length l0_0) (hc0_0 : l0_0.length ≤ c0_0) (h : laws_FnExactRemove.f k l0_0 a1 = some r) (hrt : r = true) :
  Calls Tryd.prog 8 #[.agg #[.slice A0_0 l0_0.length c0_0], .string a1] w fun e w' => e = .returned (.bool r) ∧ Below w.heap.size w w' := by
 have HG := Aside0.mk hg
 clear hg
 have hu24 := Tryd.underlying24
 have hu29 := Tryd.underlying29
 have HR0_0 := Aside0.mk hr0_0
 have HC0_0 := Aside0.mk hc0_0
 clear hr0_0 hc0_0
 have HB := Aside0.mk (Below.refl w.heap.size w)
 have H : (if (a1.size : Int) > 1048576 then (some true) else ((laws_szTree.f k l0_0 1048576).bind fun t485 => (if t485 < 0 then (some true) else ((laws_toTree.f k l0_0).bind fun t486 => ((spec_Remove.f k t486 a1).bind fun bt489 => ((laws_toTree.f k l0_0).bind fun t494 => ((impl_Remove.f k t494 a1).bind fun bt498 => ((laws_eqTree.f k bt498.1 bt489.1).bind fun t503 => (if t503 = true then (laws_FnExactRemove.j0 k a1 bt489.2 bt498.2 (bt498.2 != bt489.2) l0_0 bt489.1 t494 bt498.1) else (laws_FnExactRemove.j0 k a1 bt489.2 bt498.2 true l0_0 bt489.1 t494 bt498.1)))))))))) = some r := h
 clear h
 by_cases c3 : (a1.size : Int) > 1048576
 ·rw [if_pos c3] at H
  have c3b0 : decide (1048576 < (a1.size : Int)) = true := decide_eq_true c3
  have c3b1 : decide (1048576 < a1.size) = true := decide_eq_true (by omega)
  clear c3
  obtain rfl := Option.some.inj H
  go_enter Tryd.func8, Tryd.ntmps8
  go_wp2_with (first | ((with_reducible refine gd 2 rfl ?_); refine bx 2 24 (#[.slice A0_0 l0_0.length c0_0]) ?_; intro gb484 hg w4 hbox hb; refine Ya4 (below_step (be HB.out) hb) (hbox) (bs hg (be HB.out)) (bs hg (be HB.out)) ?_; clear HB; intro HB BK484 GW484 GE484; clear hb hbox hg))
  go_ret
  exact ⟨Ye2, (by first | exact be1 HB.out GE484.out | exact be HB.out)⟩
 ·rw [if_neg c3] at H
  have c3b0 : decide (1048576 < (a1.size : Int)) = false := decide_eq_false c3
  have c3b1 : decide (1048576 < a1.size) = false := decide_eq_false (by omega)
  clear c3
  replace H := Option.bind_eq_some_iff.mp H
  obtain ⟨t485, A50, H⟩ := H
  replace H : (if t485 < 0 then (some true) else ((laws_toTree.f k l0_0).bind fun t486 => ((spec_Remove.f k t486 a1).bind fun bt489 => ((laws_toTree.f k l0_0).bind fun t494 => ((impl_Remove.f k t494 a1).bind fun bt498 => ((laws_eqTree.f k bt498.1 bt489.1).bind fun t503 => (if t503 = true then (laws_FnExactRemove.j0 k a1 bt489.2 bt498.2 (bt498.2 != bt489.2) l0_0 bt489.1 t494 bt498.1) else (laws_FnExactRemove.j0 k a1 bt489.2 bt498.2 true l0_0 bt489.1 t494 bt498.1)))))))) = some r := H
  have A5 := Aside0.mk A50
  clear A50
  by_cases c6 : t485 < 0
  ·rw [if_pos c6] at H
   have c6b0 : decide (t485 < 0) = true := decide_eq_true c6
   clear c6
   obtain rfl := Option.some.inj H
   go_enter Tryd.func8, Tryd.ntmps8
   go_wp2_with (first | ((with_reducible refine gd 2 rfl ?_); refine bx 2 24 (#[.slice A0_0 l0_0.length c0_0]) ?_; intro gb484 hg w7 hbox hb; refine Ya4 (below_step (be HB.out) hb) (hbox) (bs hg (be HB.out)) (bs hg (be HB.out)) ?_; clear HB; intro HB BK484 GW484 GE484; clear hb hbox hg; have ⟨hcz8_0, hfz8_0⟩ := Yc1 BK484.out) | ((with_reducible refine gc 12 rfl ?_); refine gl (some 21) _ (#[.agg #[.slice A0_0 l0_0.length c0_0], .int .i64 1048576]) Tryd.func12 ?_; (with_reducible refine (laws_szTree.calls k _ _ l0_0 1048576 t485 _ ?side1 ?side2 A5.out).mono ?_); (case side1 => exact cb (Kd.C_below HR0_0.out HB.out)); (case side2 => exact HC0_0.out); rintro e w9 ⟨rfl, hb⟩; refine ⟨_, rfl, ?_⟩; refine Ya2 (bb BK484 hb) (below_step (be1 HB.out GE484.out) hb) ?_; clear BK484 HB; intro BK484 HB; (try clear hb); (try clear hb2); (try clear hk); (try clear hi)))
   go_ret
   exact ⟨Ye2, (by first | exact be1 HB.out GE484.out | exact be HB.out)⟩
  ·rw [if_neg c6] at H
   have c6b0 : decide (t485 < 0) = false := decide_eq_false c6
   clear c6
   replace H := Option.bind_eq_some_iff.mp H
   obtain ⟨t486, A100, H⟩ := H
   replace H : ((spec_Remove.f k t486 a1).bind fun bt489 => ((laws_toTree.f k l0_0).bind fun t494 => ((impl_Remove.f k t494 a1).bind fun bt498 => ((laws_eqTree.f k bt498.1 bt489.1).bind fun t503 => (if t503 = true then (laws_FnExactRemove.j0 k a1 bt489.2 bt498.2 (bt498.2 != bt489.2) l0_0 bt489.1 t494 bt498.1) else (laws_FnExactRemove.j0 k a1 bt489.2 bt498.2 true l0_0 bt489.1 t494 bt498.1)))))) = some r := H
   have A10 := Aside0.mk A100
   clear A100
   replace H := Option.bind_eq_some_iff.mp H
   obtain ⟨⟨t489, t492⟩, A110, H⟩ := H
   replace H : ((laws_toTree.f k l0_0).bind fun t494 => ((impl_Remove.f k t494 a1).bind fun bt498 => ((laws_eqTree.f k bt498.1 t489).bind fun t503 => (if t503 = true then (laws_FnExactRemove.j0 k a1 t492 bt498.2 (bt498.2 != t492) l0_0 t489 t494 bt498.1) else (laws_FnExactRemove.j0 k a1 t492 bt498.2 true l0_0 t489 t494 bt498.1))))) = some r := H
   have A11 := Aside0.mk A110
   clear A110
   replace H := Option.bind_eq_some_iff.mp H
   obtain ⟨t494, A120, H⟩ := H
   replace H : ((impl_Remove.f k t494 a1).bind fun bt498 => ((laws_eqTree.f k bt498.1 t489).bind fun t503 => (if t503 = true then (laws_FnExactRemove.j0 k a1 t492 bt498.2 (bt498.2 != t492) l0_0 t489 t494 bt498.1) else (laws_FnExactRemove.j0 k a1 t492 bt498.2 true l0_0 t489 t494 bt498.1)))) = some r := H
   have A12 := Aside0.mk A120
   clear A120
   replace H := Option.bind_eq_some_iff.mp H
   obtain ⟨⟨t498, t501⟩, A130, H⟩ := H
   replace H : ((laws_eqTree.f k t498 t489).bind fun t503 => (if t503 = true then (laws_FnExactRemove.j0 k a1 t492 t501 (t501 != t492) l0_0 t489 t494 t498) else (laws_FnExactRemove.j0 k a1 t492 t501 true l0_0 t489 t494 t498))) = some r := H
   have A13 := Aside0.mk A130
   clear A130
   have HC14 := Aside0.mk H
   clear H
   go_enter Tryd.func8, Tryd.ntmps8
   go_upto_region 10 with (first | ((with_reducible refine gd 2 rfl ?_); refine bx 2 24 (#[.slice A0_0 l0_0.length c0_0]) ?_; intro gb484 hg w15 hbox hb; refine Ya4 (below_step (be HB.out) hb) (hbox) (bs hg (be HB.out)) (bs hg (be HB.out)) ?_; clear HB; intro HB BK484 GW484 GE484; clear hb hbox hg; have ⟨hcz16_0, hfz16_0⟩ := Yc1 BK484.out) | ((with_reducible refine gc 12 rfl ?_); refine gl (some 21) _ (#[.agg #[.slice A0_0 l0_0.length c0_0], .int .i64 1048576]) Tryd.func12 ?_; (with_reducible refine (laws_szTree.calls k _ _ l0_0 1048576 t485 _ ?side1 ?side2 A5.out).mono ?_); (case side1 => exact cb (Kd.C_below HR0_0.out HB.out)); (case side2 => exact HC0_0.out); rintro e w17 ⟨rfl, hb⟩; refine ⟨_, rfl, ?_⟩; refine Ya2 (bb BK484 hb) (below_step (be1 HB.out GE484.out) hb) ?_; clear BK484 HB; intro BK484 HB; (try clear hb); (try clear hb2); (try clear hk); (try clear hi); have ⟨hcz18_0, hfz18_0⟩ := Yc1 BK484.out) | ((with_reducible refine gc 14 rfl ?_); refine gl (some 26) _ (#[.agg #[.slice A0_0 l0_0.length c0_0]]) Tryd.func14 ?_; (with_reducible refine (laws_toTree.calls k _ _ l0_0 t486 _ ?side1 ?side2 A10.out).mono ?_); (case side1 => exact cb (Kd.C_below HR0_0.out HB.out)); (case side2 => exact HC0_0.out); rintro e w19 ⟨v487, rfl, ho0, hb⟩; refine ⟨_, rfl, ?_⟩; refine Ya3 (Kd.R_lower ho0 (below_size (be1 HB.out GE484.out))) (bb BK484 hb) (below_step (be1 HB.out GE484.out) hb) ?_; clear BK484 HB; intro HO488 BK484 HB; (try clear hb); (try clear hb2); (try clear hk); (try clear hi); (try clear ho0); obtain ⟨Ao20, co20, eo20⟩ := Kd.R_slice HO488.out; subst eo20) | ((with_reducible refine gc 33 rfl ?_); refine gl (some 28) _ (#[.agg #[.slice Ao20 t486.length co20], .string a1]) Tryd.func33 ?_; (with_reducible refine (spec_Remove.calls k _ _ t486 a1 t489 t492 _ ?side1 ?side2 A11.out).mono ?_); (case side1 => repeat (first | exact (Kd.R_reads' HO488.out).2.2 | (with_reducible refine Kd.C_alloc ?_ _) | (with_reducible refine Kd.C_drewN ?_ _) | (with_reducible refine Kd.C_drew ?_))); (case side2 => exact (Kd.R_reads' HO488.out).2.1); rintro e w21 ⟨v490, rfl, ho0, hb⟩; refine ⟨_, rfl, ?_⟩; refine Ya4 (Kd.R_elder' (kr HO488.out) (Kd.R_base ho0) hb) (Kd.R_lower (Kd.R_new' ho0 (Kd.R_lt (kr HO488.out))) (below_size (be1 HB.out GE484.out))) (bb BK484 hb) (below_step (be1 HB.out GE484.out) hb) ?_; clear HO488 BK484 HB; intro HO488 HO491 BK484 HB; (try clear hb); (try clear hb2); (try clear hk); (try clear hi); (try clear ho0)) | ((with_reducible refine gd 6 rfl ?_); refine bx 6 29 (#[.slice none 0 0]) ?_; intro gb493 hg w22 hbox hb; have n0_ := Aside0.mk (Kd.R_below (kr HO488.out) hb); have n1_ := Aside0.mk (Kd.R_below (kr HO491.out) hb); have n2_ := Aside0.mk (bb BK484 hb); have n3_ := Aside0.mk (below_step (be1 HB.out GE484.out) hb); have n4_ := Aside0.mk (hbox); have n5_ := Aside0.mk (bs hg (be1 HB.out GE484.out)); have n6_ := Aside0.mk (bs hg (be1 HB.out GE484.out)); have n7_ := Aside0.mk (bl hg BK484); have n8_ := Aside0.mk (br hg BK484); clear HO488; clear HO491; clear BK484; clear HB; have HO488 := n0_; have HO491 := n1_; have BK484 := n2_; have HB := n3_; have BK493 := n4_; have GW493 := n5_; have GE493 := n6_; have NB484_493 := n7_; have NB493_484 := n8_; clear n0_ n1_ n2_ n3_ n4_ n5_ n6_ n7_ n8_; clear hb hbox hg; obtain ⟨Ao23, co23, eo23⟩ := Kd.R_slice HO491.out; subst eo23; have hnb24 := NB493_484.out; have hnc24 := NB484_493.out; have ⟨hcz25_0, hfz25_0⟩ := Yc1 BK493.out; have ⟨hcz26_0, hfz26_0⟩ := Yc1 BK484.out) | ((with_reducible refine gc 14 rfl ?_); refine gl (some 32) _ (#[.agg #[.slice A0_0 l0_0.length c0_0]]) Tryd.func14 ?_; (with_reducible refine (laws_toTree.calls k _ _ l0_0 t494 _ ?side1 ?side2 A12.out).mono ?_); (case side1 => exact Kd.C_below HR0_0.out (be2 HB.out GE484.out GE493.out)); (case side2 => exact HC0_0.out); rintro e w27 ⟨v495, rfl, ho0, hb⟩; refine ⟨_, rfl, ?_⟩; refine Ya6 (Kd.R_elder' (by (with_reducible repeat (first | apply Kd.R_alloc | apply Kd.R_drewN | apply Kd.R_drew)); exact (Kd.R_mono (Kd.R_far (p := ⟨gb493, 0, none⟩) (Kd.R_types HO488.out BK493.out (by decide)) (fun _ hk => hk.2) (.slice Ao23 t489.length co23)) (fun _ h_ => h_.1))) (Kd.R_base ho0) hb) (Kd.R_elder' (by (with_reducible repeat (first | apply Kd.R_alloc | apply Kd.R_drewN | apply Kd.R_drew)); exact (Kd.R_mono (Kd.R_far (p := ⟨gb493, 0, none⟩) (Kd.R_types HO491.out BK493.out (by decide)) (fun _ hk => hk.2) (.slice Ao23 t489.length co23)) (fun _ h_ => h_.1))) (Kd.R_base ho0) hb) (Kd.R_lower (Kd.R_new' (Kd.R_new' ho0 (Kd.R_lt (by (with_reducible repeat (first | apply Kd.R_alloc | apply Kd.R_drewN | apply Kd.R_drew)); exact (Kd.R_mono (Kd.R_far (p := ⟨gb493, 0, none⟩) (Kd.R_types HO488.out BK493.out (by decide)) (fun _ hk => hk.2) (.slice Ao23 t489.length co23)) (fun _ h_ => h_.1))))) (Kd.R_lt (by (with_reducible repeat (first | apply Kd.R_alloc | apply Kd.R_drewN | apply Kd.R_drew)); exact (Kd.R_mono (Kd.R_far (p := ⟨gb493, 0, none⟩) (Kd.R_types HO491.out BK493.out (by decide)) (fun _ hk => hk.2) (.slice Ao23 t489.length co23)) (fun _ h_ => h_.1))))) (below_size (be2 HB.out GE484.out GE493.out))) (blk_below (g := gb484) (o := .cells #[.slice A0_0 l0_0.length c0_0] 24 (0, 0)) (bkf BK484.out NB484_493.out) hb) (blk_below (g := gb493) (o := .cells #[.slice Ao23 t489.length co23] 29 (0, 0)) (by (with_reducible repeat (first | refine blk_drewN ?_ _ | refine blk_drew ?_ | refine blk_alloc ?_ _)); refine blk_put (cs := #[.slice none 0 0]) ?_ 0 _ rfl; (with_reducible repeat (first | refine blk_drewN ?_ _ | refine blk_drew ?_ | refine blk_alloc ?_ _)); exact BK493.out) hb) (below_step (be2 HB.out GE484.out GE493.out) hb) ?_; clear HO488 HO491 BK484 BK493 HB; intro HO488 HO491 HO496 BK484 BK493 HB; (try clear hb); (try clear hb2); (try clear hk); (try clear hi); (try clear ho0)) | ((with_reducible refine gd 8 rfl ?_); refine bx 8 29 (#[.slice none 0 0]) ?_; intro gb497 hg w28 hbox hb; have n0_ := Aside0.mk (Kd.R_below (kr HO488.out) hb); have n1_ := Aside0.mk (Kd.R_below (kr HO491.out) hb); have n2_ := Aside0.mk (Kd.R_below (kr HO496.out) hb); have n3_ := Aside0.mk (bb BK484 hb); have n4_ := Aside0.mk (bb BK493 hb); have n5_ := Aside0.mk (below_step (be2 HB.out GE484.out GE493.out) hb); have n6_ := Aside0.mk (hbox); have n7_ := Aside0.mk (bs hg (be2 HB.out GE484.out GE493.out)); have n8_ := Aside0.mk (bs hg (be2 HB.out GE484.out GE493.out)); have n9_ := Aside0.mk (bl hg BK484); have n10_ := Aside0.mk (br hg BK484); have n11_ := Aside0.mk (bl hg BK493); have n12_ := Aside0.mk (br hg BK493); clear HO488; clear HO491; clear HO496; clear BK484; clear BK493; clear HB; have HO488 := n0_; have HO491 := n1_; have HO496 := n2_; have BK484 := n3_; have BK493 := n4_; have HB := n5_; have BK497 := n6_; have GW497 := n7_; have GE497 := n8_; have NB484_497 := n9_; have NB497_484 := n10_; have NB493_497 := n11_; have NB497_493 := n12_; clear n0_ n1_ n2_ n3_ n4_ n5_ n6_ n7_ n8_ n9_ n10_ n11_ n12_; clear hb hbox hg; obtain ⟨Ao29, co29, eo29⟩ := Kd.R_slice HO496.out; subst eo29; have hnb30 := NB497_484.out; have hnc30 := NB484_497.out; have hnb31 := NB497_493.out; have hnc31 := NB493_497.out; have ⟨hcz32_0, hfz32_0⟩ := Yc1 BK497.out) | ((with_reducible refine gc 34 rfl ?_); refine gl (some 36) _ (#[.agg #[.slice Ao29 t494.length co29], .string a1]) Tryd.func34 ?_; (with_reducible refine (impl_Remove.calls k _ _ t494 a1 t498 t501 _ ?sideG ?side1 ?side2 A13.out).mono ?_); (case sideG => (first | exact HG.out | exact GOK.below HG.out (by repeat (first | (with_reducible first | exact HB.out | apply below_alloc | apply pw_below_drewN | apply below_drew1 | refine below_set ?_ GE484.out | refine below_set ?_ GE493.out | refine below_set ?_ GE497.out | refine below_set ?_ GE502.out | refine below_set ?_ GE521.out) | exact HB.out | exact Below.refl _ _)))); (case side1 => refine (Kd.R_reads' (e := 45) (base := w.heap.size) (ok := fun k_ => ((True ∧ some k_ ≠ (.slice Ao20 t486.length co20 : Value).ownBlock) ∧ some k_ ≠ (.slice Ao23 t489.length co23 : Value).ownBlock)) (n := t494.length) (c := co29) ?_).2.2; exact (by (with_reducible repeat (first | apply Kd.R_alloc | apply Kd.R_drewN | apply Kd.R_drew)); exact (Kd.R_mono (Kd.R_far (p := ⟨gb497, 0, none⟩) (Kd.R_types HO496.out BK497.out (by decide)) (fun _ hk => hk.2) (.slice Ao29 t494.length co29)) (fun _ h_ => h_.1)))); (case side2 => exact (Kd.R_reads' HO496.out).2.1); rintro e w33 ⟨v499, rfl, ho0, hb⟩; refine ⟨_, rfl, ?_⟩; refine Ya8 (Kd.R_elder' (by (with_reducible repeat (first | apply Kd.R_alloc | apply Kd.R_drewN | apply Kd.R_drew)); exact (Kd.R_mono (Kd.R_far (p := ⟨gb497, 0, none⟩) (Kd.R_types HO488.out BK497.out (by decide)) (fun _ hk => hk.2) (.slice Ao29 t494.length co29)) (fun _ h_ => h_.1))) (Kd.R_base ho0) hb) (Kd.R_elder' (by (with_reducible repeat (first | apply Kd.R_alloc | apply Kd.R_drewN | apply Kd.R_drew)); exact (Kd.R_mono (Kd.R_far (p := ⟨gb497, 0, none⟩) (Kd.R_types HO491.out BK497.out (by decide)) (fun _ hk => hk.2) (.slice Ao29 t494.length co29)) (fun _ h_ => h_.1))) (Kd.R_base ho0) hb) (Kd.R_elder' (by (with_reducible repeat (first | apply Kd.R_alloc | apply Kd.R_drewN | apply Kd.R_drew)); exact (Kd.R_mono (Kd.R_far (p := ⟨gb497, 0, none⟩) (Kd.R_types HO496.out BK497.out (by decide)) (fun _ hk => hk.2) (.slice Ao29 t494.length co29)) (fun _ h_ => h_.1))) (Kd.R_base ho0) hb) (Kd.R_lower (Kd.R_new' (Kd.R_new' (Kd.R_new' ho0 (Kd.R_lt (by (with_reducible repeat (first | apply Kd.R_alloc | apply Kd.R_drewN | apply Kd.R_drew)); exact (Kd.R_mono (Kd.R_far (p := ⟨gb497, 0, none⟩) (Kd.R_types HO488.out BK497.out (by decide)) (fun _ hk => hk.2) (.slice Ao29 t494.length co29)) (fun _ h_ => h_.1))))) (Kd.R_lt (by (with_reducible repeat (first | apply Kd.R_alloc | apply Kd.R_drewN | apply Kd.R_drew)); exact (Kd.R_mono (Kd.R_far (p := ⟨gb497, 0, none⟩) (Kd.R_types HO491.out BK497.out (by decide)) (fun _ hk => hk.2) (.slice Ao29 t494.length co29)) (fun _ h_ => h_.1))))) (Kd.R_lt (by (with_reducible repeat (first | apply Kd.R_alloc | apply Kd.R_drewN | apply Kd.R_drew)); exact (Kd.R_mono (Kd.R_far (p := ⟨gb497, 0, none⟩) (Kd.R_types HO496.out BK497.out (by decide)) (fun _ hk => hk.2) (.slice Ao29 t494.length co29)) (fun _ h_ => h_.1))))) (below_size (be3 HB.out GE484.out GE493.out GE497.out))) (blk_below (g := gb484) (o := .cells #[.slice A0_0 l0_0.length c0_0] 24 (0, 0)) (bkf BK484.out NB484_497.out) hb) (blk_below (g := gb493) (o := .cells #[.slice Ao23 t489.length co23] 29 (0, 0)) (bkf BK493.out NB493_497.out) hb) (blk_below (g := gb497) (o := .cells #[.slice Ao29 t494.length co29] 29 (0, 0)) (by (with_reducible repeat (first | refine blk_drewN ?_ _ | refine blk_drew ?_ | refine blk_alloc ?_ _)); refine blk_put (cs := #[.slice none 0 0]) ?_ 0 _ rfl; (with_reducible repeat (first | refine blk_drewN ?_ _ | refine blk_drew ?_ | refine blk_alloc ?_ _)); exact BK497.out) hb) (below_step (be3 HB.out GE484.out GE493.out GE497.out) hb) ?_; clear HO488 HO491 HO496 BK484 BK493 BK497 HB; intro HO488 HO491 HO496 HO500 BK484 BK493 BK497 HB; (try clear hb); (try clear hb2); (try clear hk); (try clear hi); (try clear ho0)) | ((with_reducible refine gd 9 rfl ?_); refine bx 9 29 (#[.slice none 0 0]) ?_; intro gb502 hg w34 hbox hb; have n0_ := Aside0.mk (Kd.R_below (kr HO488.out) hb); have n1_ := Aside0.mk (Kd.R_below (kr HO491.out) hb); have n2_ := Aside0.mk (Kd.R_below (kr HO496.out) hb); have n3_ := Aside0.mk (Kd.R_below (kr HO500.out) hb); have n4_ := Aside0.mk (bb BK484 hb); have n5_ := Aside0.mk (bb BK493 hb); have n6_ := Aside0.mk (bb BK497 hb); have n7_ := Aside0.mk (below_step (be3 HB.out GE484.out GE493.out GE497.out) hb); have n8_ := Aside0.mk (hbox); have n9_ := Aside0.mk (bs hg (be3 HB.out GE484.out GE493.out GE497.out)); have n10_ := Aside0.mk (bs hg (be3 HB.out GE484.out GE493.out GE497.out)); have n11_ := Aside0.mk (bl hg BK484); have n12_ := Aside0.mk (br hg BK484); have n13_ := Aside0.mk (bl hg BK493); have n14_ := Aside0.mk (br hg BK493); have n15_ := Aside0.mk (bl hg BK497); have n16_ := Aside0.mk (br hg BK497); clear HO488; clear HO491; clear HO496; clear HO500; clear BK484; clear BK493; clear BK497; clear HB; have HO488 := n0_; have HO491 := n1_; have HO496 := n2_; have HO500 := n3_; have BK484 := n4_; have BK493 := n5_; have BK497 := n6_; have HB := n7_; have BK502 := n8_; have GW502 := n9_; have GE502 := n10_; have NB484_502 := n11_; have NB502_484 := n12_; have NB493_502 := n13_; have NB502_493 := n14_; have NB497_502 := n15_; have NB502_497 := n16_; clear n0_ n1_ n2_ n3_ n4_ n5_ n6_ n7_ n8_ n9_ n10_ n11_ n12_ n13_ n14_ n15_ n16_; clear hb hbox hg; obtain ⟨Ao35, co35, eo35⟩ := Kd.R_slice HO500.out; subst eo35; have hnb36 := NB502_484.out; have hnc36 := NB484_502.out; have hnb37 := NB502_493.out; have hnc37 := NB493_502.out; have hnb38 := NB502_497.out; have hnc38 := NB497_502.out; have ⟨hcz39_0, hfz39_0⟩ := Yc1 BK502.out))
   (try simp only [Act.put, List.setIfInBounds_toArray, List.set_cons_zero, List.set_cons_succ])
   go_cut [47] (fun v47 wc => ∃ (kq : Nat) (x47_13 : Bool), v47 = .bool x47_13 ∧ Aside0 (laws_FnExactRemove.j0 kq a1 t492 t501 x47_13 l0_0 t489 t494 t498 = some r) ∧ Aside0 (kq ≤ k) ∧ Aside0 (Kd.R k45 45 wc w.heap.size (fun k_ => some k_ ≠ ((.slice Ao29 t494.length co29) : Value).ownBlock ∧ some k_ ≠ ((.slice Ao35 t498.length co35) : Value).ownBlock) (.slice Ao23 t489.length co23) t489) ∧ Aside0 (Kd.R k45 45 wc w.heap.size (fun k_ => some k_ ≠ ((.slice Ao23 t489.length co23) : Value).ownBlock ∧ some k_ ≠ ((.slice Ao35 t498.length co35) : Value).ownBlock) (.slice Ao29 t494.length co29) t494) ∧ Aside0 (Kd.R k45 45 wc w.heap.size (fun k_ => some k_ ≠ ((.slice Ao23 t489.length co23) : Value).ownBlock ∧ some k_ ≠ ((.slice Ao29 t494.length co29) : Value).ownBlock) (.slice Ao35 t498.length co35) t498) ∧ Aside0 (wc.heap[gb484]? = some (.cells #[(.slice A0_0 l0_0.length c0_0)] 24 (0, 0))) ∧ Aside0 (wc.heap[gb493]? = some (.cells #[(.slice Ao23 t489.length co23)] 29 (0, 0))) ∧ Aside0 (wc.heap[gb497]? = some (.cells #[(.slice Ao29 t494.length co29)] 29 (0, 0))) ∧ Aside0 (wc.heap[gb502]? = some (.cells #[(.slice Ao35 t498.length co35)] 29 (0, 0))) ∧ Aside0 (Below w.heap.size w wc))
   case first =>
    have H := HC14.out
    clear HC14
    replace H := Option.bind_eq_some_iff.mp H
    obtain ⟨t503, A400, H⟩ := H
    replace H : (if t503 = true then (laws_FnExactRemove.j0 k a1 t492 t501 (t501 != t492) l0_0 t489 t494 t498) else (laws_FnExactRemove.j0 k a1 t492 t501 true l0_0 t489 t494 t498)) = some r := H
    have A40 := Aside0.mk A400
    clear A400
    by_cases c41 : t503 = true
    ·subst c41
     have H1 : (laws_FnExactRemove.j0 k a1 t492 t501 (t501 != t492) l0_0 t489 t494 t498) = some r := by rw [if_pos rfl] at H; exact H
     clear H
     have H := H1
     clear H1
     have H' := Aside0.mk H
     clear H
     have hnb42 := NB502_484.out
     have hnc42 := NB484_502.out
     have hnb43 := NB502_493.out
     have hnc43 := NB493_502.out
     have hnb44 := NB502_497.out
     have hnc44 := NB497_502.out
     have ⟨hcz45_0, hfz45_0⟩ := Yc1 BK502.out
     have hnb46 := NB493_484.out
     have hnc46 := NB484_493.out
     have hnb47 := NB493_497.out
     have hnc47 := NB497_493.out
     have ⟨hcz48_0, hfz48_0⟩ := Yc1 BK493.out
     go_wp2_with (first | ((with_reducible refine gc 16 rfl ?_); refine gl (some 41) _ (#[.agg #[.slice Ao35 t498.length co35], .agg #[.slice Ao23 t489.length co23]]) Tryd.func16 ?_; (with_reducible refine (laws_eqTree.calls k _ _ t498 _ _ t489 true _ ?side1 ?side2 ?side3 ?side4 A40.out).mono ?_); (case side1 => refine (Kd.R_reads' (e := 45) (base := w.heap.size) (ok := fun k_ => (((True ∧ some k_ ≠ (.slice Ao20 t486.length co20 : Value).ownBlock) ∧ some k_ ≠ (.slice Ao23 t489.length co23 : Value).ownBlock) ∧ some k_ ≠ (.slice Ao29 t494.length co29 : Value).ownBlock)) (n := t498.length) (c := co35) ?_).2.2; exact (by (with_reducible repeat (first | apply Kd.R_alloc | apply Kd.R_drewN | apply Kd.R_drew)); exact (Kd.R_mono (Kd.R_far (p := ⟨gb502, 0, none⟩) (Kd.R_types HO500.out BK502.out (by decide)) (fun _ hk => hk.2) (.slice Ao35 t498.length co35)) (fun _ h_ => h_.1)))); (case side2 => exact (Kd.R_reads' HO500.out).2.1); (case side3 => refine (Kd.R_reads' (e := 45) (base := w.heap.size) (ok := fun k_ => (((True ∧ some k_ ≠ (.slice Ao20 t486.length co20 : Value).ownBlock) ∧ some k_ ≠ (.slice Ao29 t494.length co29 : Value).ownBlock) ∧ some k_ ≠ (.slice Ao35 t498.length co35 : Value).ownBlock)) (n := t489.length) (c := co23) ?_).2.2; exact (by (with_reducible repeat (first | apply Kd.R_alloc | apply Kd.R_drewN | apply Kd.R_drew)); exact (Kd.R_mono (Kd.R_far (p := ⟨gb502, 0, none⟩) (Kd.R_types HO491.out BK502.out (by decide)) (fun _ hk => hk.2) (.slice Ao35 t498.length co35)) (fun _ h_ => h_.1)))); (case side4 => exact (Kd.R_reads' HO491.out).2.1); rintro e w49 ⟨rfl, hb⟩; refine ⟨_, rfl, ?_⟩; have n0_ := Aside0.mk (Kd.R_below (by (with_reducible repeat (first | apply Kd.R_alloc | apply Kd.R_drewN | apply Kd.R_drew)); exact (Kd.R_mono (Kd.R_far (p := ⟨gb502, 0, none⟩) (Kd.R_types HO488.out BK502.out (by decide)) (fun _ hk => hk.2) (.slice Ao35 t498.length co35)) (fun _ h_ => h_.1))) hb); have n1_ := Aside0.mk (Kd.R_below (by (with_reducible repeat (first | apply Kd.R_alloc | apply Kd.R_drewN | apply Kd.R_drew)); exact (Kd.R_mono (Kd.R_far (p := ⟨gb502, 0, none⟩) (Kd.R_types HO491.out BK502.out (by decide)) (fun _ hk => hk.2) (.slice Ao35 t498.length co35)) (fun _ h_ => h_.1))) hb); have n2_ := Aside0.mk (Kd.R_below (by (with_reducible repeat (first | apply Kd.R_alloc | apply Kd.R_drewN | apply Kd.R_drew)); exact (Kd.R_mono (Kd.R_far (p := ⟨gb502, 0, none⟩) (Kd.R_types HO496.out BK502.out (by decide)) (fun _ hk => hk.2) (.slice Ao35 t498.length co35)) (fun _ h_ => h_.1))) hb); have n3_ := Aside0.mk (Kd.R_below (by (with_reducible repeat (first | apply Kd.R_alloc | apply Kd.R_drewN | apply Kd.R_drew)); exact (Kd.R_mono (Kd.R_far (p := ⟨gb502, 0, none⟩) (Kd.R_types HO500.out BK502.out (by decide)) (fun _ hk => hk.2) (.slice Ao35 t498.length co35)) (fun _ h_ => h_.1))) hb); have n4_ := Aside0.mk (blk_below (g := gb484) (o := .cells #[.slice A0_0 l0_0.length c0_0] 24 (0, 0)) (bkf BK484.out NB484_502.out) hb); have n5_ := Aside0.mk (blk_below (g := gb493) (o := .cells #[.slice Ao23 t489.length co23] 29 (0, 0)) (bkf BK493.out NB493_502.out) hb); have n6_ := Aside0.mk (blk_below (g := gb497) (o := .cells #[.slice Ao29 t494.length co29] 29 (0, 0)) (bkf BK497.out NB497_502.out) hb); have n7_ := Aside0.mk (blk_below (g := gb502) (o := .cells #[.slice Ao35 t498.length co35] 29 (0, 0)) (by (with_reducible repeat (first | refine blk_drewN ?_ _ | refine blk_drew ?_ | refine blk_alloc ?_ _)); refine blk_put (cs := #[.slice none 0 0]) ?_ 0 _ rfl; (with_reducible repeat (first | refine blk_drewN ?_ _ | refine blk_drew ?_ | refine blk_alloc ?_ _)); exact BK502.out) hb); have n8_ := Aside0.mk (below_step (be4 HB.out GE484.out GE493.out GE497.out GE502.out) hb); clear HO488; clear HO491; clear HO496; clear HO500; clear BK484; clear BK493; clear BK497; clear BK502; clear HB; have HO488 := n0_; have HO491 := n1_; have HO496 := n2_; have HO500 := n3_; have BK484 := n4_; have BK493 := n5_; have BK497 := n6_; have BK502 := n7_; have HB := n8_; clear n0_ n1_ n2_ n3_ n4_ n5_ n6_ n7_ n8_; (try clear hb); (try clear hb2); (try clear hk); (try clear hi)))
     go_meet
     case rel => exact ⟨_, ((t501 != t492)), Ye1, H', ⟨by first | omega | exact Nat.le_refl _⟩, ⟨by (with_reducible repeat (first | apply Kd.R_alloc | apply Kd.R_drewN | apply Kd.R_drew)); exact Kd.R_mono HO491.out (fun _ hk => ⟨hk.1.2, hk.2⟩)⟩, ⟨by (with_reducible repeat (first | apply Kd.R_alloc | apply Kd.R_drewN | apply Kd.R_drew)); exact Kd.R_mono HO496.out (fun _ hk => ⟨hk.1.2, hk.2⟩)⟩, ⟨by (with_reducible repeat (first | apply Kd.R_alloc | apply Kd.R_drewN | apply Kd.R_drew)); exact Kd.R_mono HO500.out (fun _ hk => ⟨hk.1.2, hk.2⟩)⟩, ⟨bk BK484.out⟩, ⟨bk BK493.out⟩, ⟨bk BK497.out⟩, ⟨bk BK502.out⟩, ⟨be4 HB.out GE484.out GE493.out GE497.out GE502.out⟩⟩
    ·replace c41 := Bool.eq_false_iff.mpr c41
     subst c41
     have H1 : (laws_FnExactRemove.j0 k a1 t492 t501 true l0_0 t489 t494 t498) = some r := by rw [if_neg (show ¬ (false = true) by decide)] at H; exact H
     clear H
     have H := H1
     clear H1
     have H' := Aside0.mk H
     clear H
     have hnb50 := NB502_484.out
     have hnc50 := NB484_502.out
     have hnb51 := NB502_493.out
     have hnc51 := NB493_502.out
     have hnb52 := NB502_497.out
     have hnc52 := NB497_502.out
     have ⟨hcz53_0, hfz53_0⟩ := Yc1 BK502.out
     have hnb54 := NB493_484.out
     have hnc54 := NB484_493.out
     have hnb55 := NB493_497.out
     have hnc55 := NB497_493.out
     have ⟨hcz56_0, hfz56_0⟩ := Yc1 BK493.out
     go_wp2_with (first | ((with_reducible refine gc 16 rfl ?_); refine gl (some 41) _ (#[.agg #[.slice Ao35 t498.length co35], .agg #[.slice Ao23 t489.length co23]]) Tryd.func16 ?_; (with_reducible refine (laws_eqTree.calls k _ _ t498 _ _ t489 false _ ?side1 ?side2 ?side3 ?side4 A40.out).mono ?_); (case side1 => refine (Kd.R_reads' (e := 45) (base := w.heap.size) (ok := fun k_ => (((True ∧ some k_ ≠ (.slice Ao20 t486.length co20 : Value).ownBlock) ∧ some k_ ≠ (.slice Ao23 t489.length co23 : Value).ownBlock) ∧ some k_ ≠ (.slice Ao29 t494.length co29 : Value).ownBlock)) (n := t498.length) (c := co35) ?_).2.2; exact (by (with_reducible repeat (first | apply Kd.R_alloc | apply Kd.R_drewN | apply Kd.R_drew)); exact (Kd.R_mono (Kd.R_far (p := ⟨gb502, 0, none⟩) (Kd.R_types HO500.out BK502.out (by decide)) (fun _ hk => hk.2) (.slice Ao35 t498.length co35)) (fun _ h_ => h_.1)))); (case side2 => exact (Kd.R_reads' HO500.out).2.1); (case side3 => refine (Kd.R_reads' (e := 45) (base := w.heap.size) (ok := fun k_ => (((True ∧ some k_ ≠ (.slice Ao20 t486.length co20 : Value).ownBlock) ∧ some k_ ≠ (.slice Ao29 t494.length co29 : Value).ownBlock) ∧ some k_ ≠ (.slice Ao35 t498.length co35 : Value).ownBlock)) (n := t489.length) (c := co23) ?_).2.2; exact (by (with_reducible repeat (first | apply Kd.R_alloc | apply Kd.R_drewN | apply Kd.R_drew)); exact (Kd.R_mono (Kd.R_far (p := ⟨gb502, 0, none⟩) (Kd.R_types HO491.out BK502.out (by decide)) (fun _ hk => hk.2) (.slice Ao35 t498.length co35)) (fun _ h_ => h_.1)))); (case side4 => exact (Kd.R_reads' HO491.out).2.1); rintro e w57 ⟨rfl, hb⟩; refine ⟨_, rfl, ?_⟩; have n0_ := Aside0.mk (Kd.R_below (by (with_reducible repeat (first | apply Kd.R_alloc | apply Kd.R_drewN | apply Kd.R_drew)); exact (Kd.R_mono (Kd.R_far (p := ⟨gb502, 0, none⟩) (Kd.R_types HO488.out BK502.out (by decide)) (fun _ hk => hk.2) (.slice Ao35 t498.length co35)) (fun _ h_ => h_.1))) hb); have n1_ := Aside0.mk (Kd.R_below (by (with_reducible repeat (first | apply Kd.R_alloc | apply Kd.R_drewN | apply Kd.R_drew)); exact (Kd.R_mono (Kd.R_far (p := ⟨gb502, 0, none⟩) (Kd.R_types HO491.out BK502.out (by decide)) (fun _ hk => hk.2) (.slice Ao35 t498.length co35)) (fun _ h_ => h_.1))) hb); have n2_ := Aside0.mk (Kd.R_below (by (with_reducible repeat (first | apply Kd.R_alloc | apply Kd.R_drewN | apply Kd.R_drew)); exact (Kd.R_mono (Kd.R_far (p := ⟨gb502, 0, none⟩) (Kd.R_types HO496.out BK502.out (by decide)) (fun _ hk => hk.2) (.slice Ao35 t498.length co35)) (fun _ h_ => h_.1))) hb); have n3_ := Aside0.mk (Kd.R_below (by (with_reducible repeat (first | apply Kd.R_alloc | apply Kd.R_drewN | apply Kd.R_drew)); exact (Kd.R_mono (Kd.R_far (p := ⟨gb502, 0, none⟩) (Kd.R_types HO500.out BK502.out (by decide)) (fun _ hk => hk.2) (.slice Ao35 t498.length co35)) (fun _ h_ => h_.1))) hb); have n4_ := Aside0.mk (blk_below (g := gb484) (o := .cells #[.slice A0_0 l0_0.length c0_0] 24 (0, 0)) (bkf BK484.out NB484_502.out) hb); have n5_ := Aside0.mk (blk_below (g := gb493) (o := .cells #[.slice Ao23 t489.length co23] 29 (0, 0)) (bkf BK493.out NB493_502.out) hb); have n6_ := Aside0.mk (blk_below (g := gb497) (o := .cells #[.slice Ao29 t494.length co29] 29 (0, 0)) (bkf BK497.out NB497_502.out) hb); have n7_ := Aside0.mk (blk_below (g := gb502) (o := .cells #[.slice Ao35 t498.length co35] 29 (0, 0)) (by (with_reducible repeat (first | refine blk_drewN ?_ _ | refine blk_drew ?_ | refine blk_alloc ?_ _)); refine blk_put (cs := #[.slice none 0 0]) ?_ 0 _ rfl; (with_reducible repeat (first | refine blk_drewN ?_ _ | refine blk_drew ?_ | refine blk_alloc ?_ _)); exact BK502.out) hb); have n8_ := Aside0.mk (below_step (be4 HB.out GE484.out GE493.out GE497.out GE502.out) hb); clear HO488; clear HO491; clear HO496; clear HO500; clear BK484; clear BK493; clear BK497; clear BK502; clear HB; have HO488 := n0_; have HO491 := n1_; have HO496 := n2_; have HO500 := n3_; have BK484 := n4_; have BK493 := n5_; have BK497 := n6_; have BK502 := n7_; have HB := n8_; clear n0_ n1_ n2_ n3_ n4_ n5_ n6_ n7_ n8_; (try clear hb); (try clear hb2); (try clear hk); (try clear hi)))
     go_meet
     case rel => exact ⟨_, (true), Ye1, H', ⟨by first | omega | exact Nat.le_refl _⟩, ⟨by (with_reducible repeat (first | apply Kd.R_alloc | apply Kd.R_drewN | apply Kd.R_drew)); exact Kd.R_mono HO491.out (fun _ hk => ⟨hk.1.2, hk.2⟩)⟩, ⟨by (with_reducible repeat (first | apply Kd.R_alloc | apply Kd.R_drewN | apply Kd.R_drew)); exact Kd.R_mono HO496.out (fun _ hk => ⟨hk.1.2, hk.2⟩)⟩, ⟨by (with_reducible repeat (first | apply Kd.R_alloc | apply Kd.R_drewN | apply Kd.R_drew)); exact Kd.R_mono HO500.out (fun _ hk => ⟨hk.1.2, hk.2⟩)⟩, ⟨bk BK484.out⟩, ⟨bk BK493.out⟩, ⟨bk BK497.out⟩, ⟨bk BK502.out⟩, ⟨be4 HB.out GE484.out GE493.out GE497.out GE502.out⟩⟩
   case rest =>
    clear HC14
    try clear c1
    try clear c2
    try clear p2
    try clear c3
    try clear c3b0
    try clear c3b1
    try clear c4
    try clear c5
    try clear c6
    try clear c6b0
    try clear c8
    try clear c12
    try clear c14
    try clear c16
    try clear c24
    try clear c30
    try clear c31
    try clear c33
    try clear c34
    try clear c36
    try clear c37
    try clear c38
    try clear c41
    try clear c42
    try clear c43
    try clear c44
    try clear c46
    try clear c47
    try clear c50
    try clear c51
    try clear c52
    try clear c54
    try clear c55
    try clear hcz16_0
    try clear hcz18_0
    try clear hcz25_0
    try clear hcz26_0
    try clear hcz32_0
    try clear hcz39_0
    try clear hcz45_0
    try clear hcz48_0
    try clear hcz53_0
    try clear hcz56_0
    try clear hcz8_0
    try clear hfz16_0
    try clear hfz18_0
    try clear hfz25_0
    try clear hfz26_0
    try clear hfz32_0
    try clear hfz39_0
    try clear hfz45_0
    try clear hfz48_0
    try clear hfz53_0
    try clear hfz56_0
    try clear hfz8_0
    obtain ⟨kq, x47_13, rfl, HA, HJ13, HO_494000, HO_498000, HO_503000, BK484, BK493, BK497, BK502, HB⟩ := hcut
    cases kq with
    | zero => exact absurd HA.out (by simp [laws_FnExactRemove.j0])
    | succ kj13 =>
     have H := HA.out
     clear HA
     simp only [laws_FnExactRemove.j0] at H
     by_cases c58 : x47_13 = true
     ·subst c58
      have H1 : (some false) = some r := by rw [if_pos rfl] at H; exact H
      clear H
      have H := H1
      clear H1
      exact absurd ((Option.some.inj H).trans hrt) (by decide)
     ·replace c58 := Bool.eq_false_iff.mpr c58
      subst c58
      have H1 : ((laws_toTree.f kj13 l0_0).bind fun t504 => ((laws_eqTree.f kj13 t494 t504).bind fun t507 => (if t507 = true then ((laws_markTree.f kj13 t494 1).bind fun bt508 => (if bt508.1 < 0 then (laws_FnExactRemove.j1 kj13 a1 t492 true l0_0 t489 t498) else ((laws_eqTree.f kj13 t498 t489).bind fun t510 => (if t510 = true then (laws_FnExactRemove.j1 kj13 a1 t492 (t501 != t492) l0_0 t489 t498) else (laws_FnExactRemove.j1 kj13 a1 t492 true l0_0 t489 t498))))) else (some false)))) = some r := by rw [if_neg (show ¬ (false = true) by decide)] at H; exact H
      clear H
      have H := H1
      clear H1
      replace H := Option.bind_eq_some_iff.mp H
      obtain ⟨t504, A590, H⟩ := H
      replace H : ((laws_eqTree.f kj13 t494 t504).bind fun t507 => (if t507 = true then ((laws_markTree.f kj13 t494 1).bind fun bt508 => (if bt508.1 < 0 then (laws_FnExactRemove.j1 kj13 a1 t492 true l0_0 t489 t498) else ((laws_eqTree.f kj13 t498 t489).bind fun t510 => (if t510 = true then (laws_FnExactRemove.j1 kj13 a1 t492 (t501 != t492) l0_0 t489 t498) else (laws_FnExactRemove.j1 kj13 a1 t492 true l0_0 t489 t498))))) else (some false))) = some r := H
      have A59 := Aside0.mk A590
      clear A590
      replace H := Option.bind_eq_some_iff.mp H
      obtain ⟨t507, A600, H⟩ := H
      replace H : (if t507 = true then ((laws_markTree.f kj13 t494 1).bind fun bt508 => (if bt508.1 < 0 then (laws_FnExactRemove.j1 kj13 a1 t492 true l0_0 t489 t498) else ((laws_eqTree.f kj13 t498 t489).bind fun t510 => (if t510 = true then (laws_FnExactRemove.j1 kj13 a1 t492 (t501 != t492) l0_0 t489 t498) else (laws_FnExactRemove.j1 kj13 a1 t492 true l0_0 t489 t498))))) else (some false)) = some r := H
      have A60 := Aside0.mk A600
      clear A600
      by_cases c61 : t507 = true
      ·subst c61
       have H1 : ((laws_markTree.f kj13 t494 1).bind fun bt508 => (if bt508.1 < 0 then (laws_FnExactRemove.j1 kj13 a1 t492 true l0_0 t489 t498) else ((laws_eqTree.f kj13 t498 t489).bind fun t510 => (if t510 = true then (laws_FnExactRemove.j1 kj13 a1 t492 (t501 != t492) l0_0 t489 t498) else (laws_FnExactRemove.j1 kj13 a1 t492 true l0_0 t489 t498))))) = some r := by rw [if_pos rfl] at H; exact H
       clear H
       have H := H1
       clear H1
       replace H := Option.bind_eq_some_iff.mp H
       obtain ⟨⟨t508, t509⟩, A620, H⟩ := H
       replace H : (if t508 < 0 then (laws_FnExactRemove.j1 kj13 a1 t492 true l0_0 t489 t498) else ((laws_eqTree.f kj13 t498 t489).bind fun t510 => (if t510 = true then (laws_FnExactRemove.j1 kj13 a1 t492 (t501 != t492) l0_0 t489 t498) else (laws_FnExactRemove.j1 kj13 a1 t492 true l0_0 t489 t498)))) = some r := H
       have A62 := Aside0.mk A620
       clear A620
       have HC63 := Aside0.mk H
       clear H
       try go_wp2
       refine Ya8 (Kd.R_drew HO_494000.out) (Kd.R_drew HO_498000.out) (Kd.R_drew HO_503000.out) (blk_drew BK484.out) (blk_drew BK493.out) (blk_drew BK497.out) (blk_drew BK502.out) (below_drew1 HB.out) ?_
       clear HO_494000 HO_498000 HO_503000 BK484 BK493 BK497 BK502 HB
       intro HO_494000 HO_498000 HO_503000 BK484 BK493 BK497 BK502 HB
       refine start_ (n := 5) (S := fun w' => w'.cell? ⟨gb497, 0, none⟩ = some (.slice Ao29 t494.length co29) ∧ w'.cell? ⟨gb484, 0, none⟩ = some (.slice A0_0 l0_0.length c0_0)) (ds := []) (fb 5 0) (by kernel_rfl) rfl rfl ⟨(blk_cell BK497.out 0).trans rfl, (blk_cell BK484.out 0).trans rfl⟩ (fun hHeld => ?_)
       generalize wc.drew = w64 at HO_494000 HO_498000 HO_503000 BK484 BK493 BK497 BK502 HB hHeld ⊢
       refine take_ (i := 0) (N := some 48) (v := ?_) (a' := ?_) (fb 5 1) rfl rfl (by kernel_rfl) (fun _ _ _ h => h) (Or.inl ⟨by rfl, ?_⟩) hHeld ?_ ?_
       rotate_left
       ·rintro w' ⟨s0, s1⟩
        go_simp
        with_reducible rfl
       rotate_left
       ·simp only [Act.put, List.setIfInBounds_toArray, List.set_cons_zero, List.set_cons_succ, i64_w, i32_w]
        rfl
       refine take_ (i := 1) (N := some 49) (v := ?_) (a' := ?_) (fb 5 3) rfl rfl (by kernel_rfl) (fun _ _ _ h => h) (Or.inl ⟨by rfl, ?_⟩) hHeld ?_ ?_
       rotate_left
       ·rintro w' ⟨s0, s1⟩
        go_simp
        with_reducible rfl
       rotate_left
       ·simp only [Act.put, List.setIfInBounds_toArray, List.set_cons_zero, List.set_cons_succ, i64_w, i32_w]
        rfl
       refine one_ (i := 2) (N := some 50) (fb 5 7) rfl rfl (by kernel_rfl) (by decide) (fun K hK => ?_)
       refine gs _ (#[.agg #[.slice A0_0 l0_0.length c0_0]]) Tryd.func14 ?_
       with_reducible refine (laws_toTree.calls kj13 _ _ l0_0 t504 _ ?side1 ?side2 A59.out).mono ?_
       (case side1 => exact cb (Kd.C_below HR0_0.out HB.out))
       (case side2 => exact HC0_0.out)
       rintro e w65 ⟨v505, rfl, ho0, hb⟩
       refine ⟨_, rfl, ?_⟩
       have n0_ := Aside0.mk (Kd.R_elder' (kr HO_494000.out) (Kd.R_base ho0) hb)
       have n1_ := Aside0.mk (Kd.R_elder' (kr HO_498000.out) (Kd.R_base ho0) hb)
       have n2_ := Aside0.mk (Kd.R_elder' (kr HO_503000.out) (Kd.R_base ho0) hb)
       have n3_ := Aside0.mk (Kd.R_lower (Kd.R_new' (Kd.R_new' (Kd.R_new' ho0 (Kd.R_lt (kr HO_494000.out))) (Kd.R_lt (kr HO_498000.out))) (Kd.R_lt (kr HO_503000.out))) (below_size (be4 HB.out GE484.out GE493.out GE497.out GE502.out)))
       have n4_ := Aside0.mk (bb BK484 hb)
       have n5_ := Aside0.mk (bb BK493 hb)
       have n6_ := Aside0.mk (bb BK497 hb)
       have n7_ := Aside0.mk (bb BK502 hb)
       have n8_ := Aside0.mk (below_step (be4 HB.out GE484.out GE493.out GE497.out GE502.out) hb)
       clear HO_494000
       clear HO_498000
       clear HO_503000
       clear BK484
       clear BK493
       clear BK497
       clear BK502
       clear HB
       have HO_494000 := n0_
       have HO_498000 := n1_
       have HO_503000 := n2_
       have HO506 := n3_
       have BK484 := n4_
       have BK493 := n5_
       have BK497 := n6_
       have BK502 := n7_
       have HB := n8_
       clear n0_ n1_ n2_ n3_ n4_ n5_ n6_ n7_ n8_
       (try clear hb)
       (try clear hb2)
       (try clear hk)
       (try clear hi)
       (try clear ho0)
       obtain ⟨Ao66, co66, eo66⟩ := Kd.R_slice HO506.out
       (first | subst eo66 | (injection eo66 with f1_ f2_ f3_; have f4_ := f1_.symm; have f5_ := f3_.symm; clear f1_ f2_ f3_; subst f4_; subst f5_))
       refine hK.out _ _ ⟨(blk_cell BK497.out 0).trans rfl, (blk_cell BK484.out 0).trans rfl⟩ (fun hHeld => ?_)
       clear hK K
       refine norm_ (a' := ?_) ?_ ?_
       rotate_left
       ·show Act.put _ (some 50) _ = _
        simp only [Act.put, List.setIfInBounds_toArray, List.set_cons_zero, List.set_cons_succ, i64_w, i32_w]
        rfl
       refine one_ (i := 3) (N := some 51) (fb 5 15) rfl rfl (by kernel_rfl) (by decide) (fun K hK => ?_)
       refine gs _ (#[.agg #[.slice Ao29 t494.length co29], .agg #[.slice Ao66 t504.length co66]]) Tryd.func16 ?_
       with_reducible refine (laws_eqTree.calls kj13 _ _ t494 _ _ t504 true _ ?side1 ?side2 ?side3 ?side4 A60.out).mono ?_
       (case side1 => repeat (first | exact (Kd.R_reads' HO_498000.out).2.2 | (with_reducible refine Kd.C_alloc ?_ _) | (with_reducible refine Kd.C_drewN ?_ _) | (with_reducible refine Kd.C_drew ?_)))
       (case side2 => exact (Kd.R_reads' HO_498000.out).2.1)
       (case side3 => repeat (first | exact (Kd.R_reads' HO506.out).2.2 | (with_reducible refine Kd.C_alloc ?_ _) | (with_reducible refine Kd.C_drewN ?_ _) | (with_reducible refine Kd.C_drew ?_)))
       (case side4 => exact (Kd.R_reads' HO506.out).2.1)
       rintro e w67 ⟨rfl, hb⟩
       refine ⟨_, rfl, ?_⟩
       have n0_ := Aside0.mk (Kd.R_below (kr HO_494000.out) hb)
       have n1_ := Aside0.mk (Kd.R_below (kr HO_498000.out) hb)
       have n2_ := Aside0.mk (Kd.R_below (kr HO_503000.out) hb)
       have n3_ := Aside0.mk (Kd.R_below (kr HO506.out) hb)
       have n4_ := Aside0.mk (bb BK484 hb)
       have n5_ := Aside0.mk (bb BK493 hb)
       have n6_ := Aside0.mk (bb BK497 hb)
       have n7_ := Aside0.mk (bb BK502 hb)
       have n8_ := Aside0.mk (below_step (be4 HB.out GE484.out GE493.out GE497.out GE502.out) hb)
       clear HO_494000
       clear HO_498000
       clear HO_503000
       clear HO506
       clear BK484
       clear BK493
       clear BK497
       clear BK502
       clear HB
       have HO_494000 := n0_
       have HO_498000 := n1_
       have HO_503000 := n2_
       have HO506 := n3_
       have BK484 := n4_
       have BK493 := n5_
       have BK497 := n6_
       have BK502 := n7_
       have HB := n8_
       clear n0_ n1_ n2_ n3_ n4_ n5_ n6_ n7_ n8_
       (try clear hb)
       (try clear hb2)
       (try clear hk)
       (try clear hi)
       refine hK.out _ _ ⟨(blk_cell BK497.out 0).trans rfl, (blk_cell BK484.out 0).trans rfl⟩ (fun hHeld => ?_)
       clear hK K
       refine norm_ (a' := ?_) ?_ ?_
       rotate_left
       ·show Act.put _ (some 51) _ = _
        simp only [Act.put, List.setIfInBounds_toArray, List.set_cons_zero, List.set_cons_succ, i64_w, i32_w]
        rfl
       refine pure_ (i := 4) (N := some 52) (v := ?_) (a' := ?_) (fb 5 31) rfl rfl (by kernel_rfl) (fun _ _ _ h => h) (Or.inl ⟨by rfl, ?_⟩) ?_ ?_
       rotate_left
       ·intro w'
        go_simp
        with_reducible rfl
       rotate_left
       ·simp only [Act.put, List.setIfInBounds_toArray, List.set_cons_zero, List.set_cons_succ, i64_w, i32_w]
        rfl
       refine done_ (by kernel_rfl) ?_
       have hnb68 := NB497_484.out
       have hnc68 := NB484_497.out
       have hnb69 := NB497_493.out
       have hnc69 := NB493_497.out
       have hnb70 := NB497_502.out
       have hnc70 := NB502_497.out
       have ⟨hcz71_0, hfz71_0⟩ := Yc1 BK497.out
       go_upto_region 16 with (first | ((with_reducible refine gc 27 rfl ?_); refine gl (some 55) _ (#[.agg #[.slice Ao29 t494.length co29], .int .i64 1]) Tryd.func27 ?_; (with_reducible refine (laws_markTree.calls kj13 (fun k_ => some k_ = (.slice Ao29 t494.length co29 : Value).ownBlock) (.slice Ao29 t494.length co29) t494 1 t508 t509 w _ ?side1 ?side2 A62.out).mono ?_); (case side1 => repeat (first | (with_reducible first | exact HB.out | apply below_alloc | apply pw_below_drewN | apply below_drew1 | refine below_set ?_ GE484.out | refine below_set ?_ GE493.out | refine below_set ?_ GE497.out | refine below_set ?_ GE502.out) | exact HB.out)); (case side2 => exact Kd.R_tight rfl HO_498000.out); rintro e w72 ⟨rfl, hy0, hb, hkp⟩; refine ⟨_, rfl, ?_⟩; have n0_ := Aside0.mk (Kd.R_mono (ok' := fun k_ => some k_ ≠ (.slice Ao29 t494.length co29 : Value).ownBlock ∧ some k_ ≠ (.slice Ao35 t498.length co35 : Value).ownBlock ∧ some k_ ≠ (.slice Ao66 t504.length co66 : Value).ownBlock) (Kd.R_keptB (HO_494000.out) hkp (fun k_ hk_ hs_ => (hk_.1.1) hs_)) (fun k_ hk_ => ⟨hk_.1.1.1, hk_.1.1.2, hk_.1.2⟩)); have n1_ := Aside0.mk (Kd.R_reok rfl hy0 (fun k_ e_ => HO_498000.out.1 k_ e_)); have n2_ := Aside0.mk (Kd.R_mono (ok' := fun k_ => some k_ ≠ (.slice Ao23 t489.length co23 : Value).ownBlock ∧ some k_ ≠ (.slice Ao29 t494.length co29 : Value).ownBlock ∧ some k_ ≠ (.slice Ao66 t504.length co66 : Value).ownBlock) (Kd.R_keptB (HO_503000.out) hkp (fun k_ hk_ hs_ => (hk_.1.2) hs_)) (fun k_ hk_ => ⟨hk_.1.1.1, hk_.1.1.2, hk_.1.2⟩)); have n3_ := Aside0.mk (blk_kept (bk BK484.out) hkp (fun hs_ => (fun e_ => (Kd.R_ne HO_498000.out BK484.out (by decide)) e_) hs_)); have n4_ := Aside0.mk (blk_kept (bk BK493.out) hkp (fun hs_ => (fun e_ => (Kd.R_ne HO_498000.out BK493.out (by decide)) e_) hs_)); have n5_ := Aside0.mk (blk_kept (bk BK497.out) hkp (fun hs_ => (fun e_ => (Kd.R_ne HO_498000.out BK497.out (by decide)) e_) hs_)); have n6_ := Aside0.mk (blk_kept (bk BK502.out) hkp (fun hs_ => (fun e_ => (Kd.R_ne HO_498000.out BK502.out (by decide)) e_) hs_)); have n7_ := Aside0.mk (Kd.R_mono (ok' := fun k_ => some k_ ≠ (.slice Ao23 t489.length co23 : Value).ownBlock ∧ some k_ ≠ (.slice Ao29 t494.length co29 : Value).ownBlock ∧ some k_ ≠ (.slice Ao35 t498.length co35 : Value).ownBlock) (Kd.R_keptB (HO506.out) hkp (fun k_ hk_ hs_ => (hk_.1.2) hs_)) (fun k_ hk_ => ⟨hk_.1.1.1.2, hk_.1.1.2, hk_.1.2⟩)); have n8_ := Aside0.mk (hb); clear HO_494000; clear HO_498000; clear HO_503000; clear BK484; clear BK493; clear BK497; clear BK502; clear HO506; clear HB; have HO_494000 := n0_; have HO_498000 := n1_; have HO_503000 := n2_; have BK484 := n3_; have BK493 := n4_; have BK497 := n5_; have BK502 := n6_; have HO506 := n7_; have HB := n8_; clear n0_ n1_ n2_ n3_ n4_ n5_ n6_ n7_ n8_; (try clear hb); (try clear hkp); (try clear hy0)))
       (try simp only [Act.put, List.setIfInBounds_toArray, List.set_cons_zero, List.set_cons_succ])
       go_cut [68] (fun v68 wc => ∃ (kq : Nat) (x68_62 : Bool), v68 = .bool x68_62 ∧ Aside0 (laws_FnExactRemove.j1 kq a1 t492 x68_62 l0_0 t489 t498 = some r) ∧ Aside0 (kq ≤ kj13) ∧ Aside0 (Kd.R k45 45 wc w.heap.size (fun k_ => some k_ ≠ ((.slice Ao29 t494.length co29) : Value).ownBlock ∧ some k_ ≠ ((.slice Ao35 t498.length co35) : Value).ownBlock) (.slice Ao23 t489.length co23) t489) ∧ Aside0 (Kd.R k45 45 wc w.heap.size (fun k_ => some k_ ≠ ((.slice Ao23 t489.length co23) : Value).ownBlock ∧ some k_ ≠ ((.slice Ao35 t498.length co35) : Value).ownBlock) (.slice Ao29 t494.length co29) t509) ∧ Aside0 (Kd.R k45 45 wc w.heap.size (fun k_ => some k_ ≠ ((.slice Ao23 t489.length co23) : Value).ownBlock ∧ some k_ ≠ ((.slice Ao29 t494.length co29) : Value).ownBlock) (.slice Ao35 t498.length co35) t498) ∧ Aside0 (wc.heap[gb484]? = some (.cells #[(.slice A0_0 l0_0.length c0_0)] 24 (0, 0))) ∧ Aside0 (wc.heap[gb493]? = some (.cells #[(.slice Ao23 t489.length co23)] 29 (0, 0))) ∧ Aside0 (wc.heap[gb497]? = some (.cells #[(.slice Ao29 t494.length co29)] 29 (0, 0))) ∧ Aside0 (wc.heap[gb502]? = some (.cells #[(.slice Ao35 t498.length co35)] 29 (0, 0))) ∧ Aside0 (Below w.heap.size w wc))
       case first =>
        have H := HC63.out
        clear HC63
        by_cases c73 : t508 < 0
        ·rw [if_pos c73] at H
         have c73b0 : decide (t508 < 0) = true := decide_eq_true c73
         clear c73
         (first | rw [c73b0] | (simp only [i64_w, i32_w]; rw [c73b0]) | skip)
         have H' := Aside0.mk H
         clear H
         go_wp2
         go_meet
         case rel => exact ⟨_, (true), Ye1, H', ⟨by have := HJ13.out; first | omega | exact Nat.le_refl _⟩, ⟨by (with_reducible repeat (first | apply Kd.R_alloc | apply Kd.R_drewN | apply Kd.R_drew)); exact Kd.R_mono HO_494000.out (fun _ hk => ⟨hk.1, hk.2.1⟩)⟩, ⟨by (with_reducible repeat (first | apply Kd.R_alloc | apply Kd.R_drewN | apply Kd.R_drew)); exact Kd.R_mono HO_498000.out (fun _ hk => ⟨hk.1.1, hk.1.2⟩)⟩, ⟨by (with_reducible repeat (first | apply Kd.R_alloc | apply Kd.R_drewN | apply Kd.R_drew)); exact Kd.R_mono HO_503000.out (fun _ hk => ⟨hk.1, hk.2.1⟩)⟩, ⟨bk BK484.out⟩, ⟨bk BK493.out⟩, ⟨bk BK497.out⟩, ⟨bk BK502.out⟩, ⟨be4 HB.out GE484.out GE493.out GE497.out GE502.out⟩⟩
        ·rw [if_neg c73] at H
         have c73b0 : decide (t508 < 0) = false := decide_eq_false c73
         clear c73
         (first | rw [c73b0] | (simp only [i64_w, i32_w]; rw [c73b0]) | skip)
         replace H := Option.bind_eq_some_iff.mp H
         obtain ⟨t510, A740, H⟩ := H
         replace H : (if t510 = true then (laws_FnExactRemove.j1 kj13 a1 t492 (t501 != t492) l0_0 t489 t498) else (laws_FnExactRemove.j1 kj13 a1 t492 true l0_0 t489 t498)) = some r := H
         have A74 := Aside0.mk A740
         clear A740
         by_cases c75 : t510 = true
         ·subst c75
          have H1 : (laws_FnExactRemove.j1 kj13 a1 t492 (t501 != t492) l0_0 t489 t498) = some r := by rw [if_pos rfl] at H; exact H
          clear H
          have H := H1
          clear H1
          have H' := Aside0.mk H
          clear H
          have hnb76 := NB502_484.out
          have hnc76 := NB484_502.out
          have hnb77 := NB502_493.out
          have hnc77 := NB493_502.out
          have hnb78 := NB502_497.out
          have hnc78 := NB497_502.out
          have ⟨hcz79_0, hfz79_0⟩ := Yc1 BK502.out
          have hnb80 := NB493_484.out
          have hnc80 := NB484_493.out
          have hnb81 := NB493_497.out
          have hnc81 := NB497_493.out
          have ⟨hcz82_0, hfz82_0⟩ := Yc1 BK493.out
          go_wp2_with (first | (go_at_call 16; (with_reducible refine (laws_eqTree.calls kj13 _ _ t498 _ _ t489 true _ ?side1 ?side2 ?side3 ?side4 A74.out).mono ?_); (case side1 => repeat (first | exact (Kd.R_reads' HO_503000.out).2.2 | (with_reducible refine Kd.C_alloc ?_ _) | (with_reducible refine Kd.C_drewN ?_ _) | (with_reducible refine Kd.C_drew ?_))); (case side2 => exact (Kd.R_reads' HO_503000.out).2.1); (case side3 => repeat (first | exact (Kd.R_reads' HO_494000.out).2.2 | (with_reducible refine Kd.C_alloc ?_ _) | (with_reducible refine Kd.C_drewN ?_ _) | (with_reducible refine Kd.C_drew ?_))); (case side4 => exact (Kd.R_reads' HO_494000.out).2.1); rintro e w83 ⟨rfl, hb⟩; have n0_ := Aside0.mk (Kd.R_below (kr HO_494000.out) hb); have n1_ := Aside0.mk (Kd.R_below (kr HO_498000.out) hb); have n2_ := Aside0.mk (Kd.R_below (kr HO_503000.out) hb); have n3_ := Aside0.mk (Kd.R_below (kr HO506.out) hb); have n4_ := Aside0.mk (bb BK484 hb); have n5_ := Aside0.mk (bb BK493 hb); have n6_ := Aside0.mk (bb BK497 hb); have n7_ := Aside0.mk (bb BK502 hb); have n8_ := Aside0.mk (below_step (be4 HB.out GE484.out GE493.out GE497.out GE502.out) hb); clear HO_494000; clear HO_498000; clear HO_503000; clear HO506; clear BK484; clear BK493; clear BK497; clear BK502; clear HB; have HO_494000 := n0_; have HO_498000 := n1_; have HO_503000 := n2_; have HO506 := n3_; have BK484 := n4_; have BK493 := n5_; have BK497 := n6_; have BK502 := n7_; have HB := n8_; clear n0_ n1_ n2_ n3_ n4_ n5_ n6_ n7_ n8_; (try clear hb); (try clear hb2); (try clear hk); (try clear hi)))
          go_meet
          case rel => exact ⟨_, ((t501 != t492)), Ye1, H', ⟨by have := HJ13.out; first | omega | exact Nat.le_refl _⟩, ⟨by (with_reducible repeat (first | apply Kd.R_alloc | apply Kd.R_drewN | apply Kd.R_drew)); exact Kd.R_mono HO_494000.out (fun _ hk => ⟨hk.1, hk.2.1⟩)⟩, ⟨by (with_reducible repeat (first | apply Kd.R_alloc | apply Kd.R_drewN | apply Kd.R_drew)); exact Kd.R_mono HO_498000.out (fun _ hk => ⟨hk.1.1, hk.1.2⟩)⟩, ⟨by (with_reducible repeat (first | apply Kd.R_alloc | apply Kd.R_drewN | apply Kd.R_drew)); exact Kd.R_mono HO_503000.out (fun _ hk => ⟨hk.1, hk.2.1⟩)⟩, ⟨bk BK484.out⟩, ⟨bk BK493.out⟩, ⟨bk BK497.out⟩, ⟨bk BK502.out⟩, ⟨be4 HB.out GE484.out GE493.out GE497.out GE502.out⟩⟩
         ·replace c75 := Bool.eq_false_iff.mpr c75
          subst c75
          have H1 : (laws_FnExactRemove.j1 kj13 a1 t492 true l0_0 t489 t498) = some r := by rw [if_neg (show ¬ (false = true) by decide)] at H; exact H
          clear H
          have H := H1
          clear H1
          have H' := Aside0.mk H
          clear H
          have hnb84 := NB502_484.out
          have hnc84 := NB484_502.out
          have hnb85 := NB502_493.out
          have hnc85 := NB493_502.out
          have hnb86 := NB502_497.out
          have hnc86 := NB497_502.out
          have ⟨hcz87_0, hfz87_0⟩ := Yc1 BK502.out
          have hnb88 := NB493_484.out
          have hnc88 := NB484_493.out
          have hnb89 := NB493_497.out
          have hnc89 := NB497_493.out
          have ⟨hcz90_0, hfz90_0⟩ := Yc1 BK493.out
          go_wp2_with (first | (go_at_call 16; (with_reducible refine (laws_eqTree.calls kj13 _ _ t498 _ _ t489 false _ ?side1 ?side2 ?side3 ?side4 A74.out).mono ?_); (case side1 => repeat (first | exact (Kd.R_reads' HO_503000.out).2.2 | (with_reducible refine Kd.C_alloc ?_ _) | (with_reducible refine Kd.C_drewN ?_ _) | (with_reducible refine Kd.C_drew ?_))); (case side2 => exact (Kd.R_reads' HO_503000.out).2.1); (case side3 => repeat (first | exact (Kd.R_reads' HO_494000.out).2.2 | (with_reducible refine Kd.C_alloc ?_ _) | (with_reducible refine Kd.C_drewN ?_ _) | (with_reducible refine Kd.C_drew ?_))); (case side4 => exact (Kd.R_reads' HO_494000.out).2.1); rintro e w91 ⟨rfl, hb⟩; have n0_ := Aside0.mk (Kd.R_below (kr HO_494000.out) hb); have n1_ := Aside0.mk (Kd.R_below (kr HO_498000.out) hb); have n2_ := Aside0.mk (Kd.R_below (kr HO_503000.out) hb); have n3_ := Aside0.mk (Kd.R_below (kr HO506.out) hb); have n4_ := Aside0.mk (bb BK484 hb); have n5_ := Aside0.mk (bb BK493 hb); have n6_ := Aside0.mk (bb BK497 hb); have n7_ := Aside0.mk (bb BK502 hb); have n8_ := Aside0.mk (below_step (be4 HB.out GE484.out GE493.out GE497.out GE502.out) hb); clear HO_494000; clear HO_498000; clear HO_503000; clear HO506; clear BK484; clear BK493; clear BK497; clear BK502; clear HB; have HO_494000 := n0_; have HO_498000 := n1_; have HO_503000 := n2_; have HO506 := n3_; have BK484 := n4_; have BK493 := n5_; have BK497 := n6_; have BK502 := n7_; have HB := n8_; clear n0_ n1_ n2_ n3_ n4_ n5_ n6_ n7_ n8_; (try clear hb); (try clear hb2); (try clear hk); (try clear hi)))
          go_meet
          case rel => exact ⟨_, (true), Ye1, H', ⟨by have := HJ13.out; first | omega | exact Nat.le_refl _⟩, ⟨by (with_reducible repeat (first | apply Kd.R_alloc | apply Kd.R_drewN | apply Kd.R_drew)); exact Kd.R_mono HO_494000.out (fun _ hk => ⟨hk.1, hk.2.1⟩)⟩, ⟨by (with_reducible repeat (first | apply Kd.R_alloc | apply Kd.R_drewN | apply Kd.R_drew)); exact Kd.R_mono HO_498000.out (fun _ hk => ⟨hk.1.1, hk.1.2⟩)⟩, ⟨by (with_reducible repeat (first | apply Kd.R_alloc | apply Kd.R_drewN | apply Kd.R_drew)); exact Kd.R_mono HO_503000.out (fun _ hk => ⟨hk.1, hk.2.1⟩)⟩, ⟨bk BK484.out⟩, ⟨bk BK493.out⟩, ⟨bk BK497.out⟩, ⟨bk BK502.out⟩, ⟨be4 HB.out GE484.out GE493.out GE497.out GE502.out⟩⟩
       case rest =>
        clear HC63
        try clear c1
        try clear c2
        try clear p2
        try clear c3
        try clear c3b0
        try clear c3b1
        try clear c4
        try clear c5
        try clear c6
        try clear c6b0
        try clear c7
        try clear c8
        try clear c12
        try clear c14
        try clear c16
        try clear c24
        try clear c27
        try clear c30
        try clear c31
        try clear c33
        try clear c34
        try clear c36
        try clear c37
        try clear c38
        try clear c41
        try clear c42
        try clear c43
        try clear c44
        try clear c46
        try clear c47
        try clear c50
        try clear c51
        try clear c52
        try clear c54
        try clear c55
        try clear c58
        try clear c61
        try clear c68
        try clear c69
        try clear c70
        try clear c73
        try clear c73b0
        try clear c75
        try clear c76
        try clear c77
        try clear c78
        try clear c80
        try clear c81
        try clear c84
        try clear c85
        try clear c86
        try clear c88
        try clear c89
        try clear hcz16_0
        try clear hcz18_0
        try clear hcz25_0
        try clear hcz26_0
        try clear hcz32_0
        try clear hcz39_0
        try clear hcz45_0
        try clear hcz48_0
        try clear hcz53_0
        try clear hcz56_0
        try clear hcz71_0
        try clear hcz79_0
        try clear hcz82_0
        try clear hcz87_0
        try clear hcz8_0
        try clear hcz90_0
        try clear hfz16_0
        try clear hfz18_0
        try clear hfz25_0
        try clear hfz26_0
        try clear hfz32_0
        try clear hfz39_0
        try clear hfz45_0
        try clear hfz48_0
        try clear hfz53_0
        try clear hfz56_0
        try clear hfz71_0
        try clear hfz79_0
        try clear hfz82_0
        try clear hfz87_0
        try clear hfz8_0
        try clear hfz90_0
        try clear p2
        obtain ⟨kq, x68_62, rfl, HA, HJ62, HO_494000, HO_498000, HO_503000, BK484, BK493, BK497, BK502, HB⟩ := hcut
        have hl498000_62 := (Kd.R_reads' HO_498000.out).1
        rw [hl498000_62] at HO_498000
        (try simp only [hl498000_62])
        (try simp only [hl498000_62] at BK484)
        (try simp only [hl498000_62] at BK493)
        (try simp only [hl498000_62] at BK497)
        (try simp only [hl498000_62] at BK502)
        (try simp only [hl498000_62] at HO_494000)
        (try simp only [hl498000_62] at HO_503000)
        cases kq with
        | zero => exact absurd HA.out (by simp [laws_FnExactRemove.j1])
        | succ kj62 =>
         have H := HA.out
         clear HA
         simp only [laws_FnExactRemove.j1] at H
         by_cases c92 : x68_62 = true
         ·subst c92
          have H1 : (some false) = some r := by rw [if_pos rfl] at H; exact H
          clear H
          have H := H1
          clear H1
          exact absurd ((Option.some.inj H).trans hrt) (by decide)
         ·replace c92 := Bool.eq_false_iff.mpr c92
          subst c92
          have H1 : ((laws_markTree.f kj62 t498 1).bind fun bt511 => ((laws_heldTree.f kj62 bt511.2 1).bind fun t513 => (if t513 < 0 then (some false) else (if t513 = bt511.1 then ((laws_toTree.f kj62 l0_0).bind fun t514 => ((impl_Remove.f kj62 t514 a1).bind fun bt517 => ((laws_eqTree.f kj62 bt517.1 t489).bind fun t522 => (if t522 = true then (laws_FnExactRemove.j2 kj62 bt511.1 (bt517.2 != t492) bt511.2) else (laws_FnExactRemove.j2 kj62 bt511.1 true bt511.2))))) else (some false))))) = some r := by rw [if_neg (show ¬ (false = true) by decide)] at H; exact H
          clear H
          have H := H1
          clear H1
          replace H := Option.bind_eq_some_iff.mp H
          obtain ⟨⟨t511, t512⟩, A930, H⟩ := H
          replace H : ((laws_heldTree.f kj62 t512 1).bind fun t513 => (if t513 < 0 then (some false) else (if t513 = t511 then ((laws_toTree.f kj62 l0_0).bind fun t514 => ((impl_Remove.f kj62 t514 a1).bind fun bt517 => ((laws_eqTree.f kj62 bt517.1 t489).bind fun t522 => (if t522 = true then (laws_FnExactRemove.j2 kj62 t511 (bt517.2 != t492) t512) else (laws_FnExactRemove.j2 kj62 t511 true t512))))) else (some false)))) = some r := H
          have A93 := Aside0.mk A930
          clear A930
          replace H := Option.bind_eq_some_iff.mp H
          obtain ⟨t513, A940, H⟩ := H
          replace H : (if t513 < 0 then (some false) else (if t513 = t511 then ((laws_toTree.f kj62 l0_0).bind fun t514 => ((impl_Remove.f kj62 t514 a1).bind fun bt517 => ((laws_eqTree.f kj62 bt517.1 t489).bind fun t522 => (if t522 = true then (laws_FnExactRemove.j2 kj62 t511 (bt517.2 != t492) t512) else (laws_FnExactRemove.j2 kj62 t511 true t512))))) else (some false))) = some r := H
          have A94 := Aside0.mk A940
          clear A940
          by_cases c95 : t513 < 0
          ·rw [if_pos c95] at H
           have c95b0 : decide (t513 < 0) = true := decide_eq_true c95
           clear c95
           exact absurd ((Option.some.inj H).trans hrt) (by decide)
          ·rw [if_neg c95] at H
           have c95b0 : decide (t513 < 0) = false := decide_eq_false c95
           clear c95
           by_cases c103 : t513 = t511
           ·rw [if_pos c103] at H
            have c103b0 : (t513 == t511) = true := beq_iff_eq.mpr c103
            have c103b1 : (t513 != t511) = false := bne_eq_false_iff_eq.mpr c103
            clear c103
            replace H := Option.bind_eq_some_iff.mp H
            obtain ⟨t514, A1040, H⟩ := H
            replace H : ((impl_Remove.f kj62 t514 a1).bind fun bt517 => ((laws_eqTree.f kj62 bt517.1 t489).bind fun t522 => (if t522 = true then (laws_FnExactRemove.j2 kj62 t511 (bt517.2 != t492) t512) else (laws_FnExactRemove.j2 kj62 t511 true t512)))) = some r := H
            have A104 := Aside0.mk A1040
            clear A1040
            replace H := Option.bind_eq_some_iff.mp H
            obtain ⟨⟨t517, t520⟩, A1050, H⟩ := H
            replace H : ((laws_eqTree.f kj62 t517 t489).bind fun t522 => (if t522 = true then (laws_FnExactRemove.j2 kj62 t511 (t520 != t492) t512) else (laws_FnExactRemove.j2 kj62 t511 true t512))) = some r := H
            have A105 := Aside0.mk A1050
            clear A1050
            have HC106 := Aside0.mk H
            clear H
            have hnb107 := NB502_484.out
            have hnc107 := NB484_502.out
            have hnb108 := NB502_493.out
            have hnc108 := NB493_502.out
            have hnb109 := NB502_497.out
            have hnc109 := NB497_502.out
            have ⟨hcz110_0, hfz110_0⟩ := Yc1 BK502.out
            go_upto_region 27 with (first | ((with_reducible refine gc 27 rfl ?_); refine gl (some 71) _ (#[.agg #[.slice Ao35 t498.length co35], .int .i64 1]) Tryd.func27 ?_; (with_reducible refine (laws_markTree.calls kj62 (fun k_ => some k_ = (.slice Ao35 t498.length co35 : Value).ownBlock) (.slice Ao35 t498.length co35) t498 1 t511 t512 w _ ?side1 ?side2 A93.out).mono ?_); (case side1 => repeat (first | (with_reducible first | exact HB.out | apply below_alloc | apply pw_below_drewN | apply below_drew1 | refine below_set ?_ GE484.out | refine below_set ?_ GE493.out | refine below_set ?_ GE497.out | refine below_set ?_ GE502.out) | exact HB.out)); (case side2 => exact Kd.R_tight rfl HO_503000.out); rintro e w111 ⟨rfl, hy0, hb, hkp⟩; refine ⟨_, rfl, ?_⟩; refine Ya8 (Kd.R_mono (ok' := fun k_ => some k_ ≠ (.slice Ao29 t509.length co29 : Value).ownBlock ∧ some k_ ≠ (.slice Ao35 t498.length co35 : Value).ownBlock) (Kd.R_keptB (HO_494000.out) hkp (fun k_ hk_ hs_ => (hk_.2) hs_)) (fun k_ hk_ => ⟨hk_.1.1, hk_.1.2⟩)) (Kd.R_mono (ok' := fun k_ => some k_ ≠ (.slice Ao23 t489.length co23 : Value).ownBlock ∧ some k_ ≠ (.slice Ao35 t498.length co35 : Value).ownBlock) (Kd.R_keptB (HO_498000.out) hkp (fun k_ hk_ hs_ => (hk_.2) hs_)) (fun k_ hk_ => ⟨hk_.1.1, hk_.1.2⟩)) (Kd.R_reok rfl hy0 (fun k_ e_ => HO_503000.out.1 k_ e_)) (blk_kept (bk BK484.out) hkp (fun hs_ => (fun e_ => (Kd.R_ne HO_503000.out BK484.out (by decide)) e_) hs_)) (blk_kept (bk BK493.out) hkp (fun hs_ => (fun e_ => (Kd.R_ne HO_503000.out BK493.out (by decide)) e_) hs_)) (blk_kept (bk BK497.out) hkp (fun hs_ => (fun e_ => (Kd.R_ne HO_503000.out BK497.out (by decide)) e_) hs_)) (blk_kept (bk BK502.out) hkp (fun hs_ => (fun e_ => (Kd.R_ne HO_503000.out BK502.out (by decide)) e_) hs_)) (hb) ?_; clear HO_494000 HO_498000 HO_503000 BK484 BK493 BK497 BK502 HB; intro HO_494000 HO_498000 HO_503000 BK484 BK493 BK497 BK502 HB; (try clear hb); (try clear hkp); (try clear hy0); have ⟨hcz112_0, hfz112_0⟩ := Yc1 BK502.out) | ((with_reducible refine gc 28 rfl ?_); refine goesL_ (some 74) rfl rfl Tryd.func28 (by kernel_rfl) rfl #[.agg #[.slice Ao35 t512.length co35], .int .i64 1] rfl (by (try simp only [List.map_toArray, List.map_cons, List.map_nil]); first | done | (rw [show t512.length = t498.length from (Kd.R_reads' HO_503000.out).1.symm] <;> rfl) | rfl | (simp only [List.length_drop, List.length_take]; rfl)) ?_; (with_reducible refine (laws_heldTree.calls kj62 _ _ t512 1 t513 _ ?side1 ?side2 A94.out).mono ?_); (case side1 => repeat (first | exact (Kd.R_reads' HO_503000.out).2.2 | (with_reducible refine Kd.C_alloc ?_ _) | (with_reducible refine Kd.C_drewN ?_ _) | (with_reducible refine Kd.C_drew ?_))); (case side2 => rw [show t512.length = t498.length from (Kd.R_reads' HO_503000.out).1.symm]; exact (Kd.R_reads' HO_503000.out).2.1); rintro e w113 ⟨rfl, hb⟩; refine ⟨_, rfl, ?_⟩; refine Ya8 (Kd.R_below (kr HO_494000.out) hb) (Kd.R_below (kr HO_498000.out) hb) (Kd.R_below (kr HO_503000.out) hb) (bb BK484 hb) (bb BK493 hb) (bb BK497 hb) (bb BK502 hb) (below_step (be4 HB.out GE484.out GE493.out GE497.out GE502.out) hb) ?_; clear HO_494000 HO_498000 HO_503000 BK484 BK493 BK497 BK502 HB; intro HO_494000 HO_498000 HO_503000 BK484 BK493 BK497 BK502 HB; (try clear hb); (try clear hb2); (try clear hk); (try clear hi); have hnb114 := NB484_493.out; have hnc114 := NB493_484.out; have hnb115 := NB484_497.out; have hnc115 := NB497_484.out; have ⟨hcz116_0, hfz116_0⟩ := Yc1 BK484.out) | ((with_reducible refine gc 14 rfl ?_); refine gl (some 82) _ (#[.agg #[.slice A0_0 l0_0.length c0_0]]) Tryd.func14 ?_; (with_reducible refine (laws_toTree.calls kj62 _ _ l0_0 t514 _ ?side1 ?side2 A104.out).mono ?_); (case side1 => exact cb (Kd.C_below HR0_0.out HB.out)); (case side2 => exact HC0_0.out); rintro e w117 ⟨v515, rfl, ho0, hb⟩; refine ⟨_, rfl, ?_⟩; have n0_ := Aside0.mk (Kd.R_elder' (kr HO_494000.out) (Kd.R_base ho0) hb); have n1_ := Aside0.mk (Kd.R_elder' (kr HO_498000.out) (Kd.R_base ho0) hb); have n2_ := Aside0.mk (Kd.R_elder' (kr HO_503000.out) (Kd.R_base ho0) hb); have n3_ := Aside0.mk (Kd.R_lower (Kd.R_new' (Kd.R_new' (Kd.R_new' ho0 (Kd.R_lt (kr HO_494000.out))) (Kd.R_lt (kr HO_498000.out))) (Kd.R_lt (kr HO_503000.out))) (below_size (be4 HB.out GE484.out GE493.out GE497.out GE502.out))); have n4_ := Aside0.mk (bb BK484 hb); have n5_ := Aside0.mk (bb BK493 hb); have n6_ := Aside0.mk (bb BK497 hb); have n7_ := Aside0.mk (bb BK502 hb); have n8_ := Aside0.mk (below_step (be4 HB.out GE484.out GE493.out GE497.out GE502.out) hb); clear HO_494000; clear HO_498000; clear HO_503000; clear BK484; clear BK493; clear BK497; clear BK502; clear HB; have HO_494000 := n0_; have HO_498000 := n1_; have HO_503000 := n2_; have HO516 := n3_; have BK484 := n4_; have BK493 := n5_; have BK497 := n6_; have BK502 := n7_; have HB := n8_; clear n0_ n1_ n2_ n3_ n4_ n5_ n6_ n7_ n8_; (try clear hb); (try clear hb2); (try clear hk); (try clear hi); (try clear ho0); obtain ⟨Ao118, co118, eo118⟩ := Kd.R_slice HO516.out; subst eo118) | ((with_reducible refine gc 34 rfl ?_); refine gl (some 84) _ (#[.agg #[.slice Ao118 t514.length co118], .string a1]) Tryd.func34 ?_; (with_reducible refine (impl_Remove.calls kj62 _ _ t514 a1 t517 t520 _ ?sideG ?side1 ?side2 A105.out).mono ?_); (case sideG => (first | exact HG.out | exact GOK.below HG.out (by repeat (first | (with_reducible first | exact HB.out | apply below_alloc | apply pw_below_drewN | apply below_drew1 | refine below_set ?_ GE484.out | refine below_set ?_ GE493.out | refine below_set ?_ GE497.out | refine below_set ?_ GE502.out | refine below_set ?_ GE521.out) | exact HB.out | exact Below.refl _ _)))); (case side1 => repeat (first | exact (Kd.R_reads' HO516.out).2.2 | (with_reducible refine Kd.C_alloc ?_ _) | (with_reducible refine Kd.C_drewN ?_ _) | (with_reducible refine Kd.C_drew ?_))); (case side2 => exact (Kd.R_reads' HO516.out).2.1); rintro e w119 ⟨v518, rfl, ho0, hb⟩; refine ⟨_, rfl, ?_⟩; have n0_ := Aside0.mk (Kd.R_elder' (kr HO_494000.out) (Kd.R_base ho0) hb); have n1_ := Aside0.mk (Kd.R_elder' (kr HO_498000.out) (Kd.R_base ho0) hb); have n2_ := Aside0.mk (Kd.R_elder' (kr HO_503000.out) (Kd.R_base ho0) hb); have n3_ := Aside0.mk (Kd.R_elder' (kr HO516.out) (Kd.R_base ho0) hb); have n4_ := Aside0.mk (Kd.R_lower (Kd.R_new' (Kd.R_new' (Kd.R_new' (Kd.R_new' ho0 (Kd.R_lt (kr HO_494000.out))) (Kd.R_lt (kr HO_498000.out))) (Kd.R_lt (kr HO_503000.out))) (Kd.R_lt (kr HO516.out))) (below_size (be4 HB.out GE484.out GE493.out GE497.out GE502.out))); have n5_ := Aside0.mk (bb BK484 hb); have n6_ := Aside0.mk (bb BK493 hb); have n7_ := Aside0.mk (bb BK497 hb); have n8_ := Aside0.mk (bb BK502 hb); have n9_ := Aside0.mk (below_step (be4 HB.out GE484.out GE493.out GE497.out GE502.out) hb); clear HO_494000; clear HO_498000; clear HO_503000; clear HO516; clear BK484; clear BK493; clear BK497; clear BK502; clear HB; have HO_494000 := n0_; have HO_498000 := n1_; have HO_503000 := n2_; have HO516 := n3_; have HO519 := n4_; have BK484 := n5_; have BK493 := n6_; have BK497 := n7_; have BK502 := n8_; have HB := n9_; clear n0_ n1_ n2_ n3_ n4_ n5_ n6_ n7_ n8_ n9_; (try clear hb); (try clear hb2); (try clear hk); (try clear hi); (try clear ho0)) | ((with_reducible refine gd 14 rfl ?_); refine bx 14 29 (#[.slice none 0 0]) ?_; intro gb521 hg w120 hbox hb; have n0_ := Aside0.mk (Kd.R_below (kr HO_494000.out) hb); have n1_ := Aside0.mk (Kd.R_below (kr HO_498000.out) hb); have n2_ := Aside0.mk (Kd.R_below (kr HO_503000.out) hb); have n3_ := Aside0.mk (Kd.R_below (kr HO516.out) hb); have n4_ := Aside0.mk (Kd.R_below (kr HO519.out) hb); have n5_ := Aside0.mk (bb BK484 hb); have n6_ := Aside0.mk (bb BK493 hb); have n7_ := Aside0.mk (bb BK497 hb); have n8_ := Aside0.mk (bb BK502 hb); have n9_ := Aside0.mk (below_step (be4 HB.out GE484.out GE493.out GE497.out GE502.out) hb); have n10_ := Aside0.mk (hbox); have n11_ := Aside0.mk (bs hg (be4 HB.out GE484.out GE493.out GE497.out GE502.out)); have n12_ := Aside0.mk (bs hg (be4 HB.out GE484.out GE493.out GE497.out GE502.out)); have n13_ := Aside0.mk (bl hg BK484); have n14_ := Aside0.mk (br hg BK484); have n15_ := Aside0.mk (bl hg BK493); have n16_ := Aside0.mk (br hg BK493); have n17_ := Aside0.mk (bl hg BK497); have n18_ := Aside0.mk (br hg BK497); have n19_ := Aside0.mk (bl hg BK502); have n20_ := Aside0.mk (br hg BK502); clear HO_494000; clear HO_498000; clear HO_503000; clear HO516; clear HO519; clear BK484; clear BK493; clear BK497; clear BK502; clear HB; have HO_494000 := n0_; have HO_498000 := n1_; have HO_503000 := n2_; have HO516 := n3_; have HO519 := n4_; have BK484 := n5_; have BK493 := n6_; have BK497 := n7_; have BK502 := n8_; have HB := n9_; have BK521 := n10_; have GW521 := n11_; have GE521 := n12_; have NB484_521 := n13_; have NB521_484 := n14_; have NB493_521 := n15_; have NB521_493 := n16_; have NB497_521 := n17_; have NB521_497 := n18_; have NB502_521 := n19_; have NB521_502 := n20_; clear n0_ n1_ n2_ n3_ n4_ n5_ n6_ n7_ n8_ n9_ n10_ n11_ n12_ n13_ n14_ n15_ n16_ n17_ n18_ n19_ n20_; clear hb hbox hg; obtain ⟨Ao121, co121, eo121⟩ := Kd.R_slice HO519.out; subst eo121; have hnb122 := NB521_484.out; have hnc122 := NB484_521.out; have hnb123 := NB521_493.out; have hnc123 := NB493_521.out; have hnb124 := NB521_497.out; have hnc124 := NB497_521.out; have hnb125 := NB521_502.out; have hnc125 := NB502_521.out; have ⟨hcz126_0, hfz126_0⟩ := Yc1 BK521.out))
            (try simp only [Act.put, List.setIfInBounds_toArray, List.set_cons_zero, List.set_cons_succ])
            go_cut [95] (fun v95 wc => ∃ (kq : Nat) (x95_105 : Bool), v95 = .bool x95_105 ∧ Aside0 (laws_FnExactRemove.j2 kq t511 x95_105 t512 = some r) ∧ Aside0 (kq ≤ kj62) ∧ Aside0 (Kd.R k45 45 wc w.heap.size (fun k_ => some k_ ≠ ((.slice Ao29 t509.length co29) : Value).ownBlock ∧ some k_ ≠ ((.slice Ao35 t498.length co35) : Value).ownBlock ∧ some k_ ≠ ((.slice Ao121 t517.length co121) : Value).ownBlock) (.slice Ao23 t489.length co23) t489) ∧ Aside0 (Kd.R k45 45 wc w.heap.size (fun k_ => some k_ ≠ ((.slice Ao23 t489.length co23) : Value).ownBlock ∧ some k_ ≠ ((.slice Ao35 t498.length co35) : Value).ownBlock ∧ some k_ ≠ ((.slice Ao121 t517.length co121) : Value).ownBlock) (.slice Ao29 t509.length co29) t509) ∧ Aside0 (Kd.R k45 45 wc w.heap.size (fun k_ => some k_ ≠ ((.slice Ao23 t489.length co23) : Value).ownBlock ∧ some k_ ≠ ((.slice Ao29 t509.length co29) : Value).ownBlock ∧ some k_ ≠ ((.slice Ao121 t517.length co121) : Value).ownBlock) (.slice Ao35 t498.length co35) t512) ∧ Aside0 (Kd.R k45 45 wc w.heap.size (fun k_ => some k_ ≠ ((.slice Ao23 t489.length co23) : Value).ownBlock ∧ some k_ ≠ ((.slice Ao29 t509.length co29) : Value).ownBlock ∧ some k_ ≠ ((.slice Ao35 t498.length co35) : Value).ownBlock) (.slice Ao121 t517.length co121) t517) ∧ Aside0 (wc.heap[gb484]? = some (.cells #[(.slice A0_0 l0_0.length c0_0)] 24 (0, 0))) ∧ Aside0 (wc.heap[gb493]? = some (.cells #[(.slice Ao23 t489.length co23)] 29 (0, 0))) ∧ Aside0 (wc.heap[gb497]? = some (.cells #[(.slice Ao29 t509.length co29)] 29 (0, 0))) ∧ Aside0 (wc.heap[gb502]? = some (.cells #[(.slice Ao35 t498.length co35)] 29 (0, 0))) ∧ Aside0 (wc.heap[gb521]? = some (.cells #[(.slice Ao121 t517.length co121)] 29 (0, 0))) ∧ Aside0 (Below w.heap.size w wc))
            case first =>
             have H := HC106.out
             clear HC106
             replace H := Option.bind_eq_some_iff.mp H
             obtain ⟨t522, A1270, H⟩ := H
             replace H : (if t522 = true then (laws_FnExactRemove.j2 kj62 t511 (t520 != t492) t512) else (laws_FnExactRemove.j2 kj62 t511 true t512)) = some r := H
             have A127 := Aside0.mk A1270
             clear A1270
             by_cases c128 : t522 = true
             ·subst c128
              have H1 : (laws_FnExactRemove.j2 kj62 t511 (t520 != t492) t512) = some r := by rw [if_pos rfl] at H; exact H
              clear H
              have H := H1
              clear H1
              have H' := Aside0.mk H
              clear H
              have hnb129 := NB521_484.out
              have hnc129 := NB484_521.out
              have hnb130 := NB521_493.out
              have hnc130 := NB493_521.out
              have hnb131 := NB521_497.out
              have hnc131 := NB497_521.out
              have hnb132 := NB521_502.out
              have hnc132 := NB502_521.out
              have ⟨hcz133_0, hfz133_0⟩ := Yc1 BK521.out
              have hnb134 := NB493_484.out
              have hnc134 := NB484_493.out
              have hnb135 := NB493_497.out
              have hnc135 := NB497_493.out
              have hnb136 := NB493_502.out
              have hnc136 := NB502_493.out
              have ⟨hcz137_0, hfz137_0⟩ := Yc1 BK493.out
              go_wp2_with (first | ((with_reducible refine gc 16 rfl ?_); refine gl (some 89) _ (#[.agg #[.slice Ao121 t517.length co121], .agg #[.slice Ao23 t489.length co23]]) Tryd.func16 ?_; (with_reducible refine (laws_eqTree.calls kj62 _ _ t517 _ _ t489 true _ ?side1 ?side2 ?side3 ?side4 A127.out).mono ?_); (case side1 => refine (Kd.R_reads' (e := 45) (base := w.heap.size) (ok := fun k_ => ((((True ∧ some k_ ≠ (.slice Ao23 t489.length co23 : Value).ownBlock) ∧ some k_ ≠ (.slice Ao29 t509.length co29 : Value).ownBlock) ∧ some k_ ≠ (.slice Ao35 t498.length co35 : Value).ownBlock) ∧ some k_ ≠ (.slice Ao118 t514.length co118 : Value).ownBlock)) (n := t517.length) (c := co121) ?_).2.2; exact (by (with_reducible repeat (first | apply Kd.R_alloc | apply Kd.R_drewN | apply Kd.R_drew)); exact (Kd.R_mono (Kd.R_far (p := ⟨gb521, 0, none⟩) (Kd.R_types HO519.out BK521.out (by decide)) (fun _ hk => hk.2) (.slice Ao121 t517.length co121)) (fun _ h_ => h_.1)))); (case side2 => exact (Kd.R_reads' HO519.out).2.1); (case side3 => refine (Kd.R_reads' (e := 45) (base := w.heap.size) (ok := fun k_ => (((some k_ ≠ (.slice Ao29 t509.length co29 : Value).ownBlock ∧ some k_ ≠ (.slice Ao35 t498.length co35 : Value).ownBlock) ∧ some k_ ≠ (.slice Ao118 t514.length co118 : Value).ownBlock) ∧ some k_ ≠ (.slice Ao121 t517.length co121 : Value).ownBlock)) (n := t489.length) (c := co23) ?_).2.2; exact (by (with_reducible repeat (first | apply Kd.R_alloc | apply Kd.R_drewN | apply Kd.R_drew)); exact (Kd.R_mono (Kd.R_far (p := ⟨gb521, 0, none⟩) (Kd.R_types HO_494000.out BK521.out (by decide)) (fun _ hk => hk.2) (.slice Ao121 t517.length co121)) (fun _ h_ => h_.1)))); (case side4 => exact (Kd.R_reads' HO_494000.out).2.1); rintro e w138 ⟨rfl, hb⟩; refine ⟨_, rfl, ?_⟩; have n0_ := Aside0.mk (Kd.R_below (by (with_reducible repeat (first | apply Kd.R_alloc | apply Kd.R_drewN | apply Kd.R_drew)); exact (Kd.R_mono (Kd.R_far (p := ⟨gb521, 0, none⟩) (Kd.R_types HO_494000.out BK521.out (by decide)) (fun _ hk => hk.2) (.slice Ao121 t517.length co121)) (fun _ h_ => h_.1))) hb); have n1_ := Aside0.mk (Kd.R_below (by (with_reducible repeat (first | apply Kd.R_alloc | apply Kd.R_drewN | apply Kd.R_drew)); exact (Kd.R_mono (Kd.R_far (p := ⟨gb521, 0, none⟩) (Kd.R_types HO_498000.out BK521.out (by decide)) (fun _ hk => hk.2) (.slice Ao121 t517.length co121)) (fun _ h_ => h_.1))) hb); have n2_ := Aside0.mk (Kd.R_below (by (with_reducible repeat (first | apply Kd.R_alloc | apply Kd.R_drewN | apply Kd.R_drew)); exact (Kd.R_mono (Kd.R_far (p := ⟨gb521, 0, none⟩) (Kd.R_types HO_503000.out BK521.out (by decide)) (fun _ hk => hk.2) (.slice Ao121 t517.length co121)) (fun _ h_ => h_.1))) hb); have n3_ := Aside0.mk (Kd.R_below (by (with_reducible repeat (first | apply Kd.R_alloc | apply Kd.R_drewN | apply Kd.R_drew)); exact (Kd.R_mono (Kd.R_far (p := ⟨gb521, 0, none⟩) (Kd.R_types HO516.out BK521.out (by decide)) (fun _ hk => hk.2) (.slice Ao121 t517.length co121)) (fun _ h_ => h_.1))) hb); have n4_ := Aside0.mk (Kd.R_below (by (with_reducible repeat (first | apply Kd.R_alloc | apply Kd.R_drewN | apply Kd.R_drew)); exact (Kd.R_mono (Kd.R_far (p := ⟨gb521, 0, none⟩) (Kd.R_types HO519.out BK521.out (by decide)) (fun _ hk => hk.2) (.slice Ao121 t517.length co121)) (fun _ h_ => h_.1))) hb); have n5_ := Aside0.mk (blk_below (g := gb484) (o := .cells #[.slice A0_0 l0_0.length c0_0] 24 (0, 0)) (bkf BK484.out NB484_521.out) hb); have n6_ := Aside0.mk (blk_below (g := gb493) (o := .cells #[.slice Ao23 t489.length co23] 29 (0, 0)) (bkf BK493.out NB493_521.out) hb); have n7_ := Aside0.mk (blk_below (g := gb497) (o := .cells #[.slice Ao29 t509.length co29] 29 (0, 0)) (bkf BK497.out NB497_521.out) hb); have n8_ := Aside0.mk (blk_below (g := gb502) (o := .cells #[.slice Ao35 t498.length co35] 29 (0, 0)) (bkf BK502.out NB502_521.out) hb); have n9_ := Aside0.mk (blk_below (g := gb521) (o := .cells #[.slice Ao121 t517.length co121] 29 (0, 0)) (by (with_reducible repeat (first | refine blk_drewN ?_ _ | refine blk_drew ?_ | refine blk_alloc ?_ _)); refine blk_put (cs := #[.slice none 0 0]) ?_ 0 _ rfl; (with_reducible repeat (first | refine blk_drewN ?_ _ | refine blk_drew ?_ | refine blk_alloc ?_ _)); exact BK521.out) hb); have n10_ := Aside0.mk (below_step (be5 HB.out GE484.out GE493.out GE497.out GE502.out GE521.out) hb); clear HO_494000; clear HO_498000; clear HO_503000; clear HO516; clear HO519; clear BK484; clear BK493; clear BK497; clear BK502; clear BK521; clear HB; have HO_494000 := n0_; have HO_498000 := n1_; have HO_503000 := n2_; have HO516 := n3_; have HO519 := n4_; have BK484 := n5_; have BK493 := n6_; have BK497 := n7_; have BK502 := n8_; have BK521 := n9_; have HB := n10_; clear n0_ n1_ n2_ n3_ n4_ n5_ n6_ n7_ n8_ n9_ n10_; (try clear hb); (try clear hb2); (try clear hk); (try clear hi)))
              go_meet
              case rel => exact ⟨_, ((t520 != t492)), Ye1, H', ⟨by have := HJ13.out; have := HJ62.out; first | omega | exact Nat.le_refl _⟩, ⟨by (try simp only [hl498000_62]); (with_reducible repeat (first | apply Kd.R_alloc | apply Kd.R_drewN | apply Kd.R_drew)); exact Kd.R_mono HO_494000.out (fun _ hk => ⟨hk.1.1.1, ⟨hk.1.1.2, hk.2⟩⟩)⟩, ⟨by (try simp only [hl498000_62]); (with_reducible repeat (first | apply Kd.R_alloc | apply Kd.R_drewN | apply Kd.R_drew)); exact Kd.R_mono HO_498000.out (fun _ hk => ⟨hk.1.1.1, ⟨hk.1.1.2, hk.2⟩⟩)⟩, ⟨by (try simp only [hl498000_62]); (with_reducible repeat (first | apply Kd.R_alloc | apply Kd.R_drewN | apply Kd.R_drew)); exact Kd.R_mono HO_503000.out (fun _ hk => ⟨hk.1.1.1, ⟨hk.1.1.2, hk.2⟩⟩)⟩, ⟨by (try simp only [hl498000_62]); (with_reducible repeat (first | apply Kd.R_alloc | apply Kd.R_drewN | apply Kd.R_drew)); exact Kd.R_mono HO519.out (fun _ hk => ⟨hk.1.1.1.2, ⟨hk.1.1.2, hk.1.2⟩⟩)⟩, ⟨by (try simp only [hl498000_62]); (with_reducible repeat (first | refine blk_drewN ?_ _ | refine blk_drew ?_ | refine blk_alloc ?_ _)); exact BK484.out⟩, ⟨by (try simp only [hl498000_62]); (with_reducible repeat (first | refine blk_drewN ?_ _ | refine blk_drew ?_ | refine blk_alloc ?_ _)); exact BK493.out⟩, ⟨by (try simp only [hl498000_62]); (with_reducible repeat (first | refine blk_drewN ?_ _ | refine blk_drew ?_ | refine blk_alloc ?_ _)); exact BK497.out⟩, ⟨by (try simp only [hl498000_62]); (with_reducible repeat (first | refine blk_drewN ?_ _ | refine blk_drew ?_ | refine blk_alloc ?_ _)); exact BK502.out⟩, ⟨by (try simp only [hl498000_62]); (with_reducible repeat (first | refine blk_drewN ?_ _ | refine blk_drew ?_ | refine blk_alloc ?_ _)); exact BK521.out⟩, ⟨be5 HB.out GE484.out GE493.out GE497.out GE502.out GE521.out⟩⟩
             ·replace c128 := Bool.eq_false_iff.mpr c128
              subst c128
              have H1 : (laws_FnExactRemove.j2 kj62 t511 true t512) = some r := by rw [if_neg (show ¬ (false = true) by decide)] at H; exact H
              clear H
              have H := H1
              clear H1
              have H' := Aside0.mk H
              clear H
              have hnb139 := NB521_484.out
              have hnc139 := NB484_521.out
              have hnb140 := NB521_493.out
              have hnc140 := NB493_521.out
              have hnb141 := NB521_497.out
              have hnc141 := NB497_521.out
              have hnb142 := NB521_502.out
              have hnc142 := NB502_521.out
              have ⟨hcz143_0, hfz143_0⟩ := Yc1 BK521.out
              have hnb144 := NB493_484.out
              have hnc144 := NB484_493.out
              have hnb145 := NB493_497.out
              have hnc145 := NB497_493.out
              have hnb146 := NB493_502.out
              have hnc146 := NB502_493.out
              have ⟨hcz147_0, hfz147_0⟩ := Yc1 BK493.out
              go_wp2_with (first | ((with_reducible refine gc 16 rfl ?_); refine gl (some 89) _ (#[.agg #[.slice Ao121 t517.length co121], .agg #[.slice Ao23 t489.length co23]]) Tryd.func16 ?_; (with_reducible refine (laws_eqTree.calls kj62 _ _ t517 _ _ t489 false _ ?side1 ?side2 ?side3 ?side4 A127.out).mono ?_); (case side1 => refine (Kd.R_reads' (e := 45) (base := w.heap.size) (ok := fun k_ => ((((True ∧ some k_ ≠ (.slice Ao23 t489.length co23 : Value).ownBlock) ∧ some k_ ≠ (.slice Ao29 t509.length co29 : Value).ownBlock) ∧ some k_ ≠ (.slice Ao35 t498.length co35 : Value).ownBlock) ∧ some k_ ≠ (.slice Ao118 t514.length co118 : Value).ownBlock)) (n := t517.length) (c := co121) ?_).2.2; exact (by (with_reducible repeat (first | apply Kd.R_alloc | apply Kd.R_drewN | apply Kd.R_drew)); exact (Kd.R_mono (Kd.R_far (p := ⟨gb521, 0, none⟩) (Kd.R_types HO519.out BK521.out (by decide)) (fun _ hk => hk.2) (.slice Ao121 t517.length co121)) (fun _ h_ => h_.1)))); (case side2 => exact (Kd.R_reads' HO519.out).2.1); (case side3 => refine (Kd.R_reads' (e := 45) (base := w.heap.size) (ok := fun k_ => (((some k_ ≠ (.slice Ao29 t509.length co29 : Value).ownBlock ∧ some k_ ≠ (.slice Ao35 t498.length co35 : Value).ownBlock) ∧ some k_ ≠ (.slice Ao118 t514.length co118 : Value).ownBlock) ∧ some k_ ≠ (.slice Ao121 t517.length co121 : Value).ownBlock)) (n := t489.length) (c := co23) ?_).2.2; exact (by (with_reducible repeat (first | apply Kd.R_alloc | apply Kd.R_drewN | apply Kd.R_drew)); exact (Kd.R_mono (Kd.R_far (p := ⟨gb521, 0, none⟩) (Kd.R_types HO_494000.out BK521.out (by decide)) (fun _ hk => hk.2) (.slice Ao121 t517.length co121)) (fun _ h_ => h_.1)))); (case side4 => exact (Kd.R_reads' HO_494000.out).2.1); rintro e w148 ⟨rfl, hb⟩; refine ⟨_, rfl, ?_⟩; have n0_ := Aside0.mk (Kd.R_below (by (with_reducible repeat (first | apply Kd.R_alloc | apply Kd.R_drewN | apply Kd.R_drew)); exact (Kd.R_mono (Kd.R_far (p := ⟨gb521, 0, none⟩) (Kd.R_types HO_494000.out BK521.out (by decide)) (fun _ hk => hk.2) (.slice Ao121 t517.length co121)) (fun _ h_ => h_.1))) hb); have n1_ := Aside0.mk (Kd.R_below (by (with_reducible repeat (first | apply Kd.R_alloc | apply Kd.R_drewN | apply Kd.R_drew)); exact (Kd.R_mono (Kd.R_far (p := ⟨gb521, 0, none⟩) (Kd.R_types HO_498000.out BK521.out (by decide)) (fun _ hk => hk.2) (.slice Ao121 t517.length co121)) (fun _ h_ => h_.1))) hb); have n2_ := Aside0.mk (Kd.R_below (by (with_reducible repeat (first | apply Kd.R_alloc | apply Kd.R_drewN | apply Kd.R_drew)); exact (Kd.R_mono (Kd.R_far (p := ⟨gb521, 0, none⟩) (Kd.R_types HO_503000.out BK521.out (by decide)) (fun _ hk => hk.2) (.slice Ao121 t517.length co121)) (fun _ h_ => h_.1))) hb); have n3_ := Aside0.mk (Kd.R_below (by (with_reducible repeat (first | apply Kd.R_alloc | apply Kd.R_drewN | apply Kd.R_drew)); exact (Kd.R_mono (Kd.R_far (p := ⟨gb521, 0, none⟩) (Kd.R_types HO516.out BK521.out (by decide)) (fun _ hk => hk.2) (.slice Ao121 t517.length co121)) (fun _ h_ => h_.1))) hb); have n4_ := Aside0.mk (Kd.R_below (by (with_reducible repeat (first | apply Kd.R_alloc | apply Kd.R_drewN | apply Kd.R_drew)); exact (Kd.R_mono (Kd.R_far (p := ⟨gb521, 0, none⟩) (Kd.R_types HO519.out BK521.out (by decide)) (fun _ hk => hk.2) (.slice Ao121 t517.length co121)) (fun _ h_ => h_.1))) hb); have n5_ := Aside0.mk (blk_below (g := gb484) (o := .cells #[.slice A0_0 l0_0.length c0_0] 24 (0, 0)) (bkf BK484.out NB484_521.out) hb); have n6_ := Aside0.mk (blk_below (g := gb493) (o := .cells #[.slice Ao23 t489.length co23] 29 (0, 0)) (bkf BK493.out NB493_521.out) hb); have n7_ := Aside0.mk (blk_below (g := gb497) (o := .cells #[.slice Ao29 t509.length co29] 29 (0, 0)) (bkf BK497.out NB497_521.out) hb); have n8_ := Aside0.mk (blk_below (g := gb502) (o := .cells #[.slice Ao35 t498.length co35] 29 (0, 0)) (bkf BK502.out NB502_521.out) hb); have n9_ := Aside0.mk (blk_below (g := gb521) (o := .cells #[.slice Ao121 t517.length co121] 29 (0, 0)) (by (with_reducible repeat (first | refine blk_drewN ?_ _ | refine blk_drew ?_ | refine blk_alloc ?_ _)); refine blk_put (cs := #[.slice none 0 0]) ?_ 0 _ rfl; (with_reducible repeat (first | refine blk_drewN ?_ _ | refine blk_drew ?_ | refine blk_alloc ?_ _)); exact BK521.out) hb); have n10_ := Aside0.mk (below_step (be5 HB.out GE484.out GE493.out GE497.out GE502.out GE521.out) hb); clear HO_494000; clear HO_498000; clear HO_503000; clear HO516; clear HO519; clear BK484; clear BK493; clear BK497; clear BK502; clear BK521; clear HB; have HO_494000 := n0_; have HO_498000 := n1_; have HO_503000 := n2_; have HO516 := n3_; have HO519 := n4_; have BK484 := n5_; have BK493 := n6_; have BK497 := n7_; have BK502 := n8_; have BK521 := n9_; have HB := n10_; clear n0_ n1_ n2_ n3_ n4_ n5_ n6_ n7_ n8_ n9_ n10_; (try clear hb); (try clear hb2); (try clear hk); (try clear hi)))
              go_meet
              case rel => exact ⟨_, (true), Ye1, H', ⟨by have := HJ13.out; have := HJ62.out; first | omega | exact Nat.le_refl _⟩, ⟨by (try simp only [hl498000_62]); (with_reducible repeat (first | apply Kd.R_alloc | apply Kd.R_drewN | apply Kd.R_drew)); exact Kd.R_mono HO_494000.out (fun _ hk => ⟨hk.1.1.1, ⟨hk.1.1.2, hk.2⟩⟩)⟩, ⟨by (try simp only [hl498000_62]); (with_reducible repeat (first | apply Kd.R_alloc | apply Kd.R_drewN | apply Kd.R_drew)); exact Kd.R_mono HO_498000.out (fun _ hk => ⟨hk.1.1.1, ⟨hk.1.1.2, hk.2⟩⟩)⟩, ⟨by (try simp only [hl498000_62]); (with_reducible repeat (first | apply Kd.R_alloc | apply Kd.R_drewN | apply Kd.R_drew)); exact Kd.R_mono HO_503000.out (fun _ hk => ⟨hk.1.1.1, ⟨hk.1.1.2, hk.2⟩⟩)⟩, ⟨by (try simp only [hl498000_62]); (with_reducible repeat (first | apply Kd.R_alloc | apply Kd.R_drewN | apply Kd.R_drew)); exact Kd.R_mono HO519.out (fun _ hk => ⟨hk.1.1.1.2, ⟨hk.1.1.2, hk.1.2⟩⟩)⟩, ⟨by (try simp only [hl498000_62]); (with_reducible repeat (first | refine blk_drewN ?_ _ | refine blk_drew ?_ | refine blk_alloc ?_ _)); exact BK484.out⟩, ⟨by (try simp only [hl498000_62]); (with_reducible repeat (first | refine blk_drewN ?_ _ | refine blk_drew ?_ | refine blk_alloc ?_ _)); exact BK493.out⟩, ⟨by (try simp only [hl498000_62]); (with_reducible repeat (first | refine blk_drewN ?_ _ | refine blk_drew ?_ | refine blk_alloc ?_ _)); exact BK497.out⟩, ⟨by (try simp only [hl498000_62]); (with_reducible repeat (first | refine blk_drewN ?_ _ | refine blk_drew ?_ | refine blk_alloc ?_ _)); exact BK502.out⟩, ⟨by (try simp only [hl498000_62]); (with_reducible repeat (first | refine blk_drewN ?_ _ | refine blk_drew ?_ | refine blk_alloc ?_ _)); exact BK521.out⟩, ⟨be5 HB.out GE484.out GE493.out GE497.out GE502.out GE521.out⟩⟩
            case rest =>
             clear HC106
             try clear c1
             try clear c2
             try clear p2
             try clear c3
             try clear c3b0
             try clear c3b1
             try clear c4
             try clear c5
             try clear c6
             try clear c6b0
             try clear c7
             try clear c8
             try clear c9
             try clear c10
             try clear c11
             try clear c12
             try clear c13
             try clear c14
             try clear c16
             try clear c24
             try clear c27
             try clear c28
             try clear c30
             try clear c31
             try clear c33
             try clear c34
             try clear c36
             try clear c37
             try clear c38
             try clear c41
             try clear c42
             try clear c43
             try clear c44
             try clear c46
             try clear c47
             try clear c50
             try clear c51
             try clear c52
             try clear c54
             try clear c55
             try clear c58
             try clear c61
             try clear c68
             try clear c69
             try clear c70
             try clear c73
             try clear c73b0
             try clear c75
             try clear c76
             try clear c77
             try clear c78
             try clear c80
             try clear c81
             try clear c84
             try clear c85
             try clear c86
             try clear c88
             try clear c89
             try clear c92
             try clear c95
             try clear c95b0
             try clear c96
             try clear c97
             try clear c98
             try clear c103
             try clear c103b0
             try clear c103b1
             try clear c107
             try clear c108
             try clear c109
             try clear c114
             try clear c115
             try clear c122
             try clear c123
             try clear c124
             try clear c125
             try clear c128
             try clear c129
             try clear c130
             try clear c131
             try clear c132
             try clear c134
             try clear c135
             try clear c136
             try clear c139
             try clear c140
             try clear c141
             try clear c142
             try clear c144
             try clear c145
             try clear c146
             try clear hcz101_0
             try clear hcz110_0
             try clear hcz112_0
             try clear hcz116_0
             try clear hcz126_0
             try clear hcz133_0
             try clear hcz137_0
             try clear hcz143_0
             try clear hcz147_0
             try clear hcz16_0
             try clear hcz18_0
             try clear hcz25_0
             try clear hcz26_0
             try clear hcz32_0
             try clear hcz39_0
             try clear hcz45_0
             try clear hcz48_0
             try clear hcz53_0
             try clear hcz56_0
             try clear hcz71_0
             try clear hcz79_0
             try clear hcz82_0
             try clear hcz87_0
             try clear hcz8_0
             try clear hcz90_0
             try clear hcz99_0
             try clear hfz101_0
             try clear hfz110_0
             try clear hfz112_0
             try clear hfz116_0
             try clear hfz126_0
             try clear hfz133_0
             try clear hfz137_0
             try clear hfz143_0
             try clear hfz147_0
             try clear hfz16_0
             try clear hfz18_0
             try clear hfz25_0
             try clear hfz26_0
             try clear hfz32_0
             try clear hfz39_0
             try clear hfz45_0
             try clear hfz48_0
             try clear hfz53_0
             try clear hfz56_0
             try clear hfz71_0
             try clear hfz79_0
             try clear hfz82_0
             try clear hfz87_0
             try clear hfz8_0
             try clear hfz90_0
             try clear hfz99_0
             try clear p2
             obtain ⟨kq, x95_105, rfl, HA, HJ105, HO_494000, HO_498000, HO_503000, HO_522000, BK484, BK493, BK497, BK502, BK521, HB⟩ := hcut
             have hl503000_105 := (Kd.R_reads' HO_503000.out).1
             rw [hl503000_105] at HO_503000
             (try simp only [hl503000_105])
             (try simp only [hl503000_105] at BK484)
             (try simp only [hl503000_105] at BK493)
             (try simp only [hl503000_105] at BK497)
             (try simp only [hl503000_105] at BK502)
             (try simp only [hl503000_105] at BK521)
             (try simp only [hl503000_105] at HO_494000)
             (try simp only [hl503000_105] at HO_498000)
             (try simp only [hl503000_105] at HO_522000)
             cases kq with
             | zero => exact absurd HA.out (by simp [laws_FnExactRemove.j2])
             | succ kj105 =>
              have H := HA.out
              clear HA
              simp only [laws_FnExactRemove.j2] at H
              by_cases c149 : x95_105 = true
              ·subst c149
               have H1 : (some false) = some r := by rw [if_pos rfl] at H; exact H
               clear H
               have H := H1
               clear H1
               exact absurd ((Option.some.inj H).trans hrt) (by decide)
              ·replace c149 := Bool.eq_false_iff.mpr c149
               subst c149
               have H1 : ((laws_heldTree.f kj105 t512 1).bind fun t523 => (if t523 < 0 then (some false) else (if t523 = t511 then (some true) else (some false)))) = some r := by rw [if_neg (show ¬ (false = true) by decide)] at H; exact H
               clear H
               have H := H1
               clear H1
               replace H := Option.bind_eq_some_iff.mp H
               obtain ⟨t523, A1500, H⟩ := H
               replace H : (if t523 < 0 then (some false) else (if t523 = t511 then (some true) else (some false))) = some r := H
               have A150 := Aside0.mk A1500
               clear A1500
               by_cases c151 : t523 < 0
               ·rw [if_pos c151] at H
                have c151b0 : decide (t523 < 0) = true := decide_eq_true c151
                clear c151
                exact absurd ((Option.some.inj H).trans hrt) (by decide)
               ·rw [if_neg c151] at H
                have c151b0 : decide (t523 < 0) = false := decide_eq_false c151
                clear c151
                by_cases c158 : t523 = t511
                ·rw [if_pos c158] at H
                 have c158b0 : (t523 == t511) = true := beq_iff_eq.mpr c158
                 have c158b1 : (t523 != t511) = false := bne_eq_false_iff_eq.mpr c158
                 clear c158
                 obtain rfl := Option.some.inj H
                 have hnb159 := NB502_484.out
                 have hnc159 := NB484_502.out
                 have hnb160 := NB502_493.out
                 have hnc160 := NB493_502.out
                 have hnb161 := NB502_497.out
                 have hnc161 := NB497_502.out
                 have hnb162 := NB502_521.out
                 have hnc162 := NB521_502.out
                 have ⟨hcz163_0, hfz163_0⟩ := Yc1 BK502.out
                 go_wp2_with (first | ((with_reducible refine gc 28 rfl ?_); refine gl (some 98) _ (#[.agg #[.slice Ao35 t512.length co35], .int .i64 1]) Tryd.func28 ?_; (with_reducible refine (laws_heldTree.calls kj105 _ _ t512 1 t523 _ ?side1 ?side2 A150.out).mono ?_); (case side1 => repeat (first | exact (Kd.R_reads' HO_503000.out).2.2 | (with_reducible refine Kd.C_alloc ?_ _) | (with_reducible refine Kd.C_drewN ?_ _) | (with_reducible refine Kd.C_drew ?_))); (case side2 => exact (Kd.R_reads' HO_503000.out).2.1); rintro e w164 ⟨rfl, hb⟩; refine ⟨_, rfl, ?_⟩; have n0_ := Aside0.mk (Kd.R_below (kr HO_494000.out) hb); have n1_ := Aside0.mk (Kd.R_below (kr HO_498000.out) hb); have n2_ := Aside0.mk (Kd.R_below (kr HO_503000.out) hb); have n3_ := Aside0.mk (Kd.R_below (kr HO_522000.out) hb); have n4_ := Aside0.mk (bb BK484 hb); have n5_ := Aside0.mk (bb BK493 hb); have n6_ := Aside0.mk (bb BK497 hb); have n7_ := Aside0.mk (bb BK502 hb); have n8_ := Aside0.mk (bb BK521 hb); have n9_ := Aside0.mk (below_step (be5 HB.out GE484.out GE493.out GE497.out GE502.out GE521.out) hb); clear HO_494000; clear HO_498000; clear HO_503000; clear HO_522000; clear BK484; clear BK493; clear BK497; clear BK502; clear BK521; clear HB; have HO_494000 := n0_; have HO_498000 := n1_; have HO_503000 := n2_; have HO_522000 := n3_; have BK484 := n4_; have BK493 := n5_; have BK497 := n6_; have BK502 := n7_; have BK521 := n8_; have HB := n9_; clear n0_ n1_ n2_ n3_ n4_ n5_ n6_ n7_ n8_ n9_; (try clear hb); (try clear hb2); (try clear hk); (try clear hi)))
                 go_ret
                 exact ⟨Ye2, (by first | exact be5 HB.out GE484.out GE493.out GE497.out GE502.out GE521.out | exact be4 HB.out GE484.out GE493.out GE497.out GE502.out | exact be3 HB.out GE484.out GE493.out GE497.out)⟩
                ·rw [if_neg c158] at H
                 have c158b0 : (t523 == t511) = false := beq_eq_false_iff_ne.mpr c158
                 have c158b1 : (t523 != t511) = true := bne_iff_ne.mpr c158
                 obtain rfl := Option.some.inj H
                 have hnb165 := NB502_484.out
                 have hnc165 := NB484_502.out
                 have hnb166 := NB502_493.out
                 have hnc166 := NB493_502.out
                 have hnb167 := NB502_497.out
                 have hnc167 := NB497_502.out
                 have hnb168 := NB502_521.out
                 have hnc168 := NB521_502.out
                 have ⟨hcz169_0, hfz169_0⟩ := Yc1 BK502.out
                 go_wp2_with (first | ((with_reducible refine gc 28 rfl ?_); refine gl (some 98) _ (#[.agg #[.slice Ao35 t512.length co35], .int .i64 1]) Tryd.func28 ?_; (with_reducible refine (laws_heldTree.calls kj105 _ _ t512 1 t523 _ ?side1 ?side2 A150.out).mono ?_); (case side1 => repeat (first | exact (Kd.R_reads' HO_503000.out).2.2 | (with_reducible refine Kd.C_alloc ?_ _) | (with_reducible refine Kd.C_drewN ?_ _) | (with_reducible refine Kd.C_drew ?_))); (case side2 => exact (Kd.R_reads' HO_503000.out).2.1); rintro e w170 ⟨rfl, hb⟩; refine ⟨_, rfl, ?_⟩; have n0_ := Aside0.mk (Kd.R_below (kr HO_494000.out) hb); have n1_ := Aside0.mk (Kd.R_below (kr HO_498000.out) hb); have n2_ := Aside0.mk (Kd.R_below (kr HO_503000.out) hb); have n3_ := Aside0.mk (Kd.R_below (kr HO_522000.out) hb); have n4_ := Aside0.mk (bb BK484 hb); have n5_ := Aside0.mk (bb BK493 hb); have n6_ := Aside0.mk (bb BK497 hb); have n7_ := Aside0.mk (bb BK502 hb); have n8_ := Aside0.mk (bb BK521 hb); have n9_ := Aside0.mk (below_step (be5 HB.out GE484.out GE493.out GE497.out GE502.out GE521.out) hb); clear HO_494000; clear HO_498000; clear HO_503000; clear HO_522000; clear BK484; clear BK493; clear BK497; clear BK502; clear BK521; clear HB; have HO_494000 := n0_; have HO_498000 := n1_; have HO_503000 := n2_; have HO_522000 := n3_; have BK484 := n4_; have BK493 := n5_; have BK497 := n6_; have BK502 := n7_; have BK521 := n8_; have HB := n9_; clear n0_ n1_ n2_ n3_ n4_ n5_ n6_ n7_ n8_ n9_; (try clear hb); (try clear hb2); (try clear hk); (try clear hi)))
                 go_ret
                 exact ⟨Ye2, (by first | exact be5 HB.out GE484.out GE493.out GE497.out GE502.out GE521.out | exact be4 HB.out GE484.out GE493.out GE497.out GE502.out | exact be3 HB.out GE484.out GE493.out GE497.out)⟩
           ·rw [if_neg c103] at H
            have c103b0 : (t513 == t511) = false := beq_eq_false_iff_ne.mpr c103
            have c103b1 : (t513 != t511) = true := bne_iff_ne.mpr c103
            obtain rfl := Option.some.inj H
            have hnb171 := NB502_484.out
            have hnc171 := NB484_502.out
            have hnb172 := NB502_493.out
            have hnc172 := NB493_502.out
            have hnb173 := NB502_497.out
            have hnc173 := NB497_502.out
            have ⟨hcz174_0, hfz174_0⟩ := Yc1 BK502.out
            go_wp2_with (first | ((with_reducible refine gc 27 rfl ?_); refine gl (some 71) _ (#[.agg #[.slice Ao35 t498.length co35], .int .i64 1]) Tryd.func27 ?_; (with_reducible refine (laws_markTree.calls kj62 (fun k_ => some k_ = (.slice Ao35 t498.length co35 : Value).ownBlock) (.slice Ao35 t498.length co35) t498 1 t511 t512 w _ ?side1 ?side2 A93.out).mono ?_); (case side1 => repeat (first | (with_reducible first | exact HB.out | apply below_alloc | apply pw_below_drewN | apply below_drew1 | refine below_set ?_ GE484.out | refine below_set ?_ GE493.out | refine below_set ?_ GE497.out | refine below_set ?_ GE502.out) | exact HB.out)); (case side2 => exact Kd.R_tight rfl HO_503000.out); rintro e w175 ⟨rfl, hy0, hb, hkp⟩; refine ⟨_, rfl, ?_⟩; refine Ya8 (Kd.R_mono (ok' := fun k_ => some k_ ≠ (.slice Ao29 t509.length co29 : Value).ownBlock ∧ some k_ ≠ (.slice Ao35 t498.length co35 : Value).ownBlock) (Kd.R_keptB (HO_494000.out) hkp (fun k_ hk_ hs_ => (hk_.2) hs_)) (fun k_ hk_ => ⟨hk_.1.1, hk_.1.2⟩)) (Kd.R_mono (ok' := fun k_ => some k_ ≠ (.slice Ao23 t489.length co23 : Value).ownBlock ∧ some k_ ≠ (.slice Ao35 t498.length co35 : Value).ownBlock) (Kd.R_keptB (HO_498000.out) hkp (fun k_ hk_ hs_ => (hk_.2) hs_)) (fun k_ hk_ => ⟨hk_.1.1, hk_.1.2⟩)) (Kd.R_reok rfl hy0 (fun k_ e_ => HO_503000.out.1 k_ e_)) (blk_kept (bk BK484.out) hkp (fun hs_ => (fun e_ => (Kd.R_ne HO_503000.out BK484.out (by decide)) e_) hs_)) (blk_kept (bk BK493.out) hkp (fun hs_ => (fun e_ => (Kd.R_ne HO_503000.out BK493.out (by decide)) e_) hs_)) (blk_kept (bk BK497.out) hkp (fun hs_ => (fun e_ => (Kd.R_ne HO_503000.out BK497.out (by decide)) e_) hs_)) (blk_kept (bk BK502.out) hkp (fun hs_ => (fun e_ => (Kd.R_ne HO_503000.out BK502.out (by decide)) e_) hs_)) (hb) ?_; clear HO_494000 HO_498000 HO_503000 BK484 BK493 BK497 BK502 HB; intro HO_494000 HO_498000 HO_503000 BK484 BK493 BK497 BK502 HB; (try clear hb); (try clear hkp); (try clear hy0); have ⟨hcz176_0, hfz176_0⟩ := Yc1 BK502.out) | ((with_reducible refine gc 28 rfl ?_); refine goesL_ (some 74) rfl rfl Tryd.func28 (by kernel_rfl) rfl #[.agg #[.slice Ao35 t512.length co35], .int .i64 1] rfl (by (try simp only [List.map_toArray, List.map_cons, List.map_nil]); first | done | (rw [show t512.length = t498.length from (Kd.R_reads' HO_503000.out).1.symm] <;> rfl) | rfl | (simp only [List.length_drop, List.length_take]; rfl)) ?_; (with_reducible refine (laws_heldTree.calls kj62 _ _ t512 1 t513 _ ?side1 ?side2 A94.out).mono ?_); (case side1 => repeat (first | exact (Kd.R_reads' HO_503000.out).2.2 | (with_reducible refine Kd.C_alloc ?_ _) | (with_reducible refine Kd.C_drewN ?_ _) | (with_reducible refine Kd.C_drew ?_))); (case side2 => rw [show t512.length = t498.length from (Kd.R_reads' HO_503000.out).1.symm]; exact (Kd.R_reads' HO_503000.out).2.1); rintro e w177 ⟨rfl, hb⟩; refine ⟨_, rfl, ?_⟩; refine Ya8 (Kd.R_below (kr HO_494000.out) hb) (Kd.R_below (kr HO_498000.out) hb) (Kd.R_below (kr HO_503000.out) hb) (bb BK484 hb) (bb BK493 hb) (bb BK497 hb) (bb BK502 hb) (below_step (be4 HB.out GE484.out GE493.out GE497.out GE502.out) hb) ?_; clear HO_494000 HO_498000 HO_503000 BK484 BK493 BK497 BK502 HB; intro HO_494000 HO_498000 HO_503000 BK484 BK493 BK497 BK502 HB; (try clear hb); (try clear hb2); (try clear hk); (try clear hi)))
            go_ret
            exact ⟨Ye2, (by first | exact be4 HB.out GE484.out GE493.out GE497.out GE502.out | exact be3 HB.out GE484.out GE493.out GE497.out | exact be2 HB.out GE484.out GE493.out)⟩
      ·replace c61 := Bool.eq_false_iff.mpr c61
       subst c61
       have H1 : (some false) = some r := by rw [if_neg (show ¬ (false = true) by decide)] at H; exact H
       clear H
       have H := H1
       clear H1
       exact absurd ((Option.some.inj H).trans hrt) (by decide)
end Go.Proofs.YtkdghhkpmkfjhaaDoor.P

