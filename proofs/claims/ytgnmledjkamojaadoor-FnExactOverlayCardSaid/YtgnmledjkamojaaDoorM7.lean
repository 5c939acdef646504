/- Several texts of this claim in one file: YtgnmledjkamojaaDoorPImplSorted, YtgnmledjkamojaaDoorPImplEntry67, YtgnmledjkamojaaDoorPImplOverlay. -/
import Derived.Test.YtgnmledjkamojaaDoorM2
import Derived.Test.YtgnmledjkamojaaDoorM3
import Derived.Test.YtgnmledjkamojaaDoorM6
import Derived.Deep.QuietTactic
import Derived.Shelf.SlSortFuncK.WholeK
import Derived.Shelf.GgSortFunc.Tiny
import Derived.Laws.AppendOwn
import Derived.Shelf.Slices.Clone
import Derived.Test.YtgnmledjkamojaaDoorM4
namespace Go.Proofs.YtgnmledjkamojaaDoor.P
open Go.RowKit Go.Proofs.YtgnmledjkamojaaDoorW.PrintWords Go.Proofs.YtgnmledjkamojaaDoorW.PrintLast Go.Proofs.YtgnmledjkamojaaDoorW.PrintMore
attribute [local go_sem] max2_int min2_int max_two min_two max_three min_three max_four min_four
set_option linter.unusedVariables false
set_option linter.unusedSimpArgs false

/-! ### impl_sorted: function 71 -/
/- Walked by hand. -/
open Go.Proofs.YtgnmledjkamojaaDoor.Pure
def impl_sorted.f (l0 : List S37) : Option (List S37) := if l0.length < 4611686018427387904 ∧ Apart l0 then some (sortE l0) else none
instance : Inhabited S37 := ⟨z37⟩
def impl_sorted.enc (x : S37) : List Value := [.string x.f0, .string x.f1, .bool x.f2]
def impl_sorted.lt (x y : S37) : Bool := Op.bytesLess x.f0.toList y.f0.toList
theorem impl_sorted.swo : Go.Sort.SWO impl_sorted.lt where
 irrefl x := less_irrefl _
 trans x y z h1 h2 := less_trans _ _ _ h1 h2
 ntrans x y z h1 h2 := by
  unfold impl_sorted.lt at *
  rw [← Bool.not_eq_true]
  intro h3
  by_cases e1 : x.f0.toList = y.f0.toList
  ·rw [e1] at h3
   exact absurd h3 (by rw [h2]; simp)
  ·have := less_trans _ _ _ (less_or h1 e1) h3
   exact absurd this (by show ¬ Op.bytesLess y.f0.toList z.f0.toList = true; rw [h2]; simp)
section
variable {w : World} {g n : Nat} {os : Array Obj} {cur : Array Value} {e : TypeId} {fr : Nat × Nat}
theorem impl_sorted.heap_put (d : Array Value) (hb : w.heap[g]? = some (.cells cur e fr)) : (Sort.grow (Sort.putRow id (Sort.ahead w n) g 0 d) os).heap[g]? = some (.cells (Sort.putCells id 0 d cur) e fr) := by
 have hg : g < w.heap.size := (Array.getElem?_eq_some_iff.1 hb).1
 rw [Sort.heap_grow_old _ _ (by simpa using hg)]
 simp [Sort.putRow, Sort.mapBlock, Sort.ahead, Array.getElem?_modify, hb, Sort.onCells]
theorem impl_sorted.grown (d : Array Value) : w.grownBy (Sort.grow (Sort.putRow id (Sort.ahead w n) g 0 d) os) (some g) := by
 refine ⟨rfl, rfl, rfl, by simp, fun k hk hne => ?_⟩
 rw [Sort.heap_grow_old _ _ (by simpa using hk)]
 have : g ≠ k := fun e => hne (by rw [e])
 simp [Sort.putRow, Sort.mapBlock, Sort.ahead, Array.getElem?_modify, this]
theorem impl_sorted.take_put (cur : Array Value) (ts : List Value) (h : ts.length ≤ cur.size) : (Sort.putCells id 0 ts.toArray cur).toList.take ts.length = ts := by
 apply List.ext_getElem?
 intro j
 by_cases hj : j < ts.length
 ·rw [List.getElem?_take_of_lt hj, Array.getElem?_toList]
  simp [Sort.putCells, hj, show j < cur.size by omega]
 ·rw [List.getElem?_take_eq_none (by omega), List.getElem?_eq_none (by omega)]
end
theorem impl_sorted.flat_get (l : List S37) (j : Nat) (x : S37) (h : l[j]? = some x) : ((Sort.flatK impl_sorted.enc 3 l.toArray).toList.drop (j * 3)).take 3 = impl_sorted.enc x := by
 have hj := (List.getElem?_eq_some_iff.1 h).1
 have hx : l.toArray[j]! = x := by
  rw [getElem!_pos l.toArray j (by simpa using hj)]
  simpa using (List.getElem?_eq_some_iff.1 h).2
 apply List.ext_getElem?
 intro c
 by_cases hc : c < 3
 ·rw [List.getElem?_take_of_lt hc, List.getElem?_drop, Array.getElem?_toList]
  have hlt : j * 3 + c < l.toArray.size * 3 := by
   simp only [List.size_toArray]
   omega
  have := Sort.get_flatK impl_sorted.enc 3 l.toArray (j * 3 + c) hlt
  rw [getElem!_pos _ _ (by simpa using hlt)] at this
  rw [Array.getElem?_eq_getElem (by simpa using hlt), this, show (j * 3 + c) / 3 = j from by omega, show (j * 3 + c) % 3 = c from by omega, hx]
  rw [getElem!_pos (impl_sorted.enc x) c hc, List.getElem?_eq_getElem (show c < (impl_sorted.enc x).length from hc)]
  rfl
 ·rw [List.getElem?_take_eq_none (by omega), List.getElem?_eq_none (by show 3 ≤ c; omega)]
theorem impl_sorted.flat_of (l : List S37) {cs : List Value} (h : Reps (fun x c => c = impl_sorted.enc x) 3 l cs) : cs = (Sort.flatK impl_sorted.enc 3 l.toArray).toList := by
 apply List.ext_getElem?
 intro t
 by_cases ht : t < l.length * 3
 ·have hj : t / 3 < l.length := by omega
  obtain ⟨x, hx⟩ : ∃ x, l[t / 3]? = some x := ⟨_, List.getElem?_eq_getElem hj⟩
  have h1 := h.2 _ x hx
  have h2 := impl_sorted.flat_get l _ x hx
  have h3 : ((cs.drop (t / 3 * 3)).take 3)[t % 3]? = (((Sort.flatK impl_sorted.enc 3 l.toArray).toList.drop (t / 3 * 3)).take 3)[t % 3]? := by rw [h1, h2]
  rw [List.getElem?_take_of_lt (by omega), List.getElem?_take_of_lt (by omega), List.getElem?_drop, List.getElem?_drop, show t / 3 * 3 + t % 3 = t from by omega] at h3
  exact h3
 ·rw [List.getElem?_eq_none (by rw [h.1]; omega), List.getElem?_eq_none (by simp; omega)]
theorem impl_sorted.reps_flat (w : World) (base : Nat) (ok : Nat → Prop) (l : List S37) : Reps (k37.M w base ok) 3 l (Sort.flatK impl_sorted.enc 3 l.toArray).toList := by
 refine ⟨by simp, fun j x hx => ?_⟩
 rw [impl_sorted.flat_get l j x hx]
 exact k37_mkM w base ok x
/-- What a row of entries of one's own is, cell by cell. -/
theorem impl_sorted.opened {w : World} {base : Nat} {ok : Nat → Prop} {v : Value} {l : List S37} (h : Kd.R k37 37 w base ok v l) : w.ownsRow base 37 3 v l.length (Sort.flatK impl_sorted.enc 3 l.toArray).toList := by
 obtain ⟨_, inner, ho, hr⟩ := h
 have hr' : Reps (fun x c => c = impl_sorted.enc x) 3 l inner := hr.imp_ (fun x c hc => k37_openM hc)
 rw [← impl_sorted.flat_of l hr']
 exact ho
theorem impl_sorted.holds {w : World} {g cap n : Nat} {base : Nat} {l : List S37} (h : w.ownsRow base 37 3 (.slice (some ⟨g, 0, none⟩) n cap) l.length (Sort.flatK impl_sorted.enc 3 l.toArray).toList) : Sort.HoldsK impl_sorted.enc 3 w g 0 l.toArray := by
 rcases h.2 with ⟨h0, _⟩ | ⟨g', cap', cur, hv, hbase, hb, h1, h2, h3, h4⟩
 ·cases h0
 injection hv with hv _ _
 injection hv with hv
 injection hv with hv
 subst hv
 intro j hj
 have hj' : j < l.length * 3 := by simpa using hj
 refine ⟨?_, by simp [World.frozen?, hb]⟩
 have h5 : (cur.toList.take (l.length * 3))[j]? = (Sort.flatK impl_sorted.enc 3 l.toArray).toList[j]? := by rw [h4]
 rw [List.getElem?_take_of_lt hj', Array.getElem?_toList, Array.getElem?_toList, Array.getElem?_eq_getElem hj] at h5
 rw [Nat.zero_add, blk_cell hb j, h5]
 show some _ = some ((Sort.flatK impl_sorted.enc 3 l.toArray)[j]!)
 rw [getElem!_pos (Sort.flatK impl_sorted.enc 3 l.toArray) j hj]
noncomputable def impl_sorted.svT : TypeInfo := (Tryd.prog.info? 26).get (by kernel_rfl)
noncomputable def impl_sorted.svE : TypeInfo := (Tryd.prog.info? 37).get (by kernel_rfl)
theorem impl_sorted.svK (n : Nat) (h2 : 2 ≤ n) : Go.Lib.swapperK n impl_sorted.svE 25 = 9 := by
 have a : impl_sorted.svE.hasPointers = true := by kernel_rfl
 have b : impl_sorted.svE.bytes = 40 := by kernel_rfl
 have c : (n == 0) = false := by simp; omega
 have d : (n == 1) = false := by simp; omega
 simp [Go.Lib.swapperK, a, b, c, d]
set_option maxHeartbeats 2000000 in
theorem impl_sorted.less_calls (blk off c Bs size : Nat) (W : World) (G : Nat → ByteArray) (hs : W.cell? ⟨Bs, 0, none⟩ = some (.slice (some ⟨blk, off, none⟩) size c))
  (hc : ∀ t, t < size → W.cell? ⟨blk, off + t * 3, none⟩ = some (.string (G t))) (i j : Nat) (hi : i < size) (hj : j < size) (_hsz : size < 4611686018427387904) :
  Calls Tryd.prog 143 #[.int .i64 i, .int .i64 j, .pointer (some ⟨Bs, 0, none⟩)] W fun e w' => e = .returned (.bool (Op.bytesLess (G i).toList (G j).toList)) ∧ ∃ q, w' = W.drewN q := by
 have ci := hc i hi
 have cj := hc j hj
 have hu45 := Tryd.underlying37
 have hu27 := Tryd.underlying26
 clear hc
 go_enter Tryd.func143, Tryd.ntmps143
 go_wp2
 go_quiet (fail)
 go_wp2
 go_ret
 exact ⟨rfl, nq, rfl⟩
theorem impl_sorted.sort_calls (blk c Bs : Nat) (d : Array S37) (h2 : 2 ≤ d.size) (hsz : d.size < 4611686018427387904) (w : World) (hH : Sort.HoldsK impl_sorted.enc 3 w blk 0 d) (hblk : blk < w.heap.size)
  (hBs : w.cell? ⟨Bs, 0, none⟩ = some (.slice (some ⟨blk, 0, none⟩) d.size c)) (hB1 : Bs < w.heap.size) (hB2 : Bs ≠ blk) :
  Calls Tryd.prog 142 #[.iface 26 (.slice (some ⟨blk, 0, none⟩) d.size c), .func (.func 143) #[] #[.pointer (some ⟨Bs, 0, none⟩)]] w fun e w' =>
   e = .returned (.tuple #[]) ∧ ∃ d' n os, Sort.PermIn 0 d.size d d' ∧ Sort.SortedIn impl_sorted.lt 0 d.size d' ∧ w' = Sort.grow (Sort.putRowK impl_sorted.enc 3 (Sort.ahead w n) blk 0 d') os := by
 have hless : LessReadsK Tryd.prog 143 #[.pointer (some ⟨Bs, 0, none⟩)] impl_sorted.enc 3 impl_sorted.lt blk 0 d.size w := by
  intro m os dk hs i j hi hj
  have e : sortWorldK impl_sorted.enc 3 w blk 0 m dk os = Sort.putRowK impl_sorted.enc 3 (Sort.grow (Sort.ahead w m) os) blk 0 dk := by
   unfold sortWorldK; rw [Sort.putRowK_grow _ _ (Sort.ahead w m) _ blk 0 _ hblk]
  have hHg : Sort.HoldsK impl_sorted.enc 3 (Sort.grow (Sort.ahead w m) os) blk 0 d := Sort.holdsK_grow _ _ _ _ blk 0 d hblk (Sort.holdsK_ahead _ _ _ _ _ _ _ hH)
  refine impl_sorted.less_calls blk 0 c Bs d.size _ (fun t => dk[t]!.f0) ?_ (fun t ht => ?_) i j hi hj (by omega)
  ·rw [e, Sort.cell?_putRowK_other _ _ _ blk 0 dk _ (by exact hB2), Sort.cell?_grow _ _ _ (by exact hB1)]; exact hBs
  ·rw [e]; exact ((Sort.holdsK_putRowK _ _ _ blk 0 d dk hHg hs).cell (i := t) (c := 0) (by omega) (by omega)).1
 exact Any.sort_Slice_cells_sorted Tryd.laysGg6 26 37 impl_sorted.svT impl_sorted.svE (by kernel_rfl) (by kernel_rfl) (by kernel_rfl) (by kernel_rfl) 25 (fun _ => by kernel_rfl) impl_sorted.enc 3 (fun _ => rfl) (by kernel_rfl) (fun _ => by kernel_rfl)
  (fun x v hv => by simp [impl_sorted.enc] at hv; rcases hv with rfl | rfl | rfl <;> rfl) impl_sorted.lt impl_sorted.swo 143 _
  (enters_of Tryd.func143 (by kernel_rfl) rfl) blk 0 c d h2 hsz 198 (by rw [impl_sorted.svK _ h2]; kernel_rfl) false
  (fun args W => run_callFunc_extern Tryd.func198 (by kernel_rfl) (by kernel_rfl) (by kernel_rfl) (e := Extern.ReflectliteSwapper.swap false) (by kernel_rfl) args W) w hless hH hblk
theorem impl_sorted.tiny_calls (p : Option Addr) (n c Bs : Nat) (h1 : n ≤ 1) (w : World) :
  Calls Tryd.prog 142 #[.iface 26 (.slice p n c), .func (.func 143) #[] #[.pointer (some ⟨Bs, 0, none⟩)]] w fun e w' => e = .returned (.tuple #[]) ∧ ∃ os, w' = Sort.grow w os := by
 have : n = 0 ∨ n = 1 := by omega
 rcases this with rfl | rfl
 ·exact Any.sort_Slice_tiny Tryd.laysGg6 26 37 impl_sorted.svT impl_sorted.svE (by kernel_rfl) (by kernel_rfl) (by kernel_rfl) (by kernel_rfl) 25 (fun _ => by kernel_rfl) p 0 c (by omega) 190 (by kernel_rfl) _ _ _ w
 ·exact Any.sort_Slice_tiny Tryd.laysGg6 26 37 impl_sorted.svT impl_sorted.svE (by kernel_rfl) (by kernel_rfl) (by kernel_rfl) (by kernel_rfl) 25 (fun _ => by kernel_rfl) p 1 c (by omega) 191 (by kernel_rfl) _ _ _ w
theorem impl_sorted.grown_cell (W : World) (b : Nat) (v : Value) : W.grownBy (W.setCell ⟨b, 0, none⟩ v) (some b) :=
 ⟨rfl, rfl, rfl, by simp, fun i _ hne => Below.heap_setCell W ⟨b, 0, none⟩ v i (fun e => hne (by rw [e]))⟩
theorem impl_sorted.sort_one : ∀ l : List S37, l.length ≤ 1 → sortE l = l
 | [], _ => rfl
 | [_], _ => rfl
 | _ :: _ :: _, h => by simp at h
theorem impl_sorted.grow_below (w : World) (os : Array Obj) : Below w.heap.size w (Sort.grow w os) := ⟨rfl, rfl, rfl, by simp [Sort.grow], fun k hk => Sort.heap_grow_old w os hk⟩
theorem impl_sorted.sorted_of {l : List S37} {d' : Array S37} (ha : Apart l) (hp : Sort.PermIn 0 l.toArray.size l.toArray d') (hs : Sort.SortedIn impl_sorted.lt 0 l.toArray.size d') : d' = (sortE l).toArray := by
 obtain ⟨h1, _, h2⟩ := hp
 rw [← h1, Array.extract_size, h1, Array.extract_size] at h2
 have hd : d'.toList = sortE l := by
  refine sortE_of ha (by simpa using h2) ?_
  rw [List.pairwise_iff_getElem]
  intro i j hi hj hij
  have hi' : i < d'.size := by simpa using hi
  have hj' : j < d'.size := by simpa using hj
  have := hs i j (Nat.zero_le _) hij (by rw [← h1]; exact hj')
  rw [getElem!_pos d' i hi', getElem!_pos d' j hj'] at this
  exact this
 rw [← hd]
/-- What the sort leaves of the row. -/
theorem impl_sorted.row_of {w w2 : World} {base g cap n : Nat} {os : Array Obj} {ok : Nat → Prop} {l d : List S37} (h : Kd.R k37 37 w2 base ok (.slice (some ⟨g, 0, none⟩) l.length cap) l) (hl : d.length = l.length) :
  Kd.R k37 37 (Sort.grow (Sort.putRowK impl_sorted.enc 3 (Sort.ahead w2 n) g 0 d.toArray) os) base ok (.slice (some ⟨g, 0, none⟩) l.length cap) d ∧ w2.grownBy (Sort.grow (Sort.putRowK impl_sorted.enc 3 (Sort.ahead w2 n) g 0 d.toArray) os) (some g) := by
 have ho := impl_sorted.opened h
 refine ⟨⟨h.1, (Sort.flatK impl_sorted.enc 3 d.toArray).toList, ?_, impl_sorted.reps_flat _ _ _ d⟩, impl_sorted.grown _⟩
 rcases ho.2 with ⟨h0, _⟩ | ⟨g', cap', cur, hv, hbase, hb, h1, h2, h3, h4⟩
 ·cases h0
 injection hv with hv _ hcap
 injection hv with hv
 injection hv with hv
 subst hv
 subst hcap
 refine ⟨by rw [show (k37).sz = 3 from rfl]; simp [hl], .inr ⟨g, cap, _, by rw [hl], hbase, impl_sorted.heap_put _ hb, by rw [hl]; exact h1, h2, by rw [show (k37).sz = 3 from rfl]; simp [Sort.putCells, h3], ?_⟩⟩
 have hlen : (Sort.flatK impl_sorted.enc 3 d.toArray).toList.length = d.length * 3 := by simp
 have := impl_sorted.take_put cur (Sort.flatK impl_sorted.enc 3 d.toArray).toList (by rw [hlen, hl, h3]; exact Nat.mul_le_mul_right 3 h1)
 rw [hlen] at this
 exact this
set_option maxHeartbeats 2000000 in
set_option maxRecDepth 100000 in
theorem impl_sorted.calls (P0_ : Nat → Prop) (u9000_ : Value) (l0 : List S37) (r : List S37) (w0 w : World) (hB : Below w0.heap.size w0 w) (ho0 : Kd.R k37 37 w w0.heap.size P0_ u9000_ l0) (h : impl_sorted.f l0 = some r) :
  Calls Tryd.prog 71 #[u9000_] w fun e w' => ∃ v0_ : Value, e = .returned (.agg #[v0_]) ∧ Kd.R k37 37 w' w0.heap.size (fun k_ => (P0_ k_ ∨ w.heap.size ≤ k_)) v0_ r ∧ Below w0.heap.size w0 w' ∧ Kept w w' (fun k_ => P0_ k_) := by
 have hu27 := Tryd.underlying26
 have hu29 := Tryd.underlying28
 unfold impl_sorted.f at h
 split at h
 ·rename_i hc
  obtain rfl := Option.some.inj h
  have HC := Aside0.mk hc
  clear h hc
  obtain ⟨A, c, rfl⟩ := Kd.R_slice ho0
  have HO := Aside0.mk ho0
  have HB := Aside0.mk (Below.refl w.heap.size w)
  have HB0 := Aside0.mk hB
  clear ho0 hB
  by_cases h2 : l0.length ≤ 1
  ·have ht := fun Bs W => impl_sorted.tiny_calls A l0.length c Bs h2 W
   have HT := Aside0.mk ht
   have hs1 := impl_sorted.sort_one l0 h2
   rw [hs1]
   clear h2 ht hs1
   go_enter Tryd.func71, Tryd.ntmps71
   go_wp2_with (first | ((with_reducible refine gd 1 rfl ?_); refine bx 1 26 (#[.slice A l0.length c]) ?_; intro b1 hg w1 hbox hb; refine Ya3 hbox (below_step (be HB.out) hb) (bs hg (be HB.out)) ?_; clear HB; intro B1 HB G1; clear hb hbox hg; have ⟨hcz1, hfz1⟩ := Yc1 B1.out) | ((with_reducible refine gd 2 rfl ?_); refine bx 2 28 (#[.slice none 0 0]) ?_; intro b2 hg w2 hbox hb; refine Ya4 hbox (below_step (be HB.out) hb) (bs hg (be HB.out)) (bb B1 hb) ?_; clear HB B1; intro B2 HB G2 B1; clear hb hbox hg hcz1 hfz1; have ⟨hcz1, hfz1⟩ := Yc1 B1.out; have ⟨hcz2, hfz2⟩ := Yc1 B2.out) | (go_at_call 142; (with_reducible refine (HT.out _ _).mono ?_); rintro e w' ⟨rfl, os, rfl⟩; have hb3 := impl_sorted.grow_below w2 os; refine Ya3 (bb B2 hb3) (below_step (be HB.out) hb3) (bb B1 hb3) ?_; clear HB B1 B2 hcz1 hfz1 hcz2 hfz2 hb3; intro B2 HB B1; generalize Sort.grow w2 os = w3 at B1 B2 HB ⊢; have ⟨hcz1, hfz1⟩ := Yc1 B1.out; have ⟨hcz2, hfz2⟩ := Yc1 B2.out))
   refine bodyPost_ret (results_cell_row rfl _ _ b2 28 #[.slice A l0.length c] (0, 0) _ rfl (by refine blk_put (cs := #[.slice none 0 0]) ?_ 0 _ rfl; exact B2.out) Tryd.underlying28 rfl (by kernel_rfl)) rfl ?_
   have hb : Below w.heap.size w (w3.setCell ⟨b2, 0, none⟩ (.slice A l0.length c)) := be1 HB.out G2.out
   exact ⟨_, rfl, Kd.R_mono (Kd.R_below HO.out hb) (fun k_ hk => .inl hk), below_then HB0.out HB0.out.size hb, hb.size, fun i hi _ => hb.block i hi⟩
  ·obtain ⟨g, cap, hv, hbase, hlt, cells, hcell⟩ := Kd.R_form HO.out (by omega)
   injection hv with hA _ hcap
   subst hA
   subst hcap
   have HG := Aside0.mk (show w0.heap.size ≤ g ∧ g < w.heap.size ∧ w.heap[g]? = some (.cells cells 37 (0, 0)) from ⟨hbase, hlt, hcell⟩)
   have H2 := Aside0.mk (show 2 ≤ l0.toArray.size from by simp; omega)
   clear h2 hbase hlt hcell
   go_enter Tryd.func71, Tryd.ntmps71
   go_wp2_with (first | ((with_reducible refine gd 1 rfl ?_); refine bx 1 26 (#[.slice (some ⟨g, 0, none⟩) l0.length c]) ?_; intro b1 hg w1 hbox hb; refine Ya3 hbox (below_step (be HB.out) hb) (bs hg (be HB.out)) ?_; clear HB; intro B1 HB G1; clear hb hbox hg; have ⟨hcz1, hfz1⟩ := Yc1 B1.out) | ((with_reducible refine gd 2 rfl ?_); refine bx 2 28 (#[.slice none 0 0]) ?_; intro b2 hg w2 hbox hb; refine Ya4 hbox (below_step (be HB.out) hb) (bs hg (be HB.out)) (bb B1 hb) ?_; clear HB B1; intro B2 HB G2 B1; clear hb hbox hg hcz1 hfz1; have ⟨hcz1, hfz1⟩ := Yc1 B1.out; have ⟨hcz2, hfz2⟩ := Yc1 B2.out) | (go_at_call 142; have HS := impl_sorted.sort_calls g c b1 l0.toArray H2.out (by simpa using HC.out.1) w2 (impl_sorted.holds (impl_sorted.opened (Kd.R_below HO.out HB.out))) (Nat.lt_of_lt_of_le HG.out.2.1 HB.out.size) (by simpa using hcz1) (blk_lt B1.out) (by have := HG.out.2.1; have := G1.out; omega); rw [List.size_toArray] at HS; (with_reducible refine HS.mono ?_); rintro e w' ⟨rfl, d', nd, os, hp, hs, rfl⟩; obtain rfl := impl_sorted.sorted_of HC.out.2 (by simpa using hp) (by simpa using hs); clear HS hp hs; have hl2 : (sortE l0).length = l0.length := (sortE_perm l0).length_eq; have ⟨hrow, hgrow⟩ := impl_sorted.row_of (w := w2) (Kd.R_below HO.out HB.out) (n := nd) (os := os) (d := sortE l0) hl2; generalize Sort.grow (Sort.putRowK impl_sorted.enc 3 (Sort.ahead w2 nd) g 0 (sortE l0).toArray) os = w3 at hrow hgrow ⊢; have hn1 : some b1 ≠ some g := (by have := HG.out.2.1; have := G1.out; intro e; injection e; omega); have hn2 : some b2 ≠ some g := (by have := HG.out.2.1; have := G2.out; intro e; injection e; omega); have hcz1' := Yc1 (blk_grown B1.out hgrow hn1); have B2' := Aside0.mk (blk_grown B2.out hgrow hn2); have HN2 := Aside0.mk hn2; have HR := Aside0.mk hrow; have HW := Aside0.mk hgrow; clear hcz1 hfz1 hcz2 hfz2 hrow hgrow hn1 hn2; have ⟨hcz1, hfz1⟩ := hcz1'; clear hcz1'; have ⟨hcz2, hfz2⟩ := Yc1 B2'.out))
   refine bodyPost_ret (results_cell_row rfl _ _ b2 28 #[.slice (some ⟨g, 0, none⟩) l0.length c] (0, 0) _ rfl (by refine blk_put (cs := #[.slice none 0 0]) ?_ 0 _ rfl; exact B2'.out) Tryd.underlying28 rfl (by kernel_rfl)) rfl ?_
   have hset := impl_sorted.grown_cell w3 b2 (.slice (some ⟨g, 0, none⟩) l0.length c)
   have h2w : w.heap.size ≤ b2 := G2.out
   have h3w : w2.heap.size ≤ w3.heap.size := HW.out.size
   have hbw := below_then HB0.out HB0.out.size HB.out
   have hszB : w0.heap.size ≤ w2.heap.size := hbw.size
   have hgB := HG.out.1
   have h0w := HB0.out.size
   refine ⟨_, rfl, Kd.R_mono (Kd.R_grown1 HR.out rfl hset (fun e => HN2.out e)) (fun k_ hk => .inl hk), pw_below_grown (pw_below_grown hbw (some g) hszB HW.out (fun k hk => ?_)) (some b2) (by omega) hset (fun k hk => ?_), ?_, fun i hi hP => ?_⟩
   ·injection hk with hk; omega
   ·injection hk with hk; omega
   ·have := HB.out.size; have := hset.size; omega
   ·have hig : i ≠ g := (by rintro rfl; exact hP (HO.out.1 _ rfl))
    have hw := HB.out.size
    rw [hset.block i (by omega) (by intro e; injection e; omega), HW.out.block i (by omega) (by intro e; injection e; omega), HB.out.block i hi]
 ·cases h


end Go.Proofs.YtgnmledjkamojaaDoor.P


namespace Go.Proofs.YtgnmledjkamojaaDoor.P
open Go.RowKit Go.Proofs.YtgnmledjkamojaaDoorW.PrintWords Go.Proofs.YtgnmledjkamojaaDoorW.PrintLast Go.Proofs.YtgnmledjkamojaaDoorW.PrintMore
attribute [local go_sem] max2_int min2_int max_two min_two max_three min_three max_four min_four
set_option linter.unusedVariables false
set_option linter.unusedSimpArgs false

/-! ### impl_Entry_67: function 67 -/
/- Walked by hand. -/
def impl_Entry_67.f (l0 : List S37) : Option (List S37) := if l0.length * 40 ≤ 140737488355328 then some l0 else none
/-- The cells of a row that is read. -/
theorem impl_Entry_67.cells {w : World} {A0 : Option Addr} {l0 : List S37} (hr0 : Kd.C k37 w A0 l0.length l0) (hn : 0 < l0.length) : ∃ ad, A0 = some ad ∧ ∀ t u, (Sort.flatK impl_sorted.enc 3 l0.toArray).toList[t]? = some u → w.cell? (ad.add t) = some u := by
 obtain ⟨ad, e, hc⟩ := hr0.2.2 hn
 refine ⟨ad, e, fun t u hu => ?_⟩
 have ht : t < l0.length * 3 := by
  have := (List.getElem?_eq_some_iff.1 hu).1
  simpa using this
 have hj : t / 3 < l0.length := by omega
 obtain ⟨c, hcl, hR, hcell⟩ := hc (t / 3) l0[t / 3] (List.getElem?_eq_getElem hj)
 obtain rfl := k37_open hR
 have h1 := impl_sorted.flat_get l0 (t / 3) l0[t / 3] (List.getElem?_eq_getElem hj)
 have h2 := hcell (t % 3) u (by
  show (impl_sorted.enc l0[t / 3])[t % 3]? = some u
  rw [← h1, List.getElem?_take_of_lt (by omega), List.getElem?_drop, show t / 3 * 3 + t % 3 = t from by omega]
  exact hu)
 rw [show (k37).sz = 3 from rfl, show t / 3 * 3 + t % 3 = t from by omega] at h2
 exact h2
set_option maxHeartbeats 2000000 in
set_option maxRecDepth 100000 in
theorem impl_Entry_67.calls (A0 : Option Addr) (c0 : Nat) (l0 : List S37) (r : List S37) (w : World) (hr0 : Kd.C k37 w A0 l0.length l0) (hc0 : l0.length ≤ c0) (h : impl_Entry_67.f l0 = some r) :
  Calls Tryd.prog 67 #[.slice A0 l0.length c0] w fun e w' => ∃ v0_ : Value, e = .returned (v0_) ∧ Kd.R k37 37 w' w.heap.size (fun _ => True) v0_ r ∧ Below w.heap.size w w' := by
 have hu27 := Tryd.underlying26
 have q27 : ∀ (w : World) (a : Option Addr) (n c n' c' : Nat), (binOp .eql 26 (.slice a n c) (.slice none n' c')).run Tryd.prog w = .ok (.bool a.isNone) w := fun w a n c n' c' => Lib.run_eql_slice_nil w _ _ a n c n' c' hu27
 unfold impl_Entry_67.f at h
 split at h
 ·rename_i hsz
  obtain rfl := Option.some.inj h
  clear h
  cases A0 with
  | none =>
   have hl : l0.length = 0 := by
    by_cases hn : 0 < l0.length
    ·obtain ⟨ad, e, _⟩ := impl_Entry_67.cells hr0 hn
     cases e
    ·omega
   have hnil : l0 = [] := List.length_eq_zero_iff.1 hl
   subst hnil
   clear hr0
   go_enter Tryd.func67, Tryd.ntmps67
   go_wp2
   go_ret
   exact ⟨_, rfl, Kd.R_nil _ _ _ _ _, Below.refl _ _⟩
  | some ad =>
   have HN : Aside0 (∀ t u, (Sort.flatK impl_sorted.enc 3 l0.toArray).toList[t]? = some u → w.cell? (ad.add t) = some u) := Aside0.mk (by
    intro t u hu
    by_cases hn : 0 < l0.length
    ·obtain ⟨ad', e, hh⟩ := impl_Entry_67.cells hr0 hn
     cases e
     exact hh t u hu
    ·have := (List.getElem?_eq_some_iff.1 hu).1
     simp at this
     omega)
   clear hr0
   have HS := Aside0.mk hsz
   clear hsz
   go_enter Tryd.func67, Tryd.ntmps67
   go_wp2_with (at_builtin; go_loud (refine wpList_append_own _ rfl _ _ 26 rfl w.heap.size 37 impl_sorted.svE (.agg #[.string ByteArray.empty, .string ByteArray.empty, .bool false]) 3 40 hu27 (by kernel_rfl) (by kernel_rfl) (by kernel_rfl) (by kernel_rfl) rfl (by decide) _ _ _ rfl (World.ownsRow_made w #[] 0 (Nat.le_refl _) (Nat.zero_le _) rfl) ad l0.length c0 (Sort.flatK impl_sorted.enc 3 l0.toArray).toList rfl ?qc1 ?qc2 ?qc3 ?qc4 ?qc5 ?qc6 ?_))
   case qc1 => simp
   case qc2 => exact fun j u hj => Lib.cell?_alloc_some _ (HN.out j u hj)
   case qc3 =>
    intro u hu
    obtain ⟨t, ht⟩ := List.mem_iff_getElem?.1 hu
    have h3 : t < l0.length * 3 := by
     have := (List.getElem?_eq_some_iff.1 ht).1
     simpa using this
    have hj : t / 3 < l0.length := by omega
    have h1 := impl_sorted.flat_get l0 (t / 3) l0[t / 3] (List.getElem?_eq_getElem hj)
    have h2 : (impl_sorted.enc l0[t / 3])[t % 3]? = some u := by
     rw [← h1, List.getElem?_take_of_lt (by omega), List.getElem?_drop, show t / 3 * 3 + t % 3 = t from by omega]
     exact ht
    have h4 := List.mem_of_getElem? h2
    simp [impl_sorted.enc] at h4
    rcases h4 with rfl | rfl | rfl <;> rfl
   case qc4 => have := HS.out; unfold maxLen; omega
   case qc5 => have := HS.out; omega
   case qc6 => simp
   intro v' w1 hown hgrow hnil
   go_wp2
   go_ret
   refine ⟨v', rfl, ⟨fun _ _ => trivial, (Sort.flatK impl_sorted.enc 3 l0.toArray).toList, ?_, impl_sorted.reps_flat w1 w.heap.size _ l0⟩, ?_⟩
   ·have h3 : w1.ownsRow w.heap.size 37 3 v' l0.length (Sort.flatK impl_sorted.enc 3 l0.toArray).toList := by simpa using hown
    exact h3
   ·exact ((Below.refl _ w).alloc (Nat.le_refl _) _).grown hgrow (by simp) (by intro k hk; simp [Value.ownBlock] at hk; omega)
 ·cases h


end Go.Proofs.YtgnmledjkamojaaDoor.P


namespace Go.Proofs.YtgnmledjkamojaaDoor.P
open Go.RowKit Go.Proofs.YtgnmledjkamojaaDoorW.PrintWords Go.Proofs.YtgnmledjkamojaaDoorW.PrintLast Go.Proofs.YtgnmledjkamojaaDoorW.PrintMore
attribute [local go_sem] max2_int min2_int max_two min_two max_three min_three max_four min_four
set_option linter.unusedVariables false
set_option linter.unusedSimpArgs false

/-! ### impl_Overlay: function 16 -/
mutual
def impl_Overlay.j0 : Nat → Bool → List (S37) → List (S37) → Option ((List (S37)) × Int)
 | 0, _, _, _ => none
 | k + 1, x16, x215000, x216000 => if x16 = true then (some (([] : List (S37)), 1)) else ((impl_Entry_67.f x216000).bind fun t219 => (impl_Overlay.l0 k t219 x215000 (x215000.length : Int) 0 x216000))
def impl_Overlay.l0 : Nat → List (S37) → List (S37) → Int → Int → List (S37) → Option ((List (S37)) × Int)
 | 0, _, _, _, _, _ => none
 | k + 1, x6, x22, x23, x24, x216000 => if x24 < x23 then (if 0 ≤ x24 then (if x24 < (x22.length : Int) then ((impl_Entry_68.f x216000 ((rd_T37 x22 x24).f0) ((rd_T37 x22 x24).f1) ((rd_T37 x22 x24).f2)).bind fun t224 => (if t224 = true then (impl_Overlay.l0 k x6 x22 x23 (wrap64 (x24 + 1)) x216000) else (if x6.length < 3518437208883 then (impl_Overlay.l0 k (x6 ++ [(⟨(rd_T37 x22 x24).f0, (rd_T37 x22 x24).f1, (rd_T37 x22 x24).f2⟩ : S37)]) x22 x23 (wrap64 (x24 + 1)) x216000) else (none)))) else (none)) else (none)) else (if (x6.length : Int) > 100 then (some (([] : List (S37)), 4)) else ((impl_sorted.f x6).bind fun t228 => (some (t228, 0))))
end
def impl_Overlay.f (k : Nat) (qa : List (S37)) (qf : List (S37)) : Option ((List (S37)) × Int) := (impl_ValidTree.f k qa).bind fun t217 => (if t217 = true then ((impl_ValidTree.f k qf).bind fun t218 => (impl_Overlay.j0 k (!t218) qa qf)) else (impl_Overlay.j0 k true qa qf))
theorem impl_Overlay.mono_l : ∀ k, (∀ y0 y1 y2, LeO (impl_Overlay.j0 k y0 y1 y2) (impl_Overlay.j0 (k + 1) y0 y1 y2)) ∧ (∀ y0 y1 y2 y3 y4, LeO (impl_Overlay.l0 k y0 y1 y2 y3 y4) (impl_Overlay.l0 (k + 1) y0 y1 y2 y3 y4))
 | 0 => ⟨fun _ _ _ r h => by simp [impl_Overlay.j0] at h, fun _ _ _ _ _ r h => by simp [impl_Overlay.l0] at h⟩
 | k + 1 => by
  obtain ⟨ih0, ih1⟩ := impl_Overlay.mono_l k; refine ⟨?_, ?_⟩
  ·intro y0 y1 y2
   unfold impl_Overlay.j0
   repeat' first
   | (with_reducible exact ih0 _ _ _)
   | (with_reducible exact ih1 _ _ _ _ _)
   | (with_reducible exact impl_ValidTree.mono _ _)
   | (with_reducible exact LeO.refl _)
   | (with_reducible exact LeO.none _)
   | (with_reducible refine LeO.ite ?_ ?_)
   | (with_reducible refine LeO.bind ?_ (fun _ => ?_))
   | exact ih0 _ _ _
   | exact ih1 _ _ _ _ _
   | exact impl_ValidTree.mono _ _
   | exact LeO.none _
   | refine LeO.ite ?_ ?_
   | refine LeO.bind ?_ (fun _ => ?_)
  ·intro y0 y1 y2 y3 y4
   unfold impl_Overlay.l0
   repeat' first
   | (with_reducible exact ih0 _ _ _)
   | (with_reducible exact ih1 _ _ _ _ _)
   | (with_reducible exact impl_ValidTree.mono _ _)
   | (with_reducible exact LeO.refl _)
   | (with_reducible exact LeO.none _)
   | (with_reducible refine LeO.ite ?_ ?_)
   | (with_reducible refine LeO.bind ?_ (fun _ => ?_))
   | exact ih0 _ _ _
   | exact ih1 _ _ _ _ _
   | exact impl_ValidTree.mono _ _
   | exact LeO.none _
   | refine LeO.ite ?_ ?_
   | refine LeO.bind ?_ (fun _ => ?_)
theorem impl_Overlay.mono : ∀ a0 a1 k, LeO (impl_Overlay.f k a0 a1) (impl_Overlay.f (k + 1) a0 a1) := by
 intro a0 a1 k; obtain ⟨ih0, ih1⟩ := impl_Overlay.mono_l k
 unfold impl_Overlay.f
 repeat' first
   | (with_reducible exact ih0 _ _ _)
   | (with_reducible exact ih1 _ _ _ _ _)
   | (with_reducible exact impl_ValidTree.mono _ _)
   | (with_reducible exact LeO.refl _)
   | (with_reducible exact LeO.none _)
   | (with_reducible refine LeO.ite ?_ ?_)
   | (with_reducible refine LeO.bind ?_ (fun _ => ?_))
   | exact ih0 _ _ _
   | exact ih1 _ _ _ _ _
   | exact impl_ValidTree.mono _ _
   | exact LeO.none _
   | refine LeO.ite ?_ ?_
   | refine LeO.bind ?_ (fun _ => ?_)
set_option maxHeartbeats 8000000 in
set_option maxRecDepth 100000 in
theorem impl_Overlay.calls (k : Nat) (A0_0 : Option Addr) (c0_0 : Nat) (qa : List (S37)) (A1_0 : Option Addr) (c1_0 : Nat) (qf : List (S37)) (r1 : List (S37)) (r2 : Int) (w : World) (hg : GOK w) (hr0_0 : Kd.C k37 w A0_0 qa.length qa) (hc0_0 : qa.length ≤ c0_0) (hr1_0 : Kd.C k37 w A1_0 qf.length qf) (hc1_0 : qf.length ≤ c1_0) (h : impl_Overlay.f k qa qf = some (r1, r2)) :
  Calls Tryd.prog 16 #[.agg #[.slice A0_0 qa.length c0_0], .agg #[.slice A1_0 qf.length c1_0]] w fun e w' => ∃ v0_ : Value, e = .returned (.tuple #[.agg #[v0_], .int .i64 r2]) ∧ Kd.R k37 37 w' w.heap.size (fun _ => True) v0_ r1 ∧ Below w.heap.size w w' := by
 have HG := Aside0.mk hg; clear hg; have hu28 := Tryd.underlying28; have hu37 := Tryd.underlying37; have HR0_0 := Aside0.mk hr0_0; have HC0_0 := Aside0.mk hc0_0; clear hr0_0 hc0_0; have HR1_0 := Aside0.mk hr1_0; have HC1_0 := Aside0.mk hc1_0; clear hr1_0 hc1_0; have HB := Aside0.mk (Below.refl w.heap.size w); have H : ((impl_ValidTree.f k qa).bind fun t217 => (if t217 = true then ((impl_ValidTree.f k qf).bind fun t218 => (impl_Overlay.j0 k (!t218) qa qf)) else (impl_Overlay.j0 k true qa qf))) = some (r1, r2) := h; clear h; have HC3 := Aside0.mk H; clear H
 go_enter Tryd.func16, Tryd.ntmps16
 go_upto_region 1 with (first | ((with_reducible refine gd 2 rfl ?_); refine bx 2 28 (#[.slice A0_0 qa.length c0_0]) ?_; intro gb214 hg w4 hbox hb; refine Ya4 (below_step (be HB.out) hb) (hbox) (bs hg (be HB.out)) (bs hg (be HB.out)) ?_; clear HB; intro HB qc GW214 qg; clear hb hbox hg) | ((with_reducible refine gd 3 rfl ?_); refine bx 3 28 (#[.slice A1_0 qf.length c1_0]) ?_; intro gb215 hg w5 hbox hb; refine Ya7 (bb qc hb) (below_step (be1 HB.out qg.out) hb) (hbox) (bs hg (be1 HB.out qg.out)) (bs hg (be1 HB.out qg.out)) (bl hg qc) (br hg qc) ?_; clear qc HB; intro qc HB qd GW215 qh qt qu; clear hb hbox hg) | ((with_reducible refine gd 4 rfl ?_); refine bx 4 28 (#[.slice none 0 0]) ?_; intro gb216 hg w6 hbox hb; have n0_ := Aside0.mk (bb qc hb); have n1_ := Aside0.mk (bb qd hb); have n2_ := Aside0.mk (below_step (be2 HB.out qg.out qh.out) hb); have n3_ := Aside0.mk (hbox); have n4_ := Aside0.mk (bs hg (be2 HB.out qg.out qh.out)); have n5_ := Aside0.mk (bs hg (be2 HB.out qg.out qh.out)); have n6_ := Aside0.mk (bl hg qc); have n7_ := Aside0.mk (br hg qc); have n8_ := Aside0.mk (bl hg qd); have n9_ := Aside0.mk (br hg qd); clear qc; clear qd; clear HB; have qc := n0_; have qd := n1_; have HB := n2_; have qe := n3_; have GW216 := n4_; have qi := n5_; have qp := n6_; have qr := n7_; have qn := n8_; have qo := n9_; clear n0_ n1_ n2_ n3_ n4_ n5_ n6_ n7_ n8_ n9_; clear hb hbox hg))
 (try simp only [Act.put, List.setIfInBounds_toArray, List.set_cons_zero, List.set_cons_succ])
 go_cut [16] (fun v16 wc => ∃ (kq : Nat) (x16_2 : Bool), v16 = .bool x16_2 ∧ Aside0 (impl_Overlay.j0 kq x16_2 qa qf = some (r1, r2)) ∧ Aside0 (kq ≤ k) ∧ Aside0 (wc.heap[gb214]? = some (.cells #[(.slice A0_0 qa.length c0_0)] 28 (0, 0))) ∧ Aside0 (wc.heap[gb215]? = some (.cells #[(.slice A1_0 qf.length c1_0)] 28 (0, 0))) ∧ Aside0 (wc.heap[gb216]? = some (.cells #[(.slice none 0 0)] 28 (0, 0))) ∧ Aside0 (Below w.heap.size w wc))
 case first =>
  have H := HC3.out; clear HC3; replace H := Option.bind_eq_some_iff.mp H; obtain ⟨t217, A70, H⟩ := H; replace H : (if t217 = true then ((impl_ValidTree.f k qf).bind fun t218 => (impl_Overlay.j0 k (!t218) qa qf)) else (impl_Overlay.j0 k true qa qf)) = some (r1, r2) := H; have A7 := Aside0.mk A70; clear A70
  by_cases c8 : t217 = true
  ·subst c8
   have H1 : ((impl_ValidTree.f k qf).bind fun t218 => (impl_Overlay.j0 k (!t218) qa qf)) = some (r1, r2) := by rw [if_pos rfl] at H; exact H
   clear H; have H := H1; clear H1; replace H := Option.bind_eq_some_iff.mp H; obtain ⟨t218, A90, H⟩ := H; replace H : (impl_Overlay.j0 k (!t218) qa qf) = some (r1, r2) := H; have A9 := Aside0.mk A90; clear A90; have H' := Aside0.mk H; clear H; have hnb10 := qt.out; have hnc10 := qu.out; have hnb11 := qp.out; have hnc11 := qr.out; have ⟨hcz12_0, hfz12_0⟩ := Yc1 qc.out
   go_wp2_with (first | ((with_reducible refine gc 25 rfl ?_); refine gl (some 10) _ (#[.agg #[.slice A0_0 qa.length c0_0]]) Tryd.func25 ?_; (with_reducible refine (impl_ValidTree.calls k _ _ qa true _ ?sideG ?side1 ?side2 A7.out).mono ?_); (case sideG => exact gk3 HG.out HB.out qg.out qh.out qi.out); (case side1 => exact cb (Kd.C_below HR0_0.out HB.out)); (case side2 => exact HC0_0.out); rintro e w13 ⟨rfl, hb⟩; refine ⟨_, rfl, ?_⟩; refine Ya4 (bb qc hb) (bb qd hb) (bb qe hb) (below_step (be3 HB.out qg.out qh.out qi.out) hb) ?_; clear qc qd qe HB; intro qc qd qe HB; (try clear hb); (try clear hb2); (try clear hk); (try clear hi); have hnb14 := qn.out; have hnc14 := qo.out; have ⟨hcz15_0, hfz15_0⟩ := Yc1 qd.out) | (go_at_call 25; (with_reducible refine (impl_ValidTree.calls k _ _ qf t218 _ ?sideG ?side1 ?side2 A9.out).mono ?_); (case sideG => exact gk3 HG.out HB.out qg.out qh.out qi.out); (case side1 => exact cb (Kd.C_below HR1_0.out HB.out)); (case side2 => exact HC1_0.out); rintro e w16 ⟨rfl, hb⟩; refine Ya4 (bb qc hb) (bb qd hb) (bb qe hb) (below_step (be3 HB.out qg.out qh.out qi.out) hb) ?_; clear qc qd qe HB; intro qc qd qe HB; (try clear hb); (try clear hb2); (try clear hk); (try clear hi)))
   go_meet
   case rel => exact ⟨_, (!t218), Ye1, H', ⟨by first | omega | exact Nat.le_refl _⟩, ⟨bk qc.out⟩, ⟨bk qd.out⟩, ⟨bk qe.out⟩, ⟨be3 HB.out qg.out qh.out qi.out⟩⟩
  ·replace c8 := Bool.eq_false_iff.mpr c8; subst c8
   have H1 : (impl_Overlay.j0 k true qa qf) = some (r1, r2) := by rw [if_neg (show ¬ (false = true) by decide)] at H; exact H
   clear H; have H := H1; clear H1; have H' := Aside0.mk H; clear H; have hnb17 := qt.out; have hnc17 := qu.out; have hnb18 := qp.out; have hnc18 := qr.out; have ⟨hcz19_0, hfz19_0⟩ := Yc1 qc.out
   go_wp2_with (first | ((with_reducible refine gc 25 rfl ?_); refine gl (some 10) _ (#[.agg #[.slice A0_0 qa.length c0_0]]) Tryd.func25 ?_; (with_reducible refine (impl_ValidTree.calls k _ _ qa false _ ?sideG ?side1 ?side2 A7.out).mono ?_); (case sideG => exact gk3 HG.out HB.out qg.out qh.out qi.out); (case side1 => exact cb (Kd.C_below HR0_0.out HB.out)); (case side2 => exact HC0_0.out); rintro e w20 ⟨rfl, hb⟩; refine ⟨_, rfl, ?_⟩; refine Ya4 (bb qc hb) (bb qd hb) (bb qe hb) (below_step (be3 HB.out qg.out qh.out qi.out) hb) ?_; clear qc qd qe HB; intro qc qd qe HB; (try clear hb); (try clear hb2); (try clear hk); (try clear hi)))
   go_meet
   case rel => exact ⟨_, (true), Ye1, H', ⟨by first | omega | exact Nat.le_refl _⟩, ⟨bk qc.out⟩, ⟨bk qd.out⟩, ⟨bk qe.out⟩, ⟨be3 HB.out qg.out qh.out qi.out⟩⟩
 case rest =>
  clear HC3; (try clear c1); (try clear c2); (try clear p2); (try clear c8); (try clear c10); (try clear c11); (try clear c14); (try clear c16); (try clear c17); (try clear c18); (try clear hcz12_0); (try clear hcz15_0); (try clear hcz19_0); (try clear hfz12_0); (try clear hfz15_0); (try clear hfz19_0); obtain ⟨kq, x16_2, rfl, HA, HJ2, qc, qd, qe, HB⟩ := hcut
  cases kq with
  | zero => exact absurd HA.out (by simp [impl_Overlay.j0])
  | succ kj2 =>
   have H := HA.out; clear HA; simp only [impl_Overlay.j0] at H
   by_cases c21 : x16_2 = true
   ·subst c21
    have H1 : (some (([] : List (S37)), 1)) = some (r1, r2) := by rw [if_pos rfl] at H; exact H
    clear H; have H := H1; clear H1; simp only [Option.some.injEq, Prod.mk.injEq] at H; obtain ⟨rfl, rfl⟩ := H; have hnb22 := qr.out; have hnc22 := qp.out; have hnb23 := qo.out; have hnc23 := qn.out; have ⟨hcz24_0, hfz24_0⟩ := Yc1 qe.out
    go_wp2
    refine bodyPost_ret (results_ct rfl _ _ gb216 28 #[.slice none 0 0] (0, 0) _ rfl (by (with_reducible repeat (first | apply blk_drewN | apply blk_drew | apply blk_alloc)); refine blk_put (cs := #[.slice none 0 0]) ?_ 0 _ rfl; (with_reducible repeat (first | apply blk_drewN | apply blk_drew | apply blk_alloc)); exact qe.out) Tryd.underlying28 rfl (by kernel_rfl)) rfl ?_; exact ⟨_, Ye2, nl, (by first | exact be3 HB.out qg.out qh.out qi.out | exact be2 HB.out qg.out qh.out | exact be1 HB.out qg.out)⟩
   ·replace c21 := Bool.eq_false_iff.mpr c21; subst c21
    have H1 : ((impl_Entry_67.f qf).bind fun t219 => (impl_Overlay.l0 kj2 t219 qa (qa.length : Int) 0 qf)) = some (r1, r2) := by rw [if_neg (show ¬ (false = true) by decide)] at H; exact H
    clear H; have H := H1; clear H1; replace H := Option.bind_eq_some_iff.mp H; obtain ⟨t219, A250, H⟩ := H; replace H : (impl_Overlay.l0 kj2 t219 qa (qa.length : Int) 0 qf) = some (r1, r2) := H; have A25 := Aside0.mk A250; clear A250; have H' := Aside0.mk H; clear H; have hnb26 := qu.out; have hnc26 := qt.out; have hnb27 := qn.out; have hnc27 := qo.out; have ⟨hcz28_0, hfz28_0⟩ := Yc1 qd.out
    go_wp2_with (first | ((with_reducible refine gc 67 rfl ?_); refine gl (some 20) _ (#[.slice A1_0 qf.length c1_0]) Tryd.func67 ?_; (with_reducible refine (impl_Entry_67.calls _ _ qf t219 _ ?side1 ?side2 A25.out).mono ?_); (case side1 => exact cb (Kd.C_below HR1_0.out HB.out)); (case side2 => exact HC1_0.out); rintro e w29 ⟨v220, rfl, ho0, hb⟩; refine ⟨_, rfl, ?_⟩; refine Ya5 (Kd.R_lower ho0 (below_size (be3 HB.out qg.out qh.out qi.out))) (bb qc hb) (bb qd hb) (bb qe hb) (below_step (be3 HB.out qg.out qh.out qi.out) hb) ?_; clear qc qd qe HB; intro HO221 qc qd qe HB; (try clear hb); (try clear hb2); (try clear hk); (try clear hi); (try clear ho0); have hnb30 := qp.out; have hnc30 := qr.out; have ⟨hcz31_0, hfz31_0⟩ := Yc1 qc.out))
    go_loopg [6, 24] kj2 (fun kq v6 v24 w' => ∃ (qk : List (S37)) (qb : Int), v24 = .int .i64 qb ∧ Aside0 (impl_Overlay.l0 kq qk qa (qa.length : Int) qb qf = some (r1, r2)) ∧ Aside0 (kq ≤ kj2) ∧ Aside0 (Kd.R k37 37 w' w.heap.size (fun _ => True) v6 qk) ∧ Aside0 (w'.heap[gb214]? = some (.cells #[(.slice A0_0 qa.length c0_0)] 28 (0, 0))) ∧ Aside0 (w'.heap[gb215]? = some (.cells #[(.slice A1_0 qf.length c1_0)] 28 (0, 0))) ∧ Aside0 (w'.heap[gb216]? = some (.cells #[(.slice none 0 0)] 28 (0, 0))) ∧ Aside0 (Below w.heap.size w w'))
    case atStart => exact ⟨(t219), (0), Ye1, H', ⟨Nat.le_refl _⟩, ⟨kr HO221.out⟩, ⟨bk qc.out⟩, ⟨bk qd.out⟩, ⟨bk qe.out⟩, ⟨be3 HB.out qg.out qh.out qi.out⟩⟩
    case round =>
     clear H'; (try clear c1); (try clear c2); (try clear p2); (try clear c3); (try clear c6); (try clear c8); (try clear c10); (try clear c11); (try clear c14); (try clear c16); (try clear c17); (try clear c18); (try clear c21); (try clear c22); (try clear c23); (try clear c25); (try clear c26); (try clear c27); (try clear c30); (try clear hcz12_0); (try clear hcz15_0); (try clear hcz19_0); (try clear hcz24_0); (try clear hcz28_0); (try clear hcz31_0); (try clear hfz12_0); (try clear hfz15_0); (try clear hfz19_0); (try clear hfz24_0); (try clear hfz28_0); (try clear hfz31_0); (try clear p2); obtain ⟨qk, qb, rfl, HA, HK2, qj, qc, qd, qe, HB⟩ := hrel
     cases gk with
     | zero => exact absurd HA.out (by simp [impl_Overlay.l0])
     | succ k2 =>
      have H := HA.out; clear HA; simp only [impl_Overlay.l0] at H
      by_cases c32 : qb < (qa.length : Int)
      ·rw [if_pos c32] at H
       have c32b0 : decide (qb < (qa.length : Int)) = true := decide_eq_true c32; clear c32
       by_cases c33 : 0 ≤ qb
       ·rw [if_pos c33] at H
        have c33b0 : decide (0 ≤ qb) = true := decide_eq_true c33; clear c33
        by_cases c34 : qb < (qa.length : Int)
        ·rw [if_pos c34] at H
         have c34b0 : decide (qb < (qa.length : Int)) = true := decide_eq_true c34; clear c34; replace H := Option.bind_eq_some_iff.mp H; obtain ⟨t224, A350, H⟩ := H; replace H : (if t224 = true then (impl_Overlay.l0 k2 qk qa (qa.length : Int) (wrap64 (qb + 1)) qf) else (if qk.length < 3518437208883 then (impl_Overlay.l0 k2 (qk ++ [(⟨(rd_T37 qa qb).f0, (rd_T37 qa qb).f1, (rd_T37 qa qb).f2⟩ : S37)]) qa (qa.length : Int) (wrap64 (qb + 1)) qf) else (none))) = some (r1, r2) := H; have A35 := Aside0.mk A350; clear A350
         by_cases c36 : t224 = true
         ·subst c36
          have H1 : (impl_Overlay.l0 k2 qk qa (qa.length : Int) (wrap64 (qb + 1)) qf) = some (r1, r2) := by rw [if_pos rfl] at H; exact H
          clear H; have H := H1; clear H1; have H' := Aside0.mk H; clear H; have p222 : 0 ≤ (qb : Int) := oda; have q222 : qb < (qa.length : Int) := oda; obtain ⟨ad222, e222, hx222_0, hx222_1, hx222_2⟩ := at_T37 (Kd.C_below HR0_0.out HB.out) qb p222 q222
          cases e222
          replace p222 := eq_true p222; replace q222 := eq_true q222
          go_wp2_with (first | ((with_reducible refine gd 8 rfl ?_); refine bx 8 37 (#[.string (⟨#[]⟩ : ByteArray), .string (⟨#[]⟩ : ByteArray), .bool false]) ?_; intro ql hg w37 hbox hb; have n0_ := Aside0.mk (Kd.R_below (Kd.R_elderB (kr qj.out) ql (Nat.le_of_eq hg.symm)) hb); have n1_ := Aside0.mk (bb qc hb); have n2_ := Aside0.mk (bb qd hb); have n3_ := Aside0.mk (bb qe hb); have n4_ := Aside0.mk (below_step (be3 HB.out qg.out qh.out qi.out) hb); have n5_ := Aside0.mk (hbox); have n6_ := Aside0.mk (bs hg (be3 HB.out qg.out qh.out qi.out)); have n7_ := Aside0.mk (bs hg (be3 HB.out qg.out qh.out qi.out)); have n8_ := Aside0.mk (bl hg qc); have n9_ := Aside0.mk (br hg qc); have n10_ := Aside0.mk (bl hg qd); have n11_ := Aside0.mk (br hg qd); have n12_ := Aside0.mk (bl hg qe); have n13_ := Aside0.mk (br hg qe); clear qj; clear qc; clear qd; clear qe; clear HB; have qj := n0_; have qc := n1_; have qd := n2_; have qe := n3_; have HB := n4_; have qm := n5_; have GW223 := n6_; have GE223 := n7_; have qv := n8_; have NB223_214 := n9_; have qw := n10_; have NB223_215 := n11_; have qx := n12_; have NB223_216 := n13_; clear n0_ n1_ n2_ n3_ n4_ n5_ n6_ n7_ n8_ n9_ n10_ n11_ n12_ n13_; clear hb hbox hg; have hnb38 := NB223_214.out; have hnc38 := qv.out; have hnb39 := NB223_215.out; have hnc39 := qw.out; have hnb40 := NB223_216.out; have hnc40 := qx.out; have ⟨hcz41_0, hcz41_1, hcz41_2, hfz41_0, hfz41_1, hfz41_2⟩ := Yc3 qm.out; have hnb42 := qu.out; have hnc42 := qt.out; have hnb43 := qn.out; have hnc43 := qo.out; have ⟨hcz44_0, hfz44_0⟩ := Yc1 qd.out) | ((with_reducible refine gc 68 rfl ?_); refine gl (some 31) _ (#[.slice A1_0 qf.length c1_0, .func (.func 69) #[] #[.pointer (some ⟨ql, 0, none⟩)]]) Tryd.func68 ?_; (with_reducible refine (impl_Entry_68.calls _ _ qf ((rd_T37 qa qb).f0) ((rd_T37 qa qb).f1) ((rd_T37 qa qb).f2) true ql _ ?side1 ?side2 ?sideB A35.out).mono ?_); (case sideB => exact (by (with_reducible repeat (first | apply blk_drewN | apply blk_drew | apply blk_alloc)); refine blk_put (cs := #[.string ((rd_T37 qa qb).f0), .string ((rd_T37 qa qb).f1), .bool false]) ?_ 2 _ rfl; (with_reducible repeat (first | apply blk_drewN | apply blk_drew | apply blk_alloc)); refine blk_put (cs := #[.string ((rd_T37 qa qb).f0), .string (⟨#[]⟩ : ByteArray), .bool false]) ?_ 1 _ rfl; (with_reducible repeat (first | apply blk_drewN | apply blk_drew | apply blk_alloc)); refine blk_put (cs := #[.string (⟨#[]⟩ : ByteArray), .string (⟨#[]⟩ : ByteArray), .bool false]) ?_ 0 _ rfl; (with_reducible repeat (first | apply blk_drewN | apply blk_drew | apply blk_alloc)); exact qm.out)); (case side1 => exact Kd.C_below HR1_0.out (be4 HB.out qg.out qh.out qi.out GE223.out)); (case side2 => exact HC1_0.out); rintro e w45 ⟨rfl, hb⟩; refine ⟨_, rfl, ?_⟩; refine Ya6 (Kd.R_below (by (with_reducible repeat (first | apply Kd.R_alloc | apply Kd.R_drewN | apply Kd.R_drew)); exact (Kd.R_mono (Kd.R_far (p := ⟨ql, 2, none⟩) (Kd.R_far (p := ⟨ql, 1, none⟩) (Kd.R_far (p := ⟨ql, 0, none⟩) (Kd.R_mono qj.out (fun k_ hk => (⟨hk, hk.2⟩ : _ ∧ k_ ≠ ql))) (fun _ hk => hk.2) (.string ((rd_T37 qa qb).f0))) (fun _ hk => hk.2) (.string ((rd_T37 qa qb).f1))) (fun _ hk => hk.2) (.bool ((rd_T37 qa qb).f2))) (fun _ h_ => h_.1))) hb) (blk_below (g := gb214) (o := .cells #[.slice (some ad222) qa.length c0_0] 28 (0, 0)) (bkf qc.out qv.out) hb) (blk_below (g := gb215) (o := .cells #[.slice A1_0 qf.length c1_0] 28 (0, 0)) (bkf qd.out qw.out) hb) (blk_below (g := gb216) (o := .cells #[.slice none 0 0] 28 (0, 0)) (bkf qe.out qx.out) hb) (blk_below (g := ql) (o := .cells #[.string ((rd_T37 qa qb).f0), .string ((rd_T37 qa qb).f1), .bool ((rd_T37 qa qb).f2)] 37 (0, 0)) (by (with_reducible repeat (first | apply blk_drewN | apply blk_drew | apply blk_alloc)); refine blk_put (cs := #[.string ((rd_T37 qa qb).f0), .string ((rd_T37 qa qb).f1), .bool false]) ?_ 2 _ rfl; (with_reducible repeat (first | apply blk_drewN | apply blk_drew | apply blk_alloc)); refine blk_put (cs := #[.string ((rd_T37 qa qb).f0), .string (⟨#[]⟩ : ByteArray), .bool false]) ?_ 1 _ rfl; (with_reducible repeat (first | apply blk_drewN | apply blk_drew | apply blk_alloc)); refine blk_put (cs := #[.string (⟨#[]⟩ : ByteArray), .string (⟨#[]⟩ : ByteArray), .bool false]) ?_ 0 _ rfl; (with_reducible repeat (first | apply blk_drewN | apply blk_drew | apply blk_alloc)); exact qm.out) hb) (below_step (be4 HB.out qg.out qh.out qi.out GE223.out) hb) ?_; clear qj qc qd qe qm HB; intro qj qc qd qe qm HB; (try clear hb); (try clear hb2); (try clear hk); (try clear hi)))
          go_roundg k2
          case measure => have := HJ2.out; have := HK2.out; omega
          case rel => exact ⟨(qk), (wrap64 (qb + 1)), Ye1, H', ⟨by have := HJ2.out; have := HK2.out; omega⟩, ⟨by (with_reducible repeat (first | apply Kd.R_alloc | apply Kd.R_drewN | apply Kd.R_drew)); exact Kd.R_mono qj.out (fun _ hk => trivial)⟩, ⟨bk qc.out⟩, ⟨bk qd.out⟩, ⟨bk qe.out⟩, ⟨be4 HB.out qg.out qh.out qi.out GE223.out⟩⟩
         ·replace c36 := Bool.eq_false_iff.mpr c36; subst c36
          have H1 : (if qk.length < 3518437208883 then (impl_Overlay.l0 k2 (qk ++ [(⟨(rd_T37 qa qb).f0, (rd_T37 qa qb).f1, (rd_T37 qa qb).f2⟩ : S37)]) qa (qa.length : Int) (wrap64 (qb + 1)) qf) else (none)) = some (r1, r2) := by rw [if_neg (show ¬ (false = true) by decide)] at H; exact H
          clear H; have H := H1; clear H1
          by_cases c46 : qk.length < 3518437208883
          ·rw [if_pos c46] at H
           have LMc46 := Aside0.mk c46; clear c46
           obtain ⟨y225, hy225⟩ : ∃ y_ : List (S37), y_ = (qk ++ [(⟨(rd_T37 qa qb).f0, (rd_T37 qa qb).f1, (rd_T37 qa qb).f2⟩ : S37)]) := ⟨_, rfl⟩
           replace H : (impl_Overlay.l0 k2 y225 qa (qa.length : Int) (wrap64 (qb + 1)) qf) = some (r1, r2) := by first | (rw [hy225]; with_reducible exact H) | (have H2_ := (Option.bind_some _ _).symm.trans H; rw [hy225]; with_reducible exact H2_) | (have H2_ := (Option.bind_some _ _).symm.trans H; with_reducible exact H2_) | with_reducible exact H | (rw [hy225]; exact H) | exact H
           have Ny225 := Aside0.mk hy225; clear hy225; have H' := Aside0.mk H; clear H; have p222 : 0 ≤ (qb : Int) := oda; have q222 : qb < (qa.length : Int) := oda; obtain ⟨ad222, e222, hx222_0, hx222_1, hx222_2⟩ := at_T37 (Kd.C_below HR0_0.out HB.out) qb p222 q222
           cases e222
           replace p222 := eq_true p222; replace q222 := eq_true q222
           go_wp2_with (first | ((with_reducible refine gd 8 rfl ?_); refine bx 8 37 (#[.string (⟨#[]⟩ : ByteArray), .string (⟨#[]⟩ : ByteArray), .bool false]) ?_; intro ql hg w47 hbox hb; have n0_ := Aside0.mk (Kd.R_below (Kd.R_elderB (kr qj.out) ql (Nat.le_of_eq hg.symm)) hb); have n1_ := Aside0.mk (bb qc hb); have n2_ := Aside0.mk (bb qd hb); have n3_ := Aside0.mk (bb qe hb); have n4_ := Aside0.mk (below_step (be3 HB.out qg.out qh.out qi.out) hb); have n5_ := Aside0.mk (hbox); have n6_ := Aside0.mk (bs hg (be3 HB.out qg.out qh.out qi.out)); have n7_ := Aside0.mk (bs hg (be3 HB.out qg.out qh.out qi.out)); have n8_ := Aside0.mk (bl hg qc); have n9_ := Aside0.mk (br hg qc); have n10_ := Aside0.mk (bl hg qd); have n11_ := Aside0.mk (br hg qd); have n12_ := Aside0.mk (bl hg qe); have n13_ := Aside0.mk (br hg qe); clear qj; clear qc; clear qd; clear qe; clear HB; have qj := n0_; have qc := n1_; have qd := n2_; have qe := n3_; have HB := n4_; have qm := n5_; have GW223 := n6_; have GE223 := n7_; have qv := n8_; have NB223_214 := n9_; have qw := n10_; have NB223_215 := n11_; have qx := n12_; have NB223_216 := n13_; clear n0_ n1_ n2_ n3_ n4_ n5_ n6_ n7_ n8_ n9_ n10_ n11_ n12_ n13_; clear hb hbox hg; have hnb48 := NB223_214.out; have hnc48 := qv.out; have hnb49 := NB223_215.out; have hnc49 := qw.out; have hnb50 := NB223_216.out; have hnc50 := qx.out; have ⟨hcz51_0, hcz51_1, hcz51_2, hfz51_0, hfz51_1, hfz51_2⟩ := Yc3 qm.out; have hnb52 := qu.out; have hnc52 := qt.out; have hnb53 := qn.out; have hnc53 := qo.out; have ⟨hcz54_0, hfz54_0⟩ := Yc1 qd.out) | ((with_reducible refine gc 68 rfl ?_); refine gl (some 31) _ (#[.slice A1_0 qf.length c1_0, .func (.func 69) #[] #[.pointer (some ⟨ql, 0, none⟩)]]) Tryd.func68 ?_; (with_reducible refine (impl_Entry_68.calls _ _ qf ((rd_T37 qa qb).f0) ((rd_T37 qa qb).f1) ((rd_T37 qa qb).f2) false ql _ ?side1 ?side2 ?sideB A35.out).mono ?_); (case sideB => exact (by (with_reducible repeat (first | apply blk_drewN | apply blk_drew | apply blk_alloc)); refine blk_put (cs := #[.string ((rd_T37 qa qb).f0), .string ((rd_T37 qa qb).f1), .bool false]) ?_ 2 _ rfl; (with_reducible repeat (first | apply blk_drewN | apply blk_drew | apply blk_alloc)); refine blk_put (cs := #[.string ((rd_T37 qa qb).f0), .string (⟨#[]⟩ : ByteArray), .bool false]) ?_ 1 _ rfl; (with_reducible repeat (first | apply blk_drewN | apply blk_drew | apply blk_alloc)); refine blk_put (cs := #[.string (⟨#[]⟩ : ByteArray), .string (⟨#[]⟩ : ByteArray), .bool false]) ?_ 0 _ rfl; (with_reducible repeat (first | apply blk_drewN | apply blk_drew | apply blk_alloc)); exact qm.out)); (case side1 => exact Kd.C_below HR1_0.out (be4 HB.out qg.out qh.out qi.out GE223.out)); (case side2 => exact HC1_0.out); rintro e w55 ⟨rfl, hb⟩; refine ⟨_, rfl, ?_⟩; refine Ya6 (Kd.R_below (by (with_reducible repeat (first | apply Kd.R_alloc | apply Kd.R_drewN | apply Kd.R_drew)); exact (Kd.R_mono (Kd.R_far (p := ⟨ql, 2, none⟩) (Kd.R_far (p := ⟨ql, 1, none⟩) (Kd.R_far (p := ⟨ql, 0, none⟩) (Kd.R_mono qj.out (fun k_ hk => (⟨hk, hk.2⟩ : _ ∧ k_ ≠ ql))) (fun _ hk => hk.2) (.string ((rd_T37 qa qb).f0))) (fun _ hk => hk.2) (.string ((rd_T37 qa qb).f1))) (fun _ hk => hk.2) (.bool ((rd_T37 qa qb).f2))) (fun _ h_ => h_.1))) hb) (blk_below (g := gb214) (o := .cells #[.slice (some ad222) qa.length c0_0] 28 (0, 0)) (bkf qc.out qv.out) hb) (blk_below (g := gb215) (o := .cells #[.slice A1_0 qf.length c1_0] 28 (0, 0)) (bkf qd.out qw.out) hb) (blk_below (g := gb216) (o := .cells #[.slice none 0 0] 28 (0, 0)) (bkf qe.out qx.out) hb) (blk_below (g := ql) (o := .cells #[.string ((rd_T37 qa qb).f0), .string ((rd_T37 qa qb).f1), .bool ((rd_T37 qa qb).f2)] 37 (0, 0)) (by (with_reducible repeat (first | apply blk_drewN | apply blk_drew | apply blk_alloc)); refine blk_put (cs := #[.string ((rd_T37 qa qb).f0), .string ((rd_T37 qa qb).f1), .bool false]) ?_ 2 _ rfl; (with_reducible repeat (first | apply blk_drewN | apply blk_drew | apply blk_alloc)); refine blk_put (cs := #[.string ((rd_T37 qa qb).f0), .string (⟨#[]⟩ : ByteArray), .bool false]) ?_ 1 _ rfl; (with_reducible repeat (first | apply blk_drewN | apply blk_drew | apply blk_alloc)); refine blk_put (cs := #[.string (⟨#[]⟩ : ByteArray), .string (⟨#[]⟩ : ByteArray), .bool false]) ?_ 0 _ rfl; (with_reducible repeat (first | apply blk_drewN | apply blk_drew | apply blk_alloc)); exact qm.out) hb) (below_step (be4 HB.out qg.out qh.out qi.out GE223.out) hb) ?_; clear qj qc qd qe qm HB; intro qj qc qd qe qm HB; (try clear hb); (try clear hb2); (try clear hk); (try clear hi); have ⟨hcz56_0, hcz56_1, hcz56_2, hfz56_0, hfz56_1, hfz56_2⟩ := Yc3 qm.out) | ((with_reducible refine gate_builtin (b := .append) (xs := #[.tmp 33, .tmp 35]) rfl ?_); at_builtin; refine Kd.R_append k37 (w0 := w) w.heap.size rfl (.tmp 33) (.tmp 35) 26 37 (.agg #[(.string ⟨#[]⟩), (.string ⟨#[]⟩), (.bool false)]) 40 rfl Tryd.underlying26 info37 rfl (by decide) (by omega) u6 qk (⟨(rd_T37 qa qb).f0, (rd_T37 qa qb).f1, (rd_T37 qa qb).f2⟩ : S37) [.string ((rd_T37 qa qb).f0), .string ((rd_T37 qa qb).f1), .bool ((rd_T37 qa qb).f2)] (fun k_ => k_ ≠ ql) (fun _ => False) rfl rfl ?aP (fun _ hk => hk.elim) ?aF ?aO ?aB ?aS ?aL ?_; (case aP => exact k37_mkM _ _ _ (⟨(rd_T37 qa qb).f0, (rd_T37 qa qb).f1, (rd_T37 qa qb).f2⟩ : S37)); (case aB => exact (be4 HB.out qg.out qh.out qi.out GE223.out)); (case aF => exact (fun k_ hk => Kd.freshB (g := ql) (o := .cells #[.string ((rd_T37 qa qb).f0), .string ((rd_T37 qa qb).f1), .bool ((rd_T37 qa qb).f2)] 37 (0, 0)) (bk qm.out) k_ hk)); (case aO => exact (by (with_reducible repeat (first | apply Kd.R_alloc | apply Kd.R_drewN | apply Kd.R_drew)); exact Kd.R_mono qj.out (fun _ hk => hk.2))); (case aS => exact (below_size (be4 HB.out qg.out qh.out qi.out GE223.out))); (case aL => have := LMc46.out; omega); intro v226 w57 ho hb hg hat; rw [← Ny225.out] at ho; refine Ya6 (blk_grown (g := gb214) (o := .cells #[.slice (some ad222) qa.length c0_0] 28 (0, 0)) (bk qc.out) hg (Kd.R_ne qj.out qc.out (by decide))) (blk_grown (g := gb215) (o := .cells #[.slice A1_0 qf.length c1_0] 28 (0, 0)) (bk qd.out) hg (Kd.R_ne qj.out qd.out (by decide))) (blk_grown (g := gb216) (o := .cells #[.slice none 0 0] 28 (0, 0)) (bk qe.out) hg (Kd.R_ne qj.out qe.out (by decide))) (blk_grown (g := ql) (o := .cells #[.string ((rd_T37 qa qb).f0), .string ((rd_T37 qa qb).f1), .bool ((rd_T37 qa qb).f2)] 37 (0, 0)) (bk qm.out) hg (Kd.R_away qj.out (fun _ hk => hk.2))) (hb) (ho) ?_; clear qc qd qe qm HB qj; intro qc qd qe qm HB HO227; clear ho hb hg hat))
           go_roundg k2
           case measure => have := HJ2.out; have := HK2.out; omega
           case rel => exact ⟨(y225), (wrap64 (qb + 1)), Ye1, H', ⟨by have := HJ2.out; have := HK2.out; omega⟩, ⟨by (with_reducible repeat (first | apply Kd.R_alloc | apply Kd.R_drewN | apply Kd.R_drew)); exact Kd.R_mono HO227.out (fun _ hk => trivial)⟩, ⟨bk qc.out⟩, ⟨bk qd.out⟩, ⟨bk qe.out⟩, ⟨be4 HB.out qg.out qh.out qi.out GE223.out⟩⟩
          ·rw [if_neg c46] at H
           exact absurd H (by simp)
        ·rw [if_neg c34] at H
         exact absurd H (by simp)
       ·rw [if_neg c33] at H
        exact absurd H (by simp)
      ·rw [if_neg c32] at H
       have c32b0 : decide (qb < (qa.length : Int)) = false := decide_eq_false c32; clear c32
       by_cases c58 : (qk.length : Int) > 100
       ·rw [if_pos c58] at H
        have c58b0 : decide (100 < (qk.length : Int)) = true := decide_eq_true c58; have c58b1 : decide (100 < qk.length) = true := decide_eq_true (by omega); clear c58; simp only [Option.some.injEq, Prod.mk.injEq] at H; obtain ⟨rfl, rfl⟩ := H; obtain ⟨Ao59, co59, eo59⟩ := Kd.R_slice qj.out; subst eo59; have hnb60 := qr.out; have hnc60 := qp.out; have hnb61 := qo.out; have hnc61 := qn.out; have ⟨hcz62_0, hfz62_0⟩ := Yc1 qe.out
        go_wp2
        refine bodyPost_ret (results_ct rfl _ _ gb216 28 #[.slice none 0 0] (0, 0) _ rfl (by (with_reducible repeat (first | apply blk_drewN | apply blk_drew | apply blk_alloc)); refine blk_put (cs := #[.slice none 0 0]) ?_ 0 _ rfl; (with_reducible repeat (first | apply blk_drewN | apply blk_drew | apply blk_alloc)); exact qe.out) Tryd.underlying28 rfl (by kernel_rfl)) rfl ?_; exact ⟨_, Ye2, nl, (by first | exact be3 HB.out qg.out qh.out qi.out | exact be2 HB.out qg.out qh.out | exact be1 HB.out qg.out)⟩
       ·rw [if_neg c58] at H
        have c58b0 : decide (100 < (qk.length : Int)) = false := decide_eq_false c58; have c58b1 : decide (100 < qk.length) = false := decide_eq_false (by omega); clear c58; replace H := Option.bind_eq_some_iff.mp H; obtain ⟨t228, A630, H⟩ := H; replace H : (some (t228, 0)) = some (r1, r2) := H; have A63 := Aside0.mk A630; clear A630; simp only [Option.some.injEq, Prod.mk.injEq] at H; obtain ⟨rfl, rfl⟩ := H; obtain ⟨Ao64, co64, eo64⟩ := Kd.R_slice qj.out; subst eo64
        go_wp2_with (first | ((with_reducible refine gc 71 rfl ?_); refine gl (some 43) _ (#[.slice Ao64 qk.length co64]) Tryd.func71 ?_; (with_reducible refine (impl_sorted.calls (fun k_ => some k_ = (.slice Ao64 qk.length co64 : Value).ownBlock) (.slice Ao64 qk.length co64) qk t228 w _ ?side1 ?side2 A63.out).mono ?_); (case side1 => repeat (first | (with_reducible first | exact HB.out | apply below_alloc | apply pw_below_drewN | apply below_drew1 | refine below_set ?_ qg.out | refine below_set ?_ qh.out | refine below_set ?_ qi.out) | exact HB.out)); (case side2 => exact Kd.R_tight rfl qj.out); rintro e w65 ⟨v229, rfl, ho0, hb, hkp⟩; refine ⟨_, rfl, ?_⟩; refine Ya5 (blk_kept (bk qc.out) hkp (fun hs_ => (fun e_ => (Kd.R_ne qj.out qc.out (by decide)) e_) hs_)) (blk_kept (bk qd.out) hkp (fun hs_ => (fun e_ => (Kd.R_ne qj.out qd.out (by decide)) e_) hs_)) (blk_kept (bk qe.out) hkp (fun hs_ => (fun e_ => (Kd.R_ne qj.out qe.out (by decide)) e_) hs_)) (Kd.R_mono (ok' := fun k_ => True) ho0 (fun k_ hk_ => trivial)) (hb) ?_; clear qc qd qe HB qj; intro qc qd qe HO230 HB; (try clear hb); (try clear hkp); (try clear ho0); obtain ⟨Ao66, co66, eo66⟩ := Kd.R_slice HO230.out; subst eo66; have hnb67 := qr.out; have hnc67 := qp.out; have hnb68 := qo.out; have hnc68 := qn.out; have ⟨hcz69_0, hfz69_0⟩ := Yc1 qe.out))
        refine bodyPost_ret (results_ct rfl _ _ gb216 28 #[.slice Ao66 t228.length co66] (0, 0) _ rfl (by (with_reducible repeat (first | apply blk_drewN | apply blk_drew | apply blk_alloc)); refine blk_put (cs := #[.slice none 0 0]) ?_ 0 _ rfl; (with_reducible repeat (first | apply blk_drewN | apply blk_drew | apply blk_alloc)); exact qe.out) Tryd.underlying28 rfl (by kernel_rfl)) rfl ?_; exact ⟨_, Ye2, by (with_reducible repeat (first | apply Kd.R_alloc | apply Kd.R_drewN | apply Kd.R_drew)); exact Kd.R_mono (Kd.R_far (p := ⟨gb216, 0, none⟩) (Kd.R_types HO230.out qe.out (by decide)) (fun _ hk => hk.2) (.slice Ao66 t228.length co66)) (fun _ hk => trivial), (by first | exact be3 HB.out qg.out qh.out qi.out | exact be2 HB.out qg.out qh.out | exact be1 HB.out qg.out)⟩

end Go.Proofs.YtgnmledjkamojaaDoor.P

