/- Shorter ways to say what the printed walks say again and again: each lemma pays its small side goals by itself. No condition. -/
import Derived.Test.YtnndpbkcldkbgaaP0
namespace Go.Proofs.Ytnndpbkcldkbgaa.P
open Go.RowKit Go.Proofs.YtnndpbkcldkbgaaW.PrintWords Go.Proofs.YtnndpbkcldkbgaaW.PrintLast Go.Proofs.YtnndpbkcldkbgaaW.PrintMore
set_option linter.unusedVariables false
set_option linter.unusedSimpArgs false
theorem oda {p : Prop} [Decidable p] (h : decide p = true := by first | (with_reducible assumption) | assumption) : p := of_decide_eq_true h
theorem be {p q : Prop} (h : q) (f : q → p := by intro h_; repeat (first | (with_reducible first | exact h_ | apply below_alloc | apply pw_below_drewN | apply below_drew1) | exact h_)) : p := f h
theorem be1 {p q g1 : Prop} (h : q) (h1 : g1) (f : q → g1 → p := by intro h_ g1_; repeat (first | (with_reducible first | exact h_ | apply below_alloc | apply pw_below_drewN | apply below_drew1 | refine below_set ?_ g1_) | exact h_)) : p := f h h1
theorem be2 {p q g1 g2 : Prop} (h : q) (h1 : g1) (h2 : g2) (f : q → g1 → g2 → p := by intro h_ g1_ g2_; repeat (first | (with_reducible first | exact h_ | apply below_alloc | apply pw_below_drewN | apply below_drew1 | refine below_set ?_ g1_ | refine below_set ?_ g2_) | exact h_)) : p := f h h1 h2
theorem be3 {p q g1 g2 g3 : Prop} (h : q) (h1 : g1) (h2 : g2) (h3 : g3) (f : q → g1 → g2 → g3 → p := by intro h_ g1_ g2_ g3_; repeat (first | (with_reducible first | exact h_ | apply below_alloc | apply pw_below_drewN | apply below_drew1 | refine below_set ?_ g1_ | refine below_set ?_ g2_ | refine below_set ?_ g3_) | exact h_)) : p := f h h1 h2 h3
theorem be4 {p q g1 g2 g3 g4 : Prop} (h : q) (h1 : g1) (h2 : g2) (h3 : g3) (h4 : g4) (f : q → g1 → g2 → g3 → g4 → p := by intro h_ g1_ g2_ g3_ g4_; repeat (first | (with_reducible first | exact h_ | apply below_alloc | apply pw_below_drewN | apply below_drew1 | refine below_set ?_ g1_ | refine below_set ?_ g2_ | refine below_set ?_ g3_ | refine below_set ?_ g4_) | exact h_)) : p := f h h1 h2 h3 h4
theorem be5 {p q g1 g2 g3 g4 g5 : Prop} (h : q) (h1 : g1) (h2 : g2) (h3 : g3) (h4 : g4) (h5 : g5) (f : q → g1 → g2 → g3 → g4 → g5 → p := by intro h_ g1_ g2_ g3_ g4_ g5_; repeat (first | (with_reducible first | exact h_ | apply below_alloc | apply pw_below_drewN | apply below_drew1 | refine below_set ?_ g1_ | refine below_set ?_ g2_ | refine below_set ?_ g3_ | refine below_set ?_ g4_ | refine below_set ?_ g5_) | exact h_)) : p := f h h1 h2 h3 h4 h5
theorem be6 {p q g1 g2 g3 g4 g5 g6 : Prop} (h : q) (h1 : g1) (h2 : g2) (h3 : g3) (h4 : g4) (h5 : g5) (h6 : g6) (f : q → g1 → g2 → g3 → g4 → g5 → g6 → p := by intro h_ g1_ g2_ g3_ g4_ g5_ g6_; repeat (first | (with_reducible first | exact h_ | apply below_alloc | apply pw_below_drewN | apply below_drew1 | refine below_set ?_ g1_ | refine below_set ?_ g2_ | refine below_set ?_ g3_ | refine below_set ?_ g4_ | refine below_set ?_ g5_ | refine below_set ?_ g6_) | exact h_)) : p := f h h1 h2 h3 h4 h5 h6
theorem bk {p q : Prop} (h : q) (f : q → p := by intro h_; (with_reducible repeat (first | apply blk_drewN | apply blk_drew | apply blk_alloc)); exact h_) : p := f h
theorem bkf {p q g1 : Prop} (h : q) (h1 : g1) (f : q → g1 → p := by intro h_ g1_; repeat (first | (with_reducible first | exact h_ | apply blk_drewN | apply blk_drew | apply blk_alloc | refine blk_far ?_ g1_ _) | exact h_)) : p := f h h1
theorem kr {p q : Prop} (h : q) (f : q → p := by intro h_; (with_reducible repeat (first | apply Kd.R_alloc | apply Kd.R_drewN | apply Kd.R_drew)); exact h_) : p := f h
theorem cb {p q : Prop} (h : q) (f : q → p := by intro h_; repeat (first | exact h_ | (with_reducible refine Kd.C_alloc ?_ _) | (with_reducible refine Kd.C_drewN ?_ _) | (with_reducible refine Kd.C_drew ?_))) : p := f h
theorem dz {w w' : World} (f : Drawn0 w w' := by repeat (first | exact Drawn0.refl _ | apply Drawn0.step)) : Drawn0 w w' := f
theorem Ye1 {p : Prop} (h : p := by first | rfl | (simp; done) | (simp [*]; done)) : p := h
theorem Ye2 {p : Prop} (h : p := by first | rfl | (simp [errW_none, errW_some] <;> rfl) | (simp [*, errW_none, errW_some] <;> rfl)) : p := h
theorem nl {p : Prop} (h : p := by first | exact Kd.R_nil _ _ _ _ _ | exact Kd.N_nil _ _ _ _ _ | exact Kd.V_nil _ _ _ _ _ | exact Kd.Q_nil _ _ _ _ _ | exact Kd.S_nil _ _ _ _ _) : p := h
def fb (n m : Nat) : Array Bool := ((List.range n).map fun i => m.testBit i).toArray
section
variable {P : Program} {md : Region.Mode} {ops : Array Oper} {Q : Exit → Act → World → Prop} {S : World → Prop} {ds : List Nat} {T : Bool × List (List Nat × List Nat)} {B : List Nat}
theorem ups : (∀ (a : Act) (d : Tmp) (v : Value), Act.put a (some d) v = { a with tmps := a.tmps.setIfInBounds d v }) ∧ (∀ (l : List Value) (i : Nat) (a : Value), l.toArray.setIfInBounds i a = (l.set i a).toArray) ∧ (∀ (x : Value) (l : List Value) (a : Value), (x :: l).set 0 a = a :: l) ∧ (∀ (x : Value) (l : List Value) (i : Nat) (a : Value), (x :: l).set (i + 1) a = x :: l.set i a) ∧ (∀ n : Int, IntKind.i64.wrap n = wrap64 n) ∧ (∀ n : Int, IntKind.i32.wrap n = wrap32 n) := ⟨fun _ _ _ => rfl, fun l i a => List.setIfInBounds_toArray l i a, fun _ _ _ => rfl, fun _ _ _ _ => rfl, i64_w, i32_w⟩
theorem pu (i N : Nat) (l' : Array Bool) (HT : Aside0 (rtab md ops = T)) {oi : Oper} {v : Value} {fuel : Nat} {l : Array Bool} {a a' : Act} {w : World} (h : wpAnyLast P md ops Q S ds fuel l' a' w)
    (hi : ops[i]? = some oi := by rfl) (hN : oi.dst = some N := by rfl) (hc : anyT T l.toList l'.toList i = true := by kernel_rfl)
    (hw : Region.wanted oi (yielded ops a.tmps) = true := by rfl) (hr : ∀ w', (execOp a.eval oi).run P w' = .ok (.value v) w' := by intro w'; go_simp; with_reducible rfl)
    (hQ : ∀ c a w, Q (.panic c) (a.put oi.dst v) w → Q (.panic c) a w := by exact fun _ _ _ h => h) (ha : a.put (some N) v = a' := by simp only [ups]; rfl) :
    wpAnyLast P md ops Q S ds (fuel + 1) l a w := pure_ l' hi hN (any_of HT.out hc) hQ (.inl ⟨hw, hr⟩) ha h
theorem pn (i N : Nat) (l' : Array Bool) (HT : Aside0 (rtab md ops = T)) {oi : Oper} {fuel : Nat} {l : Array Bool} {a a' : Act} {w : World} (h : wpAnyLast P md ops Q S ds fuel l' a' w)
    (hi : ops[i]? = some oi := by rfl) (hN : oi.dst = some N := by rfl) (hc : anyT T l.toList l'.toList i = true := by kernel_rfl)
    (hw : Region.wanted oi (yielded ops a.tmps) = false := by rfl)
    (hQ : ∀ c a w, Q (.panic c) (a.put oi.dst undef) w → Q (.panic c) a w := by exact fun _ _ _ h => h) (ha : a.put (some N) undef = a' := by simp only [ups]; rfl) :
    wpAnyLast P md ops Q S ds (fuel + 1) l a w := pure_ l' hi hN (any_of HT.out hc) hQ (.inr ⟨hw, rfl⟩) ha h
theorem tk (i N : Nat) (l' : Array Bool) (HT : Aside0 (rtab md ops = T)) (HW : Aside0 (waitsOk T.2 B = true)) {oi : Oper} {v : Value} {fuel : Nat} {l : Array Bool} {a a' : Act} {w : World} (hS : S w) (h : wpAnyLast P md ops Q S ds fuel l' a' w)
    (hi : ops[i]? = some oi := by rfl) (hN : oi.dst = some N := by rfl) (hc : takeW T B ds l.toList l'.toList i = true := by kernel_rfl)
    (hw : Region.wanted oi (yielded ops a.tmps) = true := by rfl) (hr : ∀ w', S w' → (execOp a.eval oi).run P w' = .ok (.value v) w' := by intro w' hs_; (repeat obtain ⟨_, hs_⟩ := hs_); go_simp; with_reducible rfl)
    (hQ : ∀ c a w, Q (.panic c) (a.put oi.dst v) w → Q (.panic c) a w := by exact fun _ _ _ h => h) (ha : a.put (some N) v = a' := by simp only [ups]; rfl) :
    wpAnyLast P md ops Q S ds (fuel + 1) l a w := take_ l' hi hN (take_ofW HT.out HW.out hc) hQ (.inl ⟨hw, hr⟩) hS ha h
end
theorem bb {w0 W w' : World} {g : Nat} {o : Obj} (h : Aside0 (w0.heap[g]? = some o)) (hb : Below W.heap.size W w') (f : w0.heap[g]? = some o → W.heap[g]? = some o := by intro h_; (with_reducible repeat (first | apply blk_drewN | apply blk_drew | apply blk_alloc)); exact h_) : w'.heap[g]? = some o := blk_below (f h.out) hb
theorem bs {w W : World} {g : Nat} (hg : g = W.heap.size) (h : Below w.heap.size w W) : w.heap.size ≤ g := by rw [hg]; exact below_size h
theorem bl {w0 W : World} {g g' : Nat} {o : Obj} (hg : g' = W.heap.size) (h : Aside0 (w0.heap[g]? = some o)) (f : w0.heap[g]? = some o → W.heap[g]? = some o := by intro h_; (with_reducible repeat (first | apply blk_drewN | apply blk_drew | apply blk_alloc)); exact h_) : g ≠ g' := by rw [hg]; exact Nat.ne_of_lt (blk_lt (f h.out))
theorem br {w0 W : World} {g g' : Nat} {o : Obj} (hg : g' = W.heap.size) (h : Aside0 (w0.heap[g]? = some o)) (f : w0.heap[g]? = some o → W.heap[g]? = some o := by intro h_; (with_reducible repeat (first | apply blk_drewN | apply blk_drew | apply blk_alloc)); exact h_) : g' ≠ g := (bl hg h f).symm
section
variable {P : Program} {ops : Array Oper} {rest : List Oper} {o oi : Oper} {a : Act} {Q : Exit → Act → World → Prop} {W : World}
theorem bx (N t : Nat) (cs : Array Value) (h : ∀ g, g = W.heap.size → ∀ w1, w1.heap[g]? = some (.cells cs t (0, 0)) → Below W.heap.size W w1 → wpList P ops Q rest (a.put o.dst (.pointer (some ⟨g, 0, none⟩))) w1)
    (hd : o.dst = some N := by rfl) (hgd : o.guard = none := by rfl) (hrun : (execOp a.eval o).run P W = .ok (.value (.pointer (some ⟨W.heap.size, 0, none⟩))) (W.alloc (.cells cs t (0, 0))) := by first | (go_simp; done) | (go_simp; rfl)) : wpList P ops Q (o :: rest) a W := box_event hgd hd hrun h
theorem gl (N : Option Tmp) (fn : Func) (args : Array Value) {f : FuncId} {xs : Array Operand} {ts : Array TypeId} (hf : P.funcs[f]? = some fn) (h : Calls P f args W fun e w' => ∃ v, e = .returned v ∧ wpList P ops Q rest (a.put N v) w')
    (hd : oi.dst = N := by rfl) (hg : oi.guard = none := by rfl) (hop : oi.op = .call { callee := .value (.func f), args := xs, argTypes := ts } := by rfl) (hname : (fn.name == "runtime.NumGoroutine") = false := by kernel_rfl) (hb : fn.body.isSome = true := by rfl)
    (hargs : xs.map a.eval = args := by (try simp only [List.map_toArray, List.map_cons, List.map_nil]); first | done | rfl | (simp only [List.length_drop, List.length_take]; rfl)) : wpList P ops Q (oi :: rest) a W := goesL_ N hd hg hf hname hb args hop hargs h
theorem gs {K : Act → World → Prop} {N : Option Tmp} (fn : Func) (args : Array Value) {f : FuncId} {xs : Array Operand} {ts : Array TypeId} (hf : P.funcs[f]? = some fn) (h : Calls P f args W fun e w' => ∃ v, e = .returned v ∧ K (a.put N v) w')
    (hw : Region.wanted oi (yielded ops a.tmps) = true := by rfl) (hN : oi.dst = N := by rfl) (hop : oi.op = .call { callee := .value (.func f), args := xs, argTypes := ts } := by rfl) (hname : (fn.name == "runtime.NumGoroutine") = false := by kernel_rfl) (hb : fn.body.isSome = true := by rfl)
    (hargs : xs.map a.eval = args := by (try simp only [List.map_toArray, List.map_cons, List.map_nil]); first | done | rfl | (simp only [List.length_drop, List.length_take]; rfl)) : if Region.wanted oi (yielded ops a.tmps) = true then Oper.wp P oi a W K Q else K (a.put N undef) W := goes_ hf hname hb args hw hN hop hargs h
theorem gc (f : FuncId) {xs : Array Operand} {ts : Array TypeId} (_ho : o.op = .call { callee := .value (.func f), args := xs, argTypes := ts }) (h : wpList P ops Q (o :: rest) a W) : wpList P ops Q (o :: rest) a W := h
theorem gd (N : Tmp) (_hN : o.dst = some N) (h : wpList P ops Q (o :: rest) a W) : wpList P ops Q (o :: rest) a W := h
end
section
variable {w : World} {g t : Nat} {a b c d e f h : Value}
theorem Yc1 (x : w.heap[g]? = some (.cells #[a] t (0, 0))) : w.cell? ⟨g, 0, none⟩ = some a ∧ w.frozen? ⟨g, 0, none⟩ = false := ⟨(blk_cell x 0).trans rfl, blk_frozen x 0⟩
theorem Yc2 (x : w.heap[g]? = some (.cells #[a, b] t (0, 0))) : w.cell? ⟨g, 0, none⟩ = some a ∧ w.cell? ⟨g, 1, none⟩ = some b ∧ w.frozen? ⟨g, 0, none⟩ = false ∧ w.frozen? ⟨g, 1, none⟩ = false := ⟨(blk_cell x 0).trans rfl, (blk_cell x 1).trans rfl, blk_frozen x 0, blk_frozen x 1⟩
theorem Yc3 (x : w.heap[g]? = some (.cells #[a, b, c] t (0, 0))) : w.cell? ⟨g, 0, none⟩ = some a ∧ w.cell? ⟨g, 1, none⟩ = some b ∧ w.cell? ⟨g, 2, none⟩ = some c ∧ w.frozen? ⟨g, 0, none⟩ = false ∧ w.frozen? ⟨g, 1, none⟩ = false ∧ w.frozen? ⟨g, 2, none⟩ = false := ⟨(blk_cell x 0).trans rfl, (blk_cell x 1).trans rfl, (blk_cell x 2).trans rfl, blk_frozen x 0, blk_frozen x 1, blk_frozen x 2⟩
theorem Yc7 (x : w.heap[g]? = some (.cells #[a, b, c, d, e, f, h] t (0, 0))) : w.cell? ⟨g, 0, none⟩ = some a ∧ w.cell? ⟨g, 1, none⟩ = some b ∧ w.cell? ⟨g, 2, none⟩ = some c ∧ w.cell? ⟨g, 3, none⟩ = some d ∧ w.cell? ⟨g, 4, none⟩ = some e ∧ w.cell? ⟨g, 5, none⟩ = some f ∧ w.cell? ⟨g, 6, none⟩ = some h ∧ w.frozen? ⟨g, 0, none⟩ = false ∧ w.frozen? ⟨g, 1, none⟩ = false ∧ w.frozen? ⟨g, 2, none⟩ = false ∧ w.frozen? ⟨g, 3, none⟩ = false ∧ w.frozen? ⟨g, 4, none⟩ = false ∧ w.frozen? ⟨g, 5, none⟩ = false ∧ w.frozen? ⟨g, 6, none⟩ = false := ⟨(blk_cell x 0).trans rfl, (blk_cell x 1).trans rfl, (blk_cell x 2).trans rfl, (blk_cell x 3).trans rfl, (blk_cell x 4).trans rfl, (blk_cell x 5).trans rfl, (blk_cell x 6).trans rfl, blk_frozen x 0, blk_frozen x 1, blk_frozen x 2, blk_frozen x 3, blk_frozen x 4, blk_frozen x 5, blk_frozen x 6⟩
end
section
variable {c p1 p2 p3 p4 p5 p6 p7 p8 : Prop}
theorem Ya1 (h1 : p1) (h : Aside0 p1 → c) : c := h ⟨h1⟩
theorem Ya2 (h1 : p1) (h2 : p2) (h : Aside0 p1 → Aside0 p2 → c) : c := h ⟨h1⟩ ⟨h2⟩
theorem Ya3 (h1 : p1) (h2 : p2) (h3 : p3) (h : Aside0 p1 → Aside0 p2 → Aside0 p3 → c) : c := h ⟨h1⟩ ⟨h2⟩ ⟨h3⟩
theorem Ya4 (h1 : p1) (h2 : p2) (h3 : p3) (h4 : p4) (h : Aside0 p1 → Aside0 p2 → Aside0 p3 → Aside0 p4 → c) : c := h ⟨h1⟩ ⟨h2⟩ ⟨h3⟩ ⟨h4⟩
theorem Ya5 (h1 : p1) (h2 : p2) (h3 : p3) (h4 : p4) (h5 : p5) (h : Aside0 p1 → Aside0 p2 → Aside0 p3 → Aside0 p4 → Aside0 p5 → c) : c := h ⟨h1⟩ ⟨h2⟩ ⟨h3⟩ ⟨h4⟩ ⟨h5⟩
theorem Ya6 (h1 : p1) (h2 : p2) (h3 : p3) (h4 : p4) (h5 : p5) (h6 : p6) (h : Aside0 p1 → Aside0 p2 → Aside0 p3 → Aside0 p4 → Aside0 p5 → Aside0 p6 → c) : c := h ⟨h1⟩ ⟨h2⟩ ⟨h3⟩ ⟨h4⟩ ⟨h5⟩ ⟨h6⟩
theorem Ya7 (h1 : p1) (h2 : p2) (h3 : p3) (h4 : p4) (h5 : p5) (h6 : p6) (h7 : p7) (h : Aside0 p1 → Aside0 p2 → Aside0 p3 → Aside0 p4 → Aside0 p5 → Aside0 p6 → Aside0 p7 → c) : c := h ⟨h1⟩ ⟨h2⟩ ⟨h3⟩ ⟨h4⟩ ⟨h5⟩ ⟨h6⟩ ⟨h7⟩
theorem Ya8 (h1 : p1) (h2 : p2) (h3 : p3) (h4 : p4) (h5 : p5) (h6 : p6) (h7 : p7) (h8 : p8) (h : Aside0 p1 → Aside0 p2 → Aside0 p3 → Aside0 p4 → Aside0 p5 → Aside0 p6 → Aside0 p7 → Aside0 p8 → c) : c := h ⟨h1⟩ ⟨h2⟩ ⟨h3⟩ ⟨h4⟩ ⟨h5⟩ ⟨h6⟩ ⟨h7⟩ ⟨h8⟩
end
end Go.Proofs.Ytnndpbkcldkbgaa.P
