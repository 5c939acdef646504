/- Several texts of this claim in one file: YtknagppkeodggaaDoorSqueeze, YtknagppkeodggaaDoorSqueeze2, YtknagppkeodggaaDoorShelf, YtknagppkeodggaaDoorMade, YtknagppkeodggaaDoorBase, YtknagppkeodggaaDoorOrder, YtknagppkeodggaaDoorEntriesA, YtknagppkeodggaaDoorSorted, YtknagppkeodggaaDoorSortE, YtknagppkeodggaaDoorBegins, YtknagppkeodggaaDoorOpens. -/
import Derived.Test.YtknagppkeodggaaDoorM2
import Derived.Shelf.Strings.Builder1
import Derived.Shelf.Strings.Builder2
import Derived.Shelf.Strings.OnBuilder
import Derived.Shelf.Small.Bits
import Derived.Shelf.Small.Strs
import Derived.Shelf.Strings.BuilderF
import Derived.Shelf.Strings.BuilderK
import Derived.Shelf.Utf8.RuneCount
import Derived.Shelf.Strings.Builder2Cap
import Derived.Shelf.Strconv.Itoa0
import Derived.Shelf.Strings.Search1
import Derived.Shelf.Strings.Search2
import Derived.Shelf.Strings.Search3
import Derived.Shelf.Strings.Cut
import Derived.Shelf.Strings.Count
import Derived.Shelf.LaysM
import Derived.Shelf.Strings.Shaped
import Derived.Shelf.Sort.Plain
import Derived.Ground.GgsProg
import Derived.Shelf.GgSortFunc.Insertion
import Derived.Shelf.GgSortFunc.Small
import Derived.Shelf.GgSortFunc.InsertionK
import Derived.Shelf.GgSortFunc.SmallK
import Derived.Shelf.GgSortFunc.Tiny
import Derived.Shelf.GgSortFunc.Compose
import Derived.Shelf.GgSortFunc.LotD
import Derived.Shelf.Strings.Prefix
import Derived.Shelf.Strings.Split
import Derived.Shelf.Strings.SplitShaped
import Derived.Shelf.Unicode.DecodeSlow
import Derived.Shelf.Unicode.DecodeAny
import Derived.Shelf.Strings.BuilderCap
import Derived.Shelf.Slices.In.SortNone
import Derived.Shelf.Slices.In.SortNone2
import Derived.Shelf.SlSortFunc.Xorshift
import Derived.Shelf.SlSortFuncK.ComposeK
import Derived.Shelf.SlSortFuncK.SiftDownK
import Derived.Shelf.SlSortFuncK.HeapSortK
import Derived.Shelf.SlSortFuncK.PartialInsertionK
import Derived.Shelf.SlSortFuncK.LotDK
import Derived.Shelf.SlSortFuncK.PivotK
import Derived.Shelf.SlSortFuncK.PartitionK
import Derived.Shelf.SlSortFuncK.PdqK
import Derived.Shelf.SlSortFuncK.WholeK
import Derived.Ground.PaProg
import Derived.Shelf.Hex.Lens
import Derived.Shelf.Hex.Encode
import Derived.Shelf.Hex.Decode
import Derived.Shelf.Hex.DecodeOwns
import Derived.Shelf.Hex.More
import Derived.Test.YtknagppkeodggaaDoorProg
import Derived.Test.YtknagppkeodggaaDoorM1
import Derived.Lib.Bytealg
import Derived.Lib.Strings
import Derived.Deep.Slices
import Derived.SizedLaws
import Derived.ChangeArms
import Derived.WideShapes
import Derived.Handed
namespace Go.Proofs.YtknagppkeodggaaDoor.P
open Go.RowKit Go.Proofs.YtknagppkeodggaaDoorW.PrintWords Go.Proofs.YtknagppkeodggaaDoorW.PrintLast Go.Proofs.YtknagppkeodggaaDoorW.PrintMore
set_option linter.unusedVariables false
set_option linter.unusedSimpArgs false
theorem oda {p:Prop} [Decidable p] (h:decide p=true:=by first|(with_reducible assumption)|assumption):p:=of_decide_eq_true h
theorem be {p q:Prop} (h:q) (f:q→p:=by intro h_;repeat (first|(with_reducible first|exact h_|apply below_alloc|apply pw_below_drewN|apply below_drew1)|exact h_)):p:=f h
theorem be1 {p q g1:Prop} (h:q) (h1:g1) (f:q→g1→p:=by intro h_ g1_;repeat (first|(with_reducible first|exact h_|apply below_alloc|apply pw_below_drewN|apply below_drew1|refine below_set ?_ g1_)|exact h_)):p:=f h h1
theorem be2 {p q g1 g2:Prop} (h:q) (h1:g1) (h2:g2) (f:q→g1→g2→p:=by intro h_ g1_ g2_;repeat (first|(with_reducible first|exact h_|apply below_alloc|apply pw_below_drewN|apply below_drew1|refine below_set ?_ g1_|refine below_set ?_ g2_)|exact h_)):p:=f h h1 h2
theorem be3 {p q g1 g2 g3:Prop} (h:q) (h1:g1) (h2:g2) (h3:g3) (f:q→g1→g2→g3→p:=by intro h_ g1_ g2_ g3_;repeat (first|(with_reducible first|exact h_|apply below_alloc|apply pw_below_drewN|apply below_drew1|refine below_set ?_ g1_|refine below_set ?_ g2_|refine below_set ?_ g3_)|exact h_)):p:=f h h1 h2 h3
theorem be4 {p q g1 g2 g3 g4:Prop} (h:q) (h1:g1) (h2:g2) (h3:g3) (h4:g4) (f:q→g1→g2→g3→g4→p:=by intro h_ g1_ g2_ g3_ g4_;repeat (first|(with_reducible first|exact h_|apply below_alloc|apply pw_below_drewN|apply below_drew1|refine below_set ?_ g1_|refine below_set ?_ g2_|refine below_set ?_ g3_|refine below_set ?_ g4_)|exact h_)):p:=f h h1 h2 h3 h4
theorem be5 {p q g1 g2 g3 g4 g5:Prop} (h:q) (h1:g1) (h2:g2) (h3:g3) (h4:g4) (h5:g5) (f:q→g1→g2→g3→g4→g5→p:=by intro h_ g1_ g2_ g3_ g4_ g5_;repeat (first|(with_reducible first|exact h_|apply below_alloc|apply pw_below_drewN|apply below_drew1|refine below_set ?_ g1_|refine below_set ?_ g2_|refine below_set ?_ g3_|refine below_set ?_ g4_|refine below_set ?_ g5_)|exact h_)):p:=f h h1 h2 h3 h4 h5
theorem be6 {p q g1 g2 g3 g4 g5 g6:Prop} (h:q) (h1:g1) (h2:g2) (h3:g3) (h4:g4) (h5:g5) (h6:g6) (f:q→g1→g2→g3→g4→g5→g6→p:=by intro h_ g1_ g2_ g3_ g4_ g5_ g6_;repeat (first|(with_reducible first|exact h_|apply below_alloc|apply pw_below_drewN|apply below_drew1|refine below_set ?_ g1_|refine below_set ?_ g2_|refine below_set ?_ g3_|refine below_set ?_ g4_|refine below_set ?_ g5_|refine below_set ?_ g6_)|exact h_)):p:=f h h1 h2 h3 h4 h5 h6
theorem bk {p q:Prop} (h:q) (f:q→p:=by intro h_;(with_reducible repeat (first|apply blk_drewN|apply blk_drew|apply blk_alloc));exact h_):p:=f h
theorem bkf {p q g1:Prop} (h:q) (h1:g1) (f:q→g1→p:=by intro h_ g1_;repeat (first|(with_reducible first|exact h_|apply blk_drewN|apply blk_drew|apply blk_alloc|refine blk_far ?_ g1_ _)|exact h_)):p:=f h h1
theorem kr {p q:Prop} (h:q) (f:q→p:=by intro h_;(with_reducible repeat (first|apply Kd.R_alloc|apply Kd.R_drewN|apply Kd.R_drew));exact h_):p:=f h
theorem cb {p q:Prop} (h:q) (f:q→p:=by intro h_;repeat (first|exact h_|(with_reducible refine Kd.C_alloc ?_ _)|(with_reducible refine Kd.C_drewN ?_ _)|(with_reducible refine Kd.C_drew ?_))):p:=f h
theorem dz {w w':World} (f:Drawn0 w w':=by repeat (first|exact Drawn0.refl _|apply Drawn0.step)):Drawn0 w w':=f
theorem Ye1 {p:Prop} (h:p:=by first|rfl|(simp;done)|(simp [*];done)):p:=h
theorem Ye2 {p:Prop} (h:p:=by first|rfl|(simp [errW_none,errW_some] <;> rfl)|(simp [*,errW_none,errW_some] <;> rfl)):p:=h
theorem nl {p:Prop} (h:p:=by first|exact Kd.R_nil _ _ _ _ _|exact Kd.N_nil _ _ _ _ _|exact Kd.V_nil _ _ _ _ _|exact Kd.Q_nil _ _ _ _ _|exact Kd.S_nil _ _ _ _ _):p:=h
def fb (n m:Nat):Array Bool:=((List.range n).map fun i=>m.testBit i).toArray
section
variable {P:Program} {md:Region.Mode} {ops:Array Oper} {Q:Exit→Act→World→Prop} {S:World→Prop} {ds:List Nat} {T:Bool×List (List Nat×List Nat)} {B:List Nat}
theorem ups:(∀ (a:Act) (d:Tmp) (v:Value),Act.put a (some d) v = { a with tmps:=a.tmps.setIfInBounds d v })∧(∀ (l:List Value) (i:Nat) (a:Value),l.toArray.setIfInBounds i a=(l.set i a).toArray)∧(∀ (x:Value) (l:List Value) (a:Value),(x :: l).set 0 a=a :: l)∧(∀ (x:Value) (l:List Value) (i:Nat) (a:Value),(x :: l).set (i+1) a=x :: l.set i a)∧(∀ n:Int,IntKind.i64.wrap n=wrap64 n)∧(∀ n:Int,IntKind.i32.wrap n=wrap32 n):=⟨fun _ _ _=>rfl,fun l i a=>List.setIfInBounds_toArray l i a,fun _ _ _=>rfl,fun _ _ _ _=>rfl,i64_w,i32_w⟩
theorem pu (i N:Nat) (l':Array Bool) (HT:Aside0 (rtab md ops=T)) {oi:Oper} {v:Value} {fuel:Nat} {l:Array Bool} {a a':Act} {w:World} (h:wpAnyLast P md ops Q S ds fuel l' a' w)
    (hi:ops[i]? = some oi:=by rfl) (hN:oi.dst=some N:=by rfl) (hc:anyT T l.toList l'.toList i=true:=by kernel_rfl)
    (hw:Region.wanted oi (yielded ops a.tmps)=true:=by rfl) (hr:∀ w',(execOp a.eval oi).run P w' = .ok (.value v) w':=by intro w';go_simp;with_reducible rfl)
    (hQ:∀ c a w,Q (.panic c) (a.put oi.dst v) w→Q (.panic c) a w:=by exact fun _ _ _ h=>h) (ha:a.put (some N) v=a':=by simp only [ups];rfl) :
    wpAnyLast P md ops Q S ds (fuel+1) l a w:=pure_ l' hi hN (any_of HT.out hc) hQ (.inl ⟨hw,hr⟩) ha h
theorem pn (i N:Nat) (l':Array Bool) (HT:Aside0 (rtab md ops=T)) {oi:Oper} {fuel:Nat} {l:Array Bool} {a a':Act} {w:World} (h:wpAnyLast P md ops Q S ds fuel l' a' w)
    (hi:ops[i]? = some oi:=by rfl) (hN:oi.dst=some N:=by rfl) (hc:anyT T l.toList l'.toList i=true:=by kernel_rfl)
    (hw:Region.wanted oi (yielded ops a.tmps)=false:=by rfl)
    (hQ:∀ c a w,Q (.panic c) (a.put oi.dst undef) w→Q (.panic c) a w:=by exact fun _ _ _ h=>h) (ha:a.put (some N) undef=a':=by simp only [ups];rfl) :
    wpAnyLast P md ops Q S ds (fuel+1) l a w:=pure_ l' hi hN (any_of HT.out hc) hQ (.inr ⟨hw,rfl⟩) ha h
theorem tk (i N:Nat) (l':Array Bool) (HT:Aside0 (rtab md ops=T)) (HW:Aside0 (waitsOk T.2 B=true)) {oi:Oper} {v:Value} {fuel:Nat} {l:Array Bool} {a a':Act} {w:World} (hS:S w) (h:wpAnyLast P md ops Q S ds fuel l' a' w)
    (hi:ops[i]? = some oi:=by rfl) (hN:oi.dst=some N:=by rfl) (hc:takeW T B ds l.toList l'.toList i=true:=by kernel_rfl)
    (hw:Region.wanted oi (yielded ops a.tmps)=true:=by rfl) (hr:∀ w',S w'→(execOp a.eval oi).run P w' = .ok (.value v) w':=by intro w' hs_;(repeat obtain ⟨_,hs_⟩:=hs_);go_simp;with_reducible rfl)
    (hQ:∀ c a w,Q (.panic c) (a.put oi.dst v) w→Q (.panic c) a w:=by exact fun _ _ _ h=>h) (ha:a.put (some N) v=a':=by simp only [ups];rfl) :
    wpAnyLast P md ops Q S ds (fuel+1) l a w:=take_ l' hi hN (take_ofW HT.out HW.out hc) hQ (.inl ⟨hw,hr⟩) hS ha h
end
theorem bb {w0 W w':World} {g:Nat} {o:Obj} (h:Aside0 (w0.heap[g]? = some o)) (hb:Below W.heap.size W w') (f:w0.heap[g]? = some o→W.heap[g]? = some o:=by intro h_;(with_reducible repeat (first|apply blk_drewN|apply blk_drew|apply blk_alloc));exact h_):w'.heap[g]? = some o:=blk_below (f h.out) hb
theorem bs {w W:World} {g:Nat} (hg:g=W.heap.size) (h:Below w.heap.size w W):w.heap.size≤g:=by rw [hg];exact below_size h
theorem bl {w0 W:World} {g g':Nat} {o:Obj} (hg:g'=W.heap.size) (h:Aside0 (w0.heap[g]? = some o)) (f:w0.heap[g]? = some o→W.heap[g]? = some o:=by intro h_;(with_reducible repeat (first|apply blk_drewN|apply blk_drew|apply blk_alloc));exact h_):g≠g':=by rw [hg];exact Nat.ne_of_lt (blk_lt (f h.out))
theorem br {w0 W:World} {g g':Nat} {o:Obj} (hg:g'=W.heap.size) (h:Aside0 (w0.heap[g]? = some o)) (f:w0.heap[g]? = some o→W.heap[g]? = some o:=by intro h_;(with_reducible repeat (first|apply blk_drewN|apply blk_drew|apply blk_alloc));exact h_):g'≠g:=(bl hg h f).symm
section
variable {P:Program} {ops:Array Oper} {rest:List Oper} {o oi:Oper} {a:Act} {Q:Exit→Act→World→Prop} {W:World}
theorem bx (N t:Nat) (cs:Array Value) (h:∀ g,g=W.heap.size → ∀ w1,w1.heap[g]? = some (.cells cs t (0,0))→Below W.heap.size W w1→wpList P ops Q rest (a.put o.dst (.pointer (some ⟨g,0,none⟩))) w1)
    (hd:o.dst=some N:=by rfl) (hgd:o.guard=none:=by rfl) (hrun:(execOp a.eval o).run P W = .ok (.value (.pointer (some ⟨W.heap.size,0,none⟩))) (W.alloc (.cells cs t (0,0))):=by first|(go_simp;done)|(go_simp;rfl)):wpList P ops Q (o :: rest) a W:=box_event hgd hd hrun h
theorem gl (N:Option Tmp) (fn:Func) (args:Array Value) {f:FuncId} {xs:Array Operand} {ts:Array TypeId} (hf:P.funcs[f]? = some fn) (h:Calls P f args W fun e w' => ∃ v,e = .returned v∧wpList P ops Q rest (a.put N v) w')
    (hd:oi.dst=N:=by rfl) (hg:oi.guard=none:=by rfl) (hop:oi.op = .call { callee:=.value (.func f),args:=xs,argTypes:=ts }:=by rfl) (hname:(fn.name == "runtime.NumGoroutine")=false:=by kernel_rfl) (hb:fn.body.isSome=true:=by rfl)
    (hargs:xs.map a.eval=args:=by (try simp only [List.map_toArray,List.map_cons,List.map_nil]);first|done|rfl|(simp only [List.length_drop,List.length_take];rfl)):wpList P ops Q (oi :: rest) a W:=goesL_ N hd hg hf hname hb args hop hargs h
theorem gs {K:Act→World→Prop} {N:Option Tmp} (fn:Func) (args:Array Value) {f:FuncId} {xs:Array Operand} {ts:Array TypeId} (hf:P.funcs[f]? = some fn) (h:Calls P f args W fun e w' => ∃ v,e = .returned v∧K (a.put N v) w')
    (hw:Region.wanted oi (yielded ops a.tmps)=true:=by rfl) (hN:oi.dst=N:=by rfl) (hop:oi.op = .call { callee:=.value (.func f),args:=xs,argTypes:=ts }:=by rfl) (hname:(fn.name == "runtime.NumGoroutine")=false:=by kernel_rfl) (hb:fn.body.isSome=true:=by rfl)
    (hargs:xs.map a.eval=args:=by (try simp only [List.map_toArray,List.map_cons,List.map_nil]);first|done|rfl|(simp only [List.length_drop,List.length_take];rfl)):if Region.wanted oi (yielded ops a.tmps)=true then Oper.wp P oi a W K Q else K (a.put N undef) W:=goes_ hf hname hb args hw hN hop hargs h
theorem gc (f:FuncId) {xs:Array Operand} {ts:Array TypeId} (_ho:o.op = .call { callee:=.value (.func f),args:=xs,argTypes:=ts }) (h:wpList P ops Q (o :: rest) a W):wpList P ops Q (o :: rest) a W:=h
theorem gd (N:Tmp) (_hN:o.dst=some N) (h:wpList P ops Q (o :: rest) a W):wpList P ops Q (o :: rest) a W:=h
end
theorem gk {w W:World} {q:Prop} (hg:GOK w) (h:q) (f:GOK w→q→GOK W:=by intro g_ h_;first|exact g_|exact GOK.below g_ (by repeat (first|(with_reducible first|exact h_|apply below_alloc|apply pw_below_drewN|apply below_drew1)|exact h_|exact Below.refl _ _))):GOK W:=f hg h
theorem gk1 {w W:World} {q q1:Prop} (hg:GOK w) (h:q) (h1:q1) (f:GOK w→q→q1→GOK W:=by intro g_ h_ g1_;first|exact g_|exact GOK.below g_ (by repeat (first|(with_reducible first|exact h_|apply below_alloc|apply pw_below_drewN|apply below_drew1|refine below_set ?_ g1_)|exact h_|exact Below.refl _ _))):GOK W:=f hg h h1
theorem gk2 {w W:World} {q q1 q2:Prop} (hg:GOK w) (h:q) (h1:q1) (h2:q2) (f:GOK w→q→q1→q2→GOK W:=by intro g_ h_ g1_ g2_;first|exact g_|exact GOK.below g_ (by repeat (first|(with_reducible first|exact h_|apply below_alloc|apply pw_below_drewN|apply below_drew1|refine below_set ?_ g1_|refine below_set ?_ g2_)|exact h_|exact Below.refl _ _))):GOK W:=f hg h h1 h2
theorem gk3 {w W:World} {q q1 q2 q3:Prop} (hg:GOK w) (h:q) (h1:q1) (h2:q2) (h3:q3) (f:GOK w→q→q1→q2→q3→GOK W:=by intro g_ h_ g1_ g2_ g3_;first|exact g_|exact GOK.below g_ (by repeat (first|(with_reducible first|exact h_|apply below_alloc|apply pw_below_drewN|apply below_drew1|refine below_set ?_ g1_|refine below_set ?_ g2_|refine below_set ?_ g3_)|exact h_|exact Below.refl _ _))):GOK W:=f hg h h1 h2 h3
theorem gk4 {w W:World} {q q1 q2 q3 q4:Prop} (hg:GOK w) (h:q) (h1:q1) (h2:q2) (h3:q3) (h4:q4) (f:GOK w→q→q1→q2→q3→q4→GOK W:=by intro g_ h_ g1_ g2_ g3_ g4_;first|exact g_|exact GOK.below g_ (by repeat (first|(with_reducible first|exact h_|apply below_alloc|apply pw_below_drewN|apply below_drew1|refine below_set ?_ g1_|refine below_set ?_ g2_|refine below_set ?_ g3_|refine below_set ?_ g4_)|exact h_|exact Below.refl _ _))):GOK W:=f hg h h1 h2 h3 h4
section
variable {w:World} {g t:Nat} {a b c d e f h:Value}
theorem Yc1 (x:w.heap[g]? = some (.cells #[a] t (0,0))):w.cell? ⟨g,0,none⟩=some a∧w.frozen? ⟨g,0,none⟩=false:=⟨(blk_cell x 0).trans rfl,blk_frozen x 0⟩
theorem Yc2 (x:w.heap[g]? = some (.cells #[a,b] t (0,0))):w.cell? ⟨g,0,none⟩=some a∧w.cell? ⟨g,1,none⟩=some b∧w.frozen? ⟨g,0,none⟩=false∧w.frozen? ⟨g,1,none⟩=false:=⟨(blk_cell x 0).trans rfl,(blk_cell x 1).trans rfl,blk_frozen x 0,blk_frozen x 1⟩
theorem Yc3 (x:w.heap[g]? = some (.cells #[a,b,c] t (0,0))):w.cell? ⟨g,0,none⟩=some a∧w.cell? ⟨g,1,none⟩=some b∧w.cell? ⟨g,2,none⟩=some c∧w.frozen? ⟨g,0,none⟩=false∧w.frozen? ⟨g,1,none⟩=false∧w.frozen? ⟨g,2,none⟩=false:=⟨(blk_cell x 0).trans rfl,(blk_cell x 1).trans rfl,(blk_cell x 2).trans rfl,blk_frozen x 0,blk_frozen x 1,blk_frozen x 2⟩
theorem Yc7 (x:w.heap[g]? = some (.cells #[a,b,c,d,e,f,h] t (0,0))):w.cell? ⟨g,0,none⟩=some a∧w.cell? ⟨g,1,none⟩=some b∧w.cell? ⟨g,2,none⟩=some c∧w.cell? ⟨g,3,none⟩=some d∧w.cell? ⟨g,4,none⟩=some e∧w.cell? ⟨g,5,none⟩=some f∧w.cell? ⟨g,6,none⟩=some h∧w.frozen? ⟨g,0,none⟩=false∧w.frozen? ⟨g,1,none⟩=false∧w.frozen? ⟨g,2,none⟩=false∧w.frozen? ⟨g,3,none⟩=false∧w.frozen? ⟨g,4,none⟩=false∧w.frozen? ⟨g,5,none⟩=false∧w.frozen? ⟨g,6,none⟩=false:=⟨(blk_cell x 0).trans rfl,(blk_cell x 1).trans rfl,(blk_cell x 2).trans rfl,(blk_cell x 3).trans rfl,(blk_cell x 4).trans rfl,(blk_cell x 5).trans rfl,(blk_cell x 6).trans rfl,blk_frozen x 0,blk_frozen x 1,blk_frozen x 2,blk_frozen x 3,blk_frozen x 4,blk_frozen x 5,blk_frozen x 6⟩
end
section
variable {c p1 p2 p3 p4 p5 p6 p7 p8:Prop}
theorem Ya1 (h1:p1) (h:Aside0 p1→c):c:=h ⟨h1⟩
theorem Ya2 (h1:p1) (h2:p2) (h:Aside0 p1→Aside0 p2→c):c:=h ⟨h1⟩ ⟨h2⟩
theorem Ya3 (h1:p1) (h2:p2) (h3:p3) (h:Aside0 p1→Aside0 p2→Aside0 p3→c):c:=h ⟨h1⟩ ⟨h2⟩ ⟨h3⟩
theorem Ya4 (h1:p1) (h2:p2) (h3:p3) (h4:p4) (h:Aside0 p1→Aside0 p2→Aside0 p3→Aside0 p4→c):c:=h ⟨h1⟩ ⟨h2⟩ ⟨h3⟩ ⟨h4⟩
theorem Ya5 (h1:p1) (h2:p2) (h3:p3) (h4:p4) (h5:p5) (h:Aside0 p1→Aside0 p2→Aside0 p3→Aside0 p4→Aside0 p5→c):c:=h ⟨h1⟩ ⟨h2⟩ ⟨h3⟩ ⟨h4⟩ ⟨h5⟩
theorem Ya6 (h1:p1) (h2:p2) (h3:p3) (h4:p4) (h5:p5) (h6:p6) (h:Aside0 p1→Aside0 p2→Aside0 p3→Aside0 p4→Aside0 p5→Aside0 p6→c):c:=h ⟨h1⟩ ⟨h2⟩ ⟨h3⟩ ⟨h4⟩ ⟨h5⟩ ⟨h6⟩
theorem Ya7 (h1:p1) (h2:p2) (h3:p3) (h4:p4) (h5:p5) (h6:p6) (h7:p7) (h:Aside0 p1→Aside0 p2→Aside0 p3→Aside0 p4→Aside0 p5→Aside0 p6→Aside0 p7→c):c:=h ⟨h1⟩ ⟨h2⟩ ⟨h3⟩ ⟨h4⟩ ⟨h5⟩ ⟨h6⟩ ⟨h7⟩
theorem Ya8 (h1:p1) (h2:p2) (h3:p3) (h4:p4) (h5:p5) (h6:p6) (h7:p7) (h8:p8) (h:Aside0 p1→Aside0 p2→Aside0 p3→Aside0 p4→Aside0 p5→Aside0 p6→Aside0 p7→Aside0 p8→c):c:=h ⟨h1⟩ ⟨h2⟩ ⟨h3⟩ ⟨h4⟩ ⟨h5⟩ ⟨h6⟩ ⟨h7⟩ ⟨h8⟩
end
end Go.Proofs.YtknagppkeodggaaDoor.P


namespace Go.Proofs.YtknagppkeodggaaDoor.P
open Go.RowKit Go.Proofs.YtknagppkeodggaaDoorW.PrintWords Go.Proofs.YtknagppkeodggaaDoorW.PrintLast Go.Proofs.YtknagppkeodggaaDoorW.PrintMore
set_option linter.unusedVariables false
set_option linter.unusedSimpArgs false
theorem bsq_ {w W:World} {g j:Nat} {v:Value} (zz1_:Below w.heap.size w W) (zz2_:w.heap.size≤g):Below w.heap.size w (W.setCell ⟨g,j,none⟩ v):=below_set zz1_ zz2_
theorem blf_ {w:World} {g:Nat} {t:TypeId} {cs:Array Value} {p:Addr} {u:Value} (zz1_:w.heap[g]? = some (.cells cs t (0,0))) (zz2_:g≠p.block):(w.setCell p u).heap[g]? = some (.cells cs t (0,0)):=blk_far zz1_ zz2_ u
theorem blp_ {w:World} {g:Nat} {t:TypeId} {cs cs':Array Value} {i:Nat} {u:Value} (zz1_:w.heap[g]? = some (.cells cs t (0,0))) (zz2_:cs.setIfInBounds i u=cs'):(w.setCell ⟨g,i,none⟩ u).heap[g]? = some (.cells cs' t (0,0)):=blk_put zz1_ i u zz2_
theorem kef_ {w W:World} {g:Nat} {row:Option Nat} {p:Addr} {u:Value} (zz1_:KeepBut w W g row) (zz2_:w.heap.size≤p.block):KeepBut w (W.setCell p u) g row:=keep_far zz1_ zz2_ u
theorem bf {p q:Prop} (h:q) (f:q→p:=by intro h_;repeat' (first|(with_reducible exact h_)|(with_reducible first|apply below_alloc|apply pw_below_drewN|apply below_drew1|apply bsq_)|(with_reducible exact Aside0.out (by assumption))|exact h_)):p:=f h
theorem gf {w W:World} {q:Prop} (hg:GOK w) (h:q) (f:GOK w→q→GOK W:=by intro g_ h_;first|exact g_|exact GOK.below g_ (by repeat' (first|(with_reducible exact h_)|(with_reducible first|apply below_alloc|apply pw_below_drewN|apply below_drew1|apply bsq_)|(with_reducible exact Aside0.out (by assumption))|exact h_|exact Below.refl _ _))):GOK W:=f hg h
theorem kb {p q:Prop} (h:q) (f:q→p:=by intro h_;repeat' (first|(with_reducible exact h_)|(with_reducible first|apply KeepBut.set_|apply keep_drewN|apply keep_drew|apply keep_alloc|apply kef_)|(with_reducible exact Aside0.out (by assumption))|exact h_)):p:=f h
theorem kx {w0 w w1:World} {g g':Nat} {o:Obj} (hk:KeepBut w w1 g none) (h:Aside0 (w0.heap[g']? = some o)) (hne:Aside0 (g'≠g)) (f:w0.heap[g']? = some o→w.heap[g']? = some o:=by intro h_;(with_reducible repeat (first|apply blk_drewN|apply blk_drew|apply blk_alloc));exact h_):w1.heap[g']? = some o:=KeepBut.blk hk (f h.out) hne.out (by simp)
theorem kxf {w0 w w1:World} {g g':Nat} {o:Obj} {g1:Prop} (hk:KeepBut w w1 g none) (h:Aside0 (w0.heap[g']? = some o)) (h1:Aside0 g1) (hne:Aside0 (g'≠g)) (f:w0.heap[g']? = some o→g1→w.heap[g']? = some o:=by intro h_ g1_;repeat (first|(with_reducible first|exact h_|apply blk_drewN|apply blk_drew|apply blk_alloc|refine blk_far ?_ g1_ _)|exact h_)):w1.heap[g']? = some o:=KeepBut.blk hk (f h.out h1.out) hne.out (by simp)
theorem bbf {w0 W w':World} {g:Nat} {o:Obj} {g1:Prop} (h:Aside0 (w0.heap[g]? = some o)) (h1:Aside0 g1) (hb:Below W.heap.size W w') (f:w0.heap[g]? = some o→g1→W.heap[g]? = some o:=by intro h_ g1_;repeat (first|(with_reducible first|exact h_|apply blk_drewN|apply blk_drew|apply blk_alloc|refine blk_far ?_ g1_ _)|exact h_)):w'.heap[g]? = some o:=blk_below (f h.out h1.out) hb
theorem bp {p q:Prop} (h:q) (f:q→p:=by intro h_;repeat' (first|(with_reducible exact h_)|(with_reducible first|apply blk_drewN|apply blk_drew|apply blk_alloc|apply blp_|apply blf_)|(with_reducible exact Aside0.out (by assumption))|exact (rfl:(_:Array Value)=_))):p:=f h
theorem bc {w:World} {g t:Nat} {cs:Array Value} {v:Value} (h:Aside0 (w.heap[g]? = some (.cells cs t (0,0)))) (i:Nat) (hv:cs[i]? = some v:=by rfl):w.cell? ⟨g,i,none⟩=some v:=(blk_cell h.out i).trans hv
section
variable {α:Type} {d:Kd α} {e base b:Nat} {w W:World} {ok:Nat→Prop} {v:Value} {xs:List α}
theorem rp (h:d.R e w base ok v xs) (hne:∀ k,ok k→k≠b) (f:d.R e w base ok v xs→(∀ k,ok k→k≠b)→d.R e W base ok v xs:=by intro h_ n_;repeat' (first|(with_reducible exact h_)|(with_reducible first|apply Kd.R_alloc|apply Kd.R_drewN|apply Kd.R_drew|refine Kd.R_far ?_ n_ _)|exact h_)):d.R e W base ok v xs:=f h hne
theorem rf {t:Nat} {cs:Array Value} (h:Aside0 (d.R e w base ok v xs)) (hb:Aside0 (w.heap[b]? = some (.cells cs t (0,0)))) (ht:∀ q,q ∈ e :: d.E→q≠t:=by decide)
    (f:d.R e w base (fun k=>ok k∧k≠b) v xs→(∀ k,ok k∧k≠b→k≠b)→d.R e W base (fun k=>ok k∧k≠b) v xs:=by intro h_ n_;repeat' (first|(with_reducible exact h_)|(with_reducible first|apply Kd.R_alloc|apply Kd.R_drewN|apply Kd.R_drew|refine Kd.R_far ?_ n_ _)|exact h_)):d.R e W base ok v xs :=
  Kd.R_mono (f (Kd.R_types h.out hb.out ht) (fun _ hk=>hk.2)) (fun _ h=>h.1)
end
section
variable {P:Program} {md:Region.Mode} {ops:Array Oper} {Q:Exit→Act→World→Prop} {S:World→Prop} {ds:List Nat} {T:Bool×List (List Nat×List Nat)} {fuel:Nat} {l:Array Bool} {a a':Act} {w:World} {oi:Oper}
theorem o1 (i:Nat) (N:Option Tmp) (l':Array Bool) (HT:Aside0 (rtab md ops=T))
    (h:∀ K:Act→World→Prop,Shut (∀ a' w',S w'→(S w'→wpAnyLast P md ops Q S ds fuel l' a' w')→K a' w')→if Region.wanted oi (yielded ops a.tmps)=true then Oper.wp P oi a w K Q else K (a.put N undef) w)
    (hi:ops[i]? = some oi:=by rfl) (hN:oi.dst=N:=by rfl) (hc:(readyT T.2 l.toList == [i]&&l.toList.set i true==l'.toList)=true:=by kernel_rfl) (hd:i ∉ ds:=by decide):wpAnyLast P md ops Q S ds (fuel+1) l a w:=one_ l' hi hN (one_of HT.out hc) hd h
theorem bst {Kc:Act→World→Prop} (N t:Nat) (cs:Array Value) (h:∀ g,g=w.heap.size → ∀ w1,w1.heap[g]? = some (.cells cs t (0,0))→Below w.heap.size w w1→Kc (a.put oi.dst (.pointer (some ⟨g,0,none⟩))) w1)
    (hw:Region.wanted oi (yielded ops a.tmps)=true:=by rfl) (hd:oi.dst=some N:=by rfl) (hrun:(execOp a.eval oi).run P w = .ok (.value (.pointer (some ⟨w.heap.size,0,none⟩))) (w.alloc (.cells cs t (0,0))):=by first|(go_simp;done)|(go_simp;rfl)) :
    if Region.wanted oi (yielded ops a.tmps)=true then Oper.wp P oi a w Kc Q else Kc (a.put oi.dst undef) w:=box_step hw hd hrun h
theorem nm {a0:Act} {v:Value} (N:Tmp) (h:wpAnyLast P md ops Q S ds fuel l a' w) (hN:a=a0.put (some N) v:=by rfl) (ha:a0.put (some N) v=a':=by simp only [ups];rfl):wpAnyLast P md ops Q S ds fuel l a w:=norm_ (hN.trans ha) h
theorem nc (h:wpAnyLast P md ops Q S ds fuel l a' w) (ha:a=a':=by simp only [putAll,Act.put,List.setIfInBounds_toArray,List.set_cons_zero,List.set_cons_succ]):wpAnyLast P md ops Q S ds fuel l a w:=norm_ ha h
end
section
variable {c p1 p2 p3 p4 p5 p6 p7 p8 p9 p10 p11 p12 p13 p14 p15 p16 p17 p18 p19 p20 p21 p22 p23 p24:Prop}
theorem Ya9 (h1:p1) (h2:p2) (h3:p3) (h4:p4) (h5:p5) (h6:p6) (h7:p7) (h8:p8) (h9:p9) (h:Aside0 p1→Aside0 p2→Aside0 p3→Aside0 p4→Aside0 p5→Aside0 p6→Aside0 p7→Aside0 p8→Aside0 p9→c):c:=h ⟨h1⟩ ⟨h2⟩ ⟨h3⟩ ⟨h4⟩ ⟨h5⟩ ⟨h6⟩ ⟨h7⟩ ⟨h8⟩ ⟨h9⟩
theorem Ya10 (h1:p1) (h2:p2) (h3:p3) (h4:p4) (h5:p5) (h6:p6) (h7:p7) (h8:p8) (h9:p9) (h10:p10) (h:Aside0 p1→Aside0 p2→Aside0 p3→Aside0 p4→Aside0 p5→Aside0 p6→Aside0 p7→Aside0 p8→Aside0 p9→Aside0 p10→c):c:=h ⟨h1⟩ ⟨h2⟩ ⟨h3⟩ ⟨h4⟩ ⟨h5⟩ ⟨h6⟩ ⟨h7⟩ ⟨h8⟩ ⟨h9⟩ ⟨h10⟩
theorem Ya11 (h1:p1) (h2:p2) (h3:p3) (h4:p4) (h5:p5) (h6:p6) (h7:p7) (h8:p8) (h9:p9) (h10:p10) (h11:p11) (h:Aside0 p1→Aside0 p2→Aside0 p3→Aside0 p4→Aside0 p5→Aside0 p6→Aside0 p7→Aside0 p8→Aside0 p9→Aside0 p10→Aside0 p11→c):c:=h ⟨h1⟩ ⟨h2⟩ ⟨h3⟩ ⟨h4⟩ ⟨h5⟩ ⟨h6⟩ ⟨h7⟩ ⟨h8⟩ ⟨h9⟩ ⟨h10⟩ ⟨h11⟩
theorem Ya12 (h1:p1) (h2:p2) (h3:p3) (h4:p4) (h5:p5) (h6:p6) (h7:p7) (h8:p8) (h9:p9) (h10:p10) (h11:p11) (h12:p12) (h:Aside0 p1→Aside0 p2→Aside0 p3→Aside0 p4→Aside0 p5→Aside0 p6→Aside0 p7→Aside0 p8→Aside0 p9→Aside0 p10→Aside0 p11→Aside0 p12→c):c:=h ⟨h1⟩ ⟨h2⟩ ⟨h3⟩ ⟨h4⟩ ⟨h5⟩ ⟨h6⟩ ⟨h7⟩ ⟨h8⟩ ⟨h9⟩ ⟨h10⟩ ⟨h11⟩ ⟨h12⟩
theorem Ya13 (h1:p1) (h2:p2) (h3:p3) (h4:p4) (h5:p5) (h6:p6) (h7:p7) (h8:p8) (h9:p9) (h10:p10) (h11:p11) (h12:p12) (h13:p13) (h:Aside0 p1→Aside0 p2→Aside0 p3→Aside0 p4→Aside0 p5→Aside0 p6→Aside0 p7→Aside0 p8→Aside0 p9→Aside0 p10→Aside0 p11→Aside0 p12→Aside0 p13→c):c:=h ⟨h1⟩ ⟨h2⟩ ⟨h3⟩ ⟨h4⟩ ⟨h5⟩ ⟨h6⟩ ⟨h7⟩ ⟨h8⟩ ⟨h9⟩ ⟨h10⟩ ⟨h11⟩ ⟨h12⟩ ⟨h13⟩
theorem Ya14 (h1:p1) (h2:p2) (h3:p3) (h4:p4) (h5:p5) (h6:p6) (h7:p7) (h8:p8) (h9:p9) (h10:p10) (h11:p11) (h12:p12) (h13:p13) (h14:p14) (h:Aside0 p1→Aside0 p2→Aside0 p3→Aside0 p4→Aside0 p5→Aside0 p6→Aside0 p7→Aside0 p8→Aside0 p9→Aside0 p10→Aside0 p11→Aside0 p12→Aside0 p13→Aside0 p14→c):c:=h ⟨h1⟩ ⟨h2⟩ ⟨h3⟩ ⟨h4⟩ ⟨h5⟩ ⟨h6⟩ ⟨h7⟩ ⟨h8⟩ ⟨h9⟩ ⟨h10⟩ ⟨h11⟩ ⟨h12⟩ ⟨h13⟩ ⟨h14⟩
theorem Ya15 (h1:p1) (h2:p2) (h3:p3) (h4:p4) (h5:p5) (h6:p6) (h7:p7) (h8:p8) (h9:p9) (h10:p10) (h11:p11) (h12:p12) (h13:p13) (h14:p14) (h15:p15) (h:Aside0 p1→Aside0 p2→Aside0 p3→Aside0 p4→Aside0 p5→Aside0 p6→Aside0 p7→Aside0 p8→Aside0 p9→Aside0 p10→Aside0 p11→Aside0 p12→Aside0 p13→Aside0 p14→Aside0 p15→c):c:=h ⟨h1⟩ ⟨h2⟩ ⟨h3⟩ ⟨h4⟩ ⟨h5⟩ ⟨h6⟩ ⟨h7⟩ ⟨h8⟩ ⟨h9⟩ ⟨h10⟩ ⟨h11⟩ ⟨h12⟩ ⟨h13⟩ ⟨h14⟩ ⟨h15⟩
theorem Ya16 (h1:p1) (h2:p2) (h3:p3) (h4:p4) (h5:p5) (h6:p6) (h7:p7) (h8:p8) (h9:p9) (h10:p10) (h11:p11) (h12:p12) (h13:p13) (h14:p14) (h15:p15) (h16:p16) (h:Aside0 p1→Aside0 p2→Aside0 p3→Aside0 p4→Aside0 p5→Aside0 p6→Aside0 p7→Aside0 p8→Aside0 p9→Aside0 p10→Aside0 p11→Aside0 p12→Aside0 p13→Aside0 p14→Aside0 p15→Aside0 p16→c):c:=h ⟨h1⟩ ⟨h2⟩ ⟨h3⟩ ⟨h4⟩ ⟨h5⟩ ⟨h6⟩ ⟨h7⟩ ⟨h8⟩ ⟨h9⟩ ⟨h10⟩ ⟨h11⟩ ⟨h12⟩ ⟨h13⟩ ⟨h14⟩ ⟨h15⟩ ⟨h16⟩
theorem Ya17 (h1:p1) (h2:p2) (h3:p3) (h4:p4) (h5:p5) (h6:p6) (h7:p7) (h8:p8) (h9:p9) (h10:p10) (h11:p11) (h12:p12) (h13:p13) (h14:p14) (h15:p15) (h16:p16) (h17:p17) (h:Aside0 p1→Aside0 p2→Aside0 p3→Aside0 p4→Aside0 p5→Aside0 p6→Aside0 p7→Aside0 p8→Aside0 p9→Aside0 p10→Aside0 p11→Aside0 p12→Aside0 p13→Aside0 p14→Aside0 p15→Aside0 p16→Aside0 p17→c):c:=h ⟨h1⟩ ⟨h2⟩ ⟨h3⟩ ⟨h4⟩ ⟨h5⟩ ⟨h6⟩ ⟨h7⟩ ⟨h8⟩ ⟨h9⟩ ⟨h10⟩ ⟨h11⟩ ⟨h12⟩ ⟨h13⟩ ⟨h14⟩ ⟨h15⟩ ⟨h16⟩ ⟨h17⟩
theorem Ya18 (h1:p1) (h2:p2) (h3:p3) (h4:p4) (h5:p5) (h6:p6) (h7:p7) (h8:p8) (h9:p9) (h10:p10) (h11:p11) (h12:p12) (h13:p13) (h14:p14) (h15:p15) (h16:p16) (h17:p17) (h18:p18) (h:Aside0 p1→Aside0 p2→Aside0 p3→Aside0 p4→Aside0 p5→Aside0 p6→Aside0 p7→Aside0 p8→Aside0 p9→Aside0 p10→Aside0 p11→Aside0 p12→Aside0 p13→Aside0 p14→Aside0 p15→Aside0 p16→Aside0 p17→Aside0 p18→c):c:=h ⟨h1⟩ ⟨h2⟩ ⟨h3⟩ ⟨h4⟩ ⟨h5⟩ ⟨h6⟩ ⟨h7⟩ ⟨h8⟩ ⟨h9⟩ ⟨h10⟩ ⟨h11⟩ ⟨h12⟩ ⟨h13⟩ ⟨h14⟩ ⟨h15⟩ ⟨h16⟩ ⟨h17⟩ ⟨h18⟩
theorem Ya19 (h1:p1) (h2:p2) (h3:p3) (h4:p4) (h5:p5) (h6:p6) (h7:p7) (h8:p8) (h9:p9) (h10:p10) (h11:p11) (h12:p12) (h13:p13) (h14:p14) (h15:p15) (h16:p16) (h17:p17) (h18:p18) (h19:p19) (h:Aside0 p1→Aside0 p2→Aside0 p3→Aside0 p4→Aside0 p5→Aside0 p6→Aside0 p7→Aside0 p8→Aside0 p9→Aside0 p10→Aside0 p11→Aside0 p12→Aside0 p13→Aside0 p14→Aside0 p15→Aside0 p16→Aside0 p17→Aside0 p18→Aside0 p19→c):c:=h ⟨h1⟩ ⟨h2⟩ ⟨h3⟩ ⟨h4⟩ ⟨h5⟩ ⟨h6⟩ ⟨h7⟩ ⟨h8⟩ ⟨h9⟩ ⟨h10⟩ ⟨h11⟩ ⟨h12⟩ ⟨h13⟩ ⟨h14⟩ ⟨h15⟩ ⟨h16⟩ ⟨h17⟩ ⟨h18⟩ ⟨h19⟩
theorem Ya20 (h1:p1) (h2:p2) (h3:p3) (h4:p4) (h5:p5) (h6:p6) (h7:p7) (h8:p8) (h9:p9) (h10:p10) (h11:p11) (h12:p12) (h13:p13) (h14:p14) (h15:p15) (h16:p16) (h17:p17) (h18:p18) (h19:p19) (h20:p20) (h:Aside0 p1→Aside0 p2→Aside0 p3→Aside0 p4→Aside0 p5→Aside0 p6→Aside0 p7→Aside0 p8→Aside0 p9→Aside0 p10→Aside0 p11→Aside0 p12→Aside0 p13→Aside0 p14→Aside0 p15→Aside0 p16→Aside0 p17→Aside0 p18→Aside0 p19→Aside0 p20→c):c:=h ⟨h1⟩ ⟨h2⟩ ⟨h3⟩ ⟨h4⟩ ⟨h5⟩ ⟨h6⟩ ⟨h7⟩ ⟨h8⟩ ⟨h9⟩ ⟨h10⟩ ⟨h11⟩ ⟨h12⟩ ⟨h13⟩ ⟨h14⟩ ⟨h15⟩ ⟨h16⟩ ⟨h17⟩ ⟨h18⟩ ⟨h19⟩ ⟨h20⟩
theorem Ya21 (h1:p1) (h2:p2) (h3:p3) (h4:p4) (h5:p5) (h6:p6) (h7:p7) (h8:p8) (h9:p9) (h10:p10) (h11:p11) (h12:p12) (h13:p13) (h14:p14) (h15:p15) (h16:p16) (h17:p17) (h18:p18) (h19:p19) (h20:p20) (h21:p21) (h:Aside0 p1→Aside0 p2→Aside0 p3→Aside0 p4→Aside0 p5→Aside0 p6→Aside0 p7→Aside0 p8→Aside0 p9→Aside0 p10→Aside0 p11→Aside0 p12→Aside0 p13→Aside0 p14→Aside0 p15→Aside0 p16→Aside0 p17→Aside0 p18→Aside0 p19→Aside0 p20→Aside0 p21→c):c:=h ⟨h1⟩ ⟨h2⟩ ⟨h3⟩ ⟨h4⟩ ⟨h5⟩ ⟨h6⟩ ⟨h7⟩ ⟨h8⟩ ⟨h9⟩ ⟨h10⟩ ⟨h11⟩ ⟨h12⟩ ⟨h13⟩ ⟨h14⟩ ⟨h15⟩ ⟨h16⟩ ⟨h17⟩ ⟨h18⟩ ⟨h19⟩ ⟨h20⟩ ⟨h21⟩
theorem Ya22 (h1:p1) (h2:p2) (h3:p3) (h4:p4) (h5:p5) (h6:p6) (h7:p7) (h8:p8) (h9:p9) (h10:p10) (h11:p11) (h12:p12) (h13:p13) (h14:p14) (h15:p15) (h16:p16) (h17:p17) (h18:p18) (h19:p19) (h20:p20) (h21:p21) (h22:p22) (h:Aside0 p1→Aside0 p2→Aside0 p3→Aside0 p4→Aside0 p5→Aside0 p6→Aside0 p7→Aside0 p8→Aside0 p9→Aside0 p10→Aside0 p11→Aside0 p12→Aside0 p13→Aside0 p14→Aside0 p15→Aside0 p16→Aside0 p17→Aside0 p18→Aside0 p19→Aside0 p20→Aside0 p21→Aside0 p22→c):c:=h ⟨h1⟩ ⟨h2⟩ ⟨h3⟩ ⟨h4⟩ ⟨h5⟩ ⟨h6⟩ ⟨h7⟩ ⟨h8⟩ ⟨h9⟩ ⟨h10⟩ ⟨h11⟩ ⟨h12⟩ ⟨h13⟩ ⟨h14⟩ ⟨h15⟩ ⟨h16⟩ ⟨h17⟩ ⟨h18⟩ ⟨h19⟩ ⟨h20⟩ ⟨h21⟩ ⟨h22⟩
theorem Ya23 (h1:p1) (h2:p2) (h3:p3) (h4:p4) (h5:p5) (h6:p6) (h7:p7) (h8:p8) (h9:p9) (h10:p10) (h11:p11) (h12:p12) (h13:p13) (h14:p14) (h15:p15) (h16:p16) (h17:p17) (h18:p18) (h19:p19) (h20:p20) (h21:p21) (h22:p22) (h23:p23) (h:Aside0 p1→Aside0 p2→Aside0 p3→Aside0 p4→Aside0 p5→Aside0 p6→Aside0 p7→Aside0 p8→Aside0 p9→Aside0 p10→Aside0 p11→Aside0 p12→Aside0 p13→Aside0 p14→Aside0 p15→Aside0 p16→Aside0 p17→Aside0 p18→Aside0 p19→Aside0 p20→Aside0 p21→Aside0 p22→Aside0 p23→c):c:=h ⟨h1⟩ ⟨h2⟩ ⟨h3⟩ ⟨h4⟩ ⟨h5⟩ ⟨h6⟩ ⟨h7⟩ ⟨h8⟩ ⟨h9⟩ ⟨h10⟩ ⟨h11⟩ ⟨h12⟩ ⟨h13⟩ ⟨h14⟩ ⟨h15⟩ ⟨h16⟩ ⟨h17⟩ ⟨h18⟩ ⟨h19⟩ ⟨h20⟩ ⟨h21⟩ ⟨h22⟩ ⟨h23⟩
theorem Ya24 (h1:p1) (h2:p2) (h3:p3) (h4:p4) (h5:p5) (h6:p6) (h7:p7) (h8:p8) (h9:p9) (h10:p10) (h11:p11) (h12:p12) (h13:p13) (h14:p14) (h15:p15) (h16:p16) (h17:p17) (h18:p18) (h19:p19) (h20:p20) (h21:p21) (h22:p22) (h23:p23) (h24:p24) (h:Aside0 p1→Aside0 p2→Aside0 p3→Aside0 p4→Aside0 p5→Aside0 p6→Aside0 p7→Aside0 p8→Aside0 p9→Aside0 p10→Aside0 p11→Aside0 p12→Aside0 p13→Aside0 p14→Aside0 p15→Aside0 p16→Aside0 p17→Aside0 p18→Aside0 p19→Aside0 p20→Aside0 p21→Aside0 p22→Aside0 p23→Aside0 p24→c):c:=h ⟨h1⟩ ⟨h2⟩ ⟨h3⟩ ⟨h4⟩ ⟨h5⟩ ⟨h6⟩ ⟨h7⟩ ⟨h8⟩ ⟨h9⟩ ⟨h10⟩ ⟨h11⟩ ⟨h12⟩ ⟨h13⟩ ⟨h14⟩ ⟨h15⟩ ⟨h16⟩ ⟨h17⟩ ⟨h18⟩ ⟨h19⟩ ⟨h20⟩ ⟨h21⟩ ⟨h22⟩ ⟨h23⟩ ⟨h24⟩
end
end Go.Proofs.YtknagppkeodggaaDoor.P


namespace Go.Proofs
open Go.Shelf
def Tryd.lays206_ren:Go.Shelf.Ren:=⟨fun|206=>174|n=>n,fun|9=>9|4=>4|3=>3|n=>n,fun|n=>n⟩
theorem Tryd.lays206:Go.Proofs.Lays.n206 Tryd.prog Tryd.lays206_ren:={
  mixed:=by kernel_rfl
  f206:=Tryd.func174.trans (congrArg some (by kernel_rfl))
  t3:=Tryd.underlying3
  a3:=Tryd.isAgg3
  z3:=Tryd.sizeOf3
  v3:=Tryd.zeroValue3
  t4:=Tryd.underlying4
  a4:=Tryd.isAgg4
  z4:=Tryd.sizeOf4
  v4:=Tryd.zeroValue4
  t9:=Tryd.underlying9
  a9:=Tryd.isAgg9
  z9:=Tryd.sizeOf9
  v9:=Tryd.zeroValue9 }
open Go.RowKit Go.Lib in
/-- internal/stringslite.HasPrefix (what strings.HasPrefix calls). (LAID: no walk: one application.) -/
theorem Tryd.stringslite_HasPrefix (s p:ByteArray) (w:World) :
    Calls Tryd.prog 174 #[.string s,.string p] w fun e w'=>e = .returned (.bool (Lib.hasPrefix s.data.toList p.data.toList))∧w'=w:=Any.stringslite_HasPrefix Tryd.lays206 s p w
def Tryd.lays99_ren:Go.Shelf.Ren:=⟨fun|99=>139|206=>174|n=>n,fun|9=>9|4=>4|3=>3|n=>n,fun|n=>n⟩
theorem Tryd.lays99:Go.Proofs.Lays.n99 Tryd.prog Tryd.lays99_ren:={
  mixed:=by kernel_rfl
  f99:=Tryd.func139.trans (congrArg some (by kernel_rfl))
  f206:=Tryd.func174.trans (congrArg some (by kernel_rfl))
  t3:=Tryd.underlying3
  a3:=Tryd.isAgg3
  z3:=Tryd.sizeOf3
  v3:=Tryd.zeroValue3
  t4:=Tryd.underlying4
  a4:=Tryd.isAgg4
  z4:=Tryd.sizeOf4
  v4:=Tryd.zeroValue4
  t9:=Tryd.underlying9
  a9:=Tryd.isAgg9
  z9:=Tryd.sizeOf9
  v9:=Tryd.zeroValue9 }
open Go.RowKit Go.Lib in
/-- strings.HasPrefix: "HasPrefix reports whether the string s begins with prefix.": IT RETURNS 'Lib.hasPrefix s prefix'; the world is as it was. (LAID: no walk: one application.) -/
theorem Tryd.strings_HasPrefix (s p:ByteArray) (w:World) :
    Calls Tryd.prog 139 #[.string s,.string p] w fun e w'=>e = .returned (.bool (Lib.hasPrefix s.data.toList p.data.toList))∧w'=w:=Any.strings_HasPrefix Tryd.lays99 s p w
def Tryd.lays146_ren:Go.Shelf.Ren:=⟨fun|146=>83|221=>147|268=>181|138=>182|143=>183|195=>215|197=>216|218=>217|219=>218|260=>227|217=>228|225=>229|224=>230|267=>231|266=>242|314=>243|n=>n,fun|9=>9|31=>42|3=>3|4=>4|0=>0|105=>256|21=>21|5=>5|46=>213|119=>279|139=>282|138=>281|146=>283|51=>246|n=>n,fun|1=>0|3=>2|4=>3|n=>n⟩
theorem Tryd.lays146:Go.Proofs.Lays.n146 Tryd.prog Tryd.lays146_ren:={
  mixed:=by kernel_rfl
  f138:=Tryd.func182.trans (congrArg some (by kernel_rfl))
  f143:=Tryd.func183.trans (congrArg some (by kernel_rfl))
  f146:=Tryd.func83.trans (congrArg some (by kernel_rfl))
  f195:=Tryd.func215.trans (congrArg some (by kernel_rfl))
  f197:=Tryd.func216.trans (congrArg some (by kernel_rfl))
  f217:=Tryd.func228.trans (congrArg some (by kernel_rfl))
  f218:=Tryd.func217.trans (congrArg some (by kernel_rfl))
  f219:=Tryd.func218.trans (congrArg some (by kernel_rfl))
  f221:=Tryd.func147.trans (congrArg some (by kernel_rfl))
  f224:=Tryd.func230.trans (congrArg some (by kernel_rfl))
  f225:=Tryd.func229.trans (congrArg some (by kernel_rfl))
  f260:=Tryd.func227.trans (congrArg some (by kernel_rfl))
  f266:=Tryd.func242.trans (congrArg some (by kernel_rfl))
  f267:=Tryd.func231.trans (congrArg some (by kernel_rfl))
  f268:=Tryd.func181.trans (congrArg some (by kernel_rfl))
  f314:=Tryd.func243.trans (congrArg some (by kernel_rfl))
  t0:=Tryd.underlying0
  a0:=Tryd.isAgg0
  z0:=Tryd.sizeOf0
  v0:=Tryd.zeroValue0
  t3:=Tryd.underlying3
  a3:=Tryd.isAgg3
  z3:=Tryd.sizeOf3
  v3:=Tryd.zeroValue3
  t4:=Tryd.underlying4
  a4:=Tryd.isAgg4
  z4:=Tryd.sizeOf4
  v4:=Tryd.zeroValue4
  t5:=Tryd.underlying5
  a5:=Tryd.isAgg5
  z5:=Tryd.sizeOf5
  v5:=Tryd.zeroValue5
  t9:=Tryd.underlying9
  a9:=Tryd.isAgg9
  z9:=Tryd.sizeOf9
  v9:=Tryd.zeroValue9
  t21:=Tryd.underlying21
  a21:=Tryd.isAgg21
  z21:=Tryd.sizeOf21
  v21:=Tryd.zeroValue21
  t31:=Tryd.underlying42
  a31:=Tryd.isAgg42
  z31:=Tryd.sizeOf42
  v31:=Tryd.zeroValue42
  t46:=Tryd.underlying213
  a46:=Tryd.isAgg213
  z46:=Tryd.sizeOf213
  v46:=Tryd.zeroValue213
  t51:=Tryd.underlying246
  a51:=Tryd.isAgg246
  z51:=Tryd.sizeOf246
  v51:=Tryd.zeroValue246
  t105:=Tryd.underlying256
  a105:=Tryd.isAgg256
  z105:=Tryd.sizeOf256
  v105:=Tryd.zeroValue256
  t119:=Tryd.underlying279
  a119:=Tryd.isAgg279
  z119:=Tryd.sizeOf279
  t138:=Tryd.underlying281
  a138:=Tryd.isAgg281
  z138:=Tryd.sizeOf281
  v138:=Tryd.zeroValue281
  t139:=Tryd.underlying282
  a139:=Tryd.isAgg282
  z139:=Tryd.sizeOf282
  v139:=Tryd.zeroValue282
  t146:=Tryd.underlying283
  a146:=Tryd.isAgg283
  z146:=Tryd.sizeOf283
  v146:=Tryd.zeroValue283
  g1:=by kernel_rfl
  g3:=by kernel_rfl
  g4:=by kernel_rfl }
open Go.RowKit Go.Lib in
/-- strings.Split. (LAID: no walk: one application.) -/
theorem Tryd.strings_Split (s sep:ByteArray) (m:Int) (w:World) (hs:s.size<4294967281) (hm:w.cell? ⟨0,0,none⟩=some (.int .i64 m)) (h1:1≤sep.size) :
    Calls Tryd.prog 83 #[.string s,.string sep] w fun e w' =>
      e = .returned (.slice (some ⟨w.heap.size,0,none⟩) (Lib.countB s sep+1) (Lib.countB s sep+1))∧w'=w.alloc (.cells ((Lib.splitB sep 0 (Lib.countB s sep) s).map Value.string).toArray 9):=Any.strings_Split Tryd.lays146 (by kernel_rfl) s sep m w hs hm h1
end Go.Proofs


namespace Go.Proofs.YtknagppkeodggaaDoor.Ow
open Go Go.Proofs.YtknagppkeodggaaDoorW.PrintWords

theorem reps_map {α:Type} (enc:α→Value) (h1:∀ x,(enc x).oneCell'=true) (w:World) (base:Nat) (ok:Nat→Prop) (xs:List α):Reps ((Kd.scalar enc h1).M w base ok) 1 xs (xs.map enc):=by
  refine ⟨by rw [List.length_map,Nat.mul_one],fun j p hj => ?_⟩
  have hl:j<xs.length:=(List.getElem?_eq_some_iff.1 hj).1
  show ((xs.map enc).drop (j*1)).take 1 = [enc p]
  rw [Nat.mul_one,List.drop_eq_getElem_cons (by rw [List.length_map];exact hl),List.take_succ_cons,List.take_zero,List.getElem_map]
  have:=(List.getElem?_eq_some_iff.1 hj).2
  rw [this]

/-- A new block of cells that are so encoded is a row of one's own. -/
theorem R_new_block {α:Type} (enc:α→Value) (h1:∀ x,(enc x).oneCell'=true) (e:Nat) (w:World) (xs:List α) (hl:xs.length≤maxLen) :
    Kd.R (Kd.scalar enc h1) e (w.alloc (.cells (xs.map enc).toArray e)) w.heap.size (fun _=>True) (.slice (some ⟨w.heap.size,0,none⟩) xs.length xs.length) xs:=by
  refine ⟨fun _ _=>trivial,xs.map enc,⟨by rw [List.length_map];exact (Nat.mul_one _).symm,.inr ⟨w.heap.size,xs.length,(xs.map enc).toArray,rfl,Nat.le_refl _,?_,Nat.le_refl _,hl,?_,?_⟩⟩,reps_map enc h1 _ _ _ _⟩
  · exact heap_alloc_new w _
  · show (xs.map enc).toArray.size = xs.length * 1
    simp
  · show (xs.map enc).toArray.toList.take (xs.length * 1) = xs.map enc
    rw [Nat.mul_one]
    exact List.take_of_length_le (by simp)
end Go.Proofs.YtknagppkeodggaaDoor.Ow


namespace Go.Proofs.YtknagppkeodggaaDoor.Pure
open Go Go.RowKit Go.Proofs.YtknagppkeodggaaDoorW.PrintWords Go.Proofs.YtknagppkeodggaaDoorW.PrintLast
set_option linter.unusedVariables false
set_option linter.unusedSimpArgs false

theorem w64 {n:Int} (h0 : -9223372036854775808≤n) (h1:n≤9223372036854775807):wrap64 n=n:=by
  unfold wrap64
  omega
theorem u64w (n:Int):IntKind.u64.wrap n=n % 18446744073709551616:=by
  simp [IntKind.wrap,IntKind.bits,IntKind.signed]
theorem u64_in {n:Int} (h0:0≤n) (h1:n<18446744073709551616):IntKind.u64.wrap n=n:=by
  rw [u64w]
  exact Int.emod_eq_of_lt h0 h1
theorem u64_range (n:Int):0≤IntKind.u64.wrap n∧IntKind.u64.wrap n<18446744073709551616:=by
  rw [u64w]
  omega

theorem size_toList (s:ByteArray):s.data.toList.length=s.size:=rfl
theorem bt_getD (s:ByteArray) (i:Nat):bt s (i:Int)=((s.data.toList.getD i 0).toNat:Int):=by
  unfold bt
  simp only [Int.toNat_natCast]
  split
  · rename_i h
    rw [List.getD_eq_getElem?_getD,List.getElem?_eq_getElem (by exact h)]
    rfl
  · rename_i h
    rw [List.getD_eq_getElem?_getD,List.getElem?_eq_none (by exact Nat.le_of_not_lt h)]
    rfl
theorem bt0 (s:ByteArray) (i:Int):0≤bt s i:=(bt_range s i).1
theorem bt1 (s:ByteArray) (i:Int):bt s i≤255:=(bt_range s i).2

theorem ba_ext {s t:ByteArray} (h:s.data.toList=t.data.toList):s=t:=by
  cases s with
  | mk a => cases t with
    | mk b=>exact congrArg ByteArray.mk (Array.toList_inj.1 h)
theorem data_append (s t:ByteArray):(s++t).data.toList=s.data.toList++t.data.toList:=by
  simp [ByteArray.data_append]
theorem son_data (xs:List Int):(strOfNums xs).data.toList=xs.map fun n=>UInt8.ofNat n.toNat:=by
  have:=strOfNums_data xs
  exact this
theorem son_size (xs:List Int):(strOfNums xs).size=xs.length:=by
  rw [←size_toList,son_data,List.length_map]
theorem son_append (xs ys:List Int):strOfNums (xs++ys)=strOfNums xs++strOfNums ys:=by
  apply ba_ext
  rw [data_append,son_data,son_data,son_data,List.map_append]
theorem ba_empty:(⟨#[]⟩:ByteArray).data.toList = []:=rfl
theorem ba_append_empty (s:ByteArray):s++(⟨#[]⟩:ByteArray)=s:=ba_ext (by rw [data_append,ba_empty,List.append_nil])
theorem ba_empty_append (s:ByteArray):(⟨#[]⟩:ByteArray)++s=s:=ba_ext (by rw [data_append,ba_empty,List.nil_append])

/-- One number of rounds for what each wants some. -/
theorem ev_of {α:Type} {g:Nat→Option α} {r:α} (K:Nat) (h:∀ k,K<k→g k=some r):Ev g r:=⟨K+1,fun k hk=>h k (by omega)⟩

theorem bytesOf_len (s:ByteArray):(bytesOf s).length=s.size:=by
  unfold bytesOf
  rw [List.length_map,size_toList]
theorem son_bytesOf (s:ByteArray):strOfNums (bytesOf s)=s:=by
  apply ba_ext
  rw [son_data,bytesOf,List.map_map]
  have:((fun n:Int=>UInt8.ofNat n.toNat)∘fun b:UInt8=>(b.toNat:Int))=id:=by
    funext b
    simp
  rw [this,List.map_id]
theorem ba_assoc (a b c:ByteArray):a++b++c=a++(b++c):=ba_ext (by simp only [data_append,List.append_assoc])

section
variable {α β:Type}
theorem Ev.pos {c:Prop} [Decidable c] {A B:Nat→Option α} {r:α} (h:c) (e:Ev A r):Ev (fun k=>if c then A k else B k) r:=Ev.congr (fun k=>by rw [if_pos h]) e
theorem Ev.neg {c:Prop} [Decidable c] {A B:Nat→Option α} {r:α} (h:¬ c) (e:Ev B r):Ev (fun k=>if c then A k else B k) r:=Ev.congr (fun k=>by rw [if_neg h]) e
theorem Ev.both {c:Prop} [Decidable c] {A B:Nat→Option α} {r s:α} (h1:c→Ev A r) (h2:¬ c→Ev B s):Ev (fun k=>if c then A k else B k) (if c then r else s):=by
  by_cases h:c
  · rw [if_pos h]
    exact Ev.pos h (h1 h)
  · rw [if_neg h]
    exact Ev.neg h (h2 h)
theorem Ev.sb {y:β} {f:Nat→β→Option α} {r:α} (e:Ev (fun k=>f k y) r):Ev (fun k=>(some y).bind (f k)) r:=e
/-- With rounds enough, something comes out of which Q holds. -/
def Evs (g:Nat→Option α) (Q:α→Prop):Prop:=∃ r,Q r∧Ev g r
theorem Evs.of {g:Nat→Option α} {Q:α→Prop} {r:α} (h:Ev g r) (hq:Q r):Evs g Q:=⟨r,hq,h⟩
theorem Evs.ret {Q:α→Prop} {r:α} (hq:Q r):Evs (fun _=>some r) Q:=⟨r,hq,Ev.now r⟩
theorem Evs.mono {g:Nat→Option α} {Q R:α→Prop} (h:Evs g Q) (hq:∀ r,Q r→R r):Evs g R:=by
  obtain ⟨r,a,b⟩:=h
  exact ⟨r,hq r a,b⟩
theorem Evs.step {g f:Nat→Option α} {Q:α→Prop} (h:∀ k,g (k+1)=f k) (e:Evs f Q):Evs g Q:=by
  obtain ⟨r,a,b⟩:=e
  exact ⟨r,a,Ev.step h b⟩
theorem Evs.congr {g f:Nat→Option α} {Q:α→Prop} (h:∀ k,g k=f k) (e:Evs f Q):Evs g Q:=by
  obtain ⟨r,a,b⟩:=e
  exact ⟨r,a,Ev.congr h b⟩
theorem Evs.bind {g:Nat→Option α} {f:Nat→α→Option β} {Q:α→Prop} {R:β→Prop} (e:Evs g Q) (h:∀ a,Q a→Evs (fun k=>f k a) R):Evs (fun k=>(g k).bind (f k)) R:=by
  obtain ⟨a,ha,ea⟩:=e
  obtain ⟨r,hr,er⟩:=h a ha
  exact ⟨r,hr,Ev.bind ea er⟩
theorem Evs.sb {y:β} {f:Nat→β→Option α} {Q:α→Prop} (e:Evs (fun k=>f k y) Q):Evs (fun k=>(some y).bind (f k)) Q:=e
theorem Evs.pos {c:Prop} [Decidable c] {A B:Nat→Option α} {Q:α→Prop} (h:c) (e:Evs A Q):Evs (fun k=>if c then A k else B k) Q:=Evs.congr (fun k=>by rw [if_pos h]) e
theorem Evs.neg {c:Prop} [Decidable c] {A B:Nat→Option α} {Q:α→Prop} (h:¬ c) (e:Evs B Q):Evs (fun k=>if c then A k else B k) Q:=Evs.congr (fun k=>by rw [if_neg h]) e
theorem Evs.ite {c:Prop} [Decidable c] {A B:Nat→Option α} {Q:α→Prop} (h1:c→Evs A Q) (h2:¬ c→Evs B Q):Evs (fun k=>if c then A k else B k) Q:=by
  by_cases h:c
  · exact Evs.pos h (h1 h)
  · exact Evs.neg h (h2 h)
theorem Evs.rounds {g:Nat→Option α} {Q:α→Prop} (h:Evs g Q):∃ k r,Q r∧g k=some r:=by
  obtain ⟨r,hq,e⟩:=h
  obtain ⟨k,hk⟩:=Ev.rounds e
  exact ⟨k,r,hq,hk⟩
end

theorem rd_eq {α:Type} (d:α) {l:List α} {i:Nat} (h:i<l.length):rdOf d l (i:Int)=l[i]:=by
  unfold rdOf
  rw [Int.toNat_natCast,List.getD_eq_getElem?_getD,List.getElem?_eq_getElem h]
  rfl
end Go.Proofs.YtknagppkeodggaaDoor.Pure


namespace Go.Proofs.YtknagppkeodggaaDoor.Pure
open Go Go.RowKit Go.Proofs.YtknagppkeodggaaDoor.P Go.Proofs.YtknagppkeodggaaDoorW.PrintWords Go.Proofs.YtknagppkeodggaaDoorW.PrintLast
set_option linter.unusedVariables false
set_option linter.unusedSimpArgs false

abbrev less:=Op.bytesLess
theorem less_irrefl:∀ a:List UInt8,less a a=false
  | []=>by simp [less,Op.bytesLess]
  | a :: x => by
    have:=less_irrefl x
    simpa [less,Op.bytesLess] using this
theorem less_trans : ∀ a b c : List UInt8, less a b = true → less b c = true → less a c = true
  | [],[],c,h1,h2=>by simp [less,Op.bytesLess] at h1
  | [],_ :: _,[],h1,h2=>by simp [less,Op.bytesLess] at h2
  | [],_ :: _,_ :: _,h1,h2=>by simp [less,Op.bytesLess]
  | _ :: _,[],c,h1,h2=>by simp [less,Op.bytesLess] at h1
  | _ :: _,_ :: _,[],h1,h2=>by simp [less,Op.bytesLess] at h2
  | a :: x, b :: y, c :: z, h1, h2 => by
    have ih:=less_trans x y z
    simp only [less,Op.bytesLess] at h1 h2 ih ⊢
    by_cases e1:a=b
    · subst e1
      by_cases e2:a=c
      · subst e2
        simp at h1 h2 ⊢
        exact ih h1 h2
      · simp [e2] at h1 h2 ⊢
        exact h2
    · by_cases e2 : b = c
      · subst e2
        simp [e1] at h1 h2 ⊢
        exact h1
      · simp [e1, e2] at h1 h2
        have h3:a<c:=UInt8.lt_trans h1 h2
        have h4:a≠c:=fun e=>by
          subst e
          simp only [UInt8.lt_iff_toNat_lt] at h1 h2
          omega
        simp [h3,h4]
theorem less_or {a b:List UInt8} (h:less a b=false) (hn:a≠b):less b a=true:=by
  have:=less_turn a b
  rw [show Op.bytesLess a b=false from h,show (a==b)=false from beq_eq_false_iff_ne.2 hn] at this
  simpa using this.symm
theorem cmp_less : ∀ a b : List UInt8, Lib.compareBytes a b = if a = b then 0 else if less a b = true then -1 else 1
  | [],[]=>by simp [Lib.compareBytes]
  | [],_ :: _=>by simp [Lib.compareBytes,less,Op.bytesLess]
  | _ :: _,[]=>by simp [Lib.compareBytes,less,Op.bytesLess]
  | a :: x, b :: y => by
    have ih:=cmp_less x y
    simp only [Lib.compareBytes,less,Op.bytesLess] at ih ⊢
    by_cases e:a=b
    · subst e
      have hn:¬ a<a:=by simp only [UInt8.lt_iff_toNat_lt];omega
      rw [if_neg hn,if_neg hn,ih]
      simp
    · by_cases h1 : a < b
      · simp [e,h1]
      · have h2 : b < a := by
          have:a.toNat≠b.toNat:=fun e'=>e (UInt8.toNat_inj.1 e')
          simp only [UInt8.lt_iff_toNat_lt] at h1 ⊢; omega
        simp [e,h1,h2]
theorem cmp_pos {a b : List UInt8} : Lib.compareBytes a b > 0 ↔ less b a = true := by
  rw [cmp_less]
  by_cases e:a=b
  · subst e
    rw [if_pos rfl,less_irrefl]
    simp
  · rw [if_neg e]
    by_cases h:less a b=true
    · rw [if_pos h]
      constructor
      · intro h'
        omega
      · intro h'
        have:=less_trans _ _ _ h h'
        rw [less_irrefl] at this
        cases this
    · rw [if_neg h]
      exact ⟨fun _=>less_or (Bool.eq_false_iff.2 h) e,fun _=>by decide⟩
theorem cmp_zero {a b:List UInt8}:Lib.compareBytes a b=0 ↔ a=b:=by
  rw [cmp_less]
  by_cases e:a=b
  · simp [e]
  · rw [if_neg e]
    refine ⟨fun h => ?_,fun h=>absurd h e⟩
    split at h <;> simp at h

end Go.Proofs.YtknagppkeodggaaDoor.Pure


namespace Go.Proofs.YtknagppkeodggaaDoor.Pure
open Go Go.RowKit Go.Proofs.YtknagppkeodggaaDoor.P Go.Proofs.YtknagppkeodggaaDoorW.PrintWords Go.Proofs.YtknagppkeodggaaDoorW.PrintLast
set_option linter.unusedVariables false
set_option linter.unusedSimpArgs false

abbrev Entry:=S27
theorem getD_nat {α:Type} (d:α) {l:List α} {i:Nat} (h:i<l.length):l.getD (i:Int).toNat d=l[i]:=by
  rw [Int.toNat_natCast,List.getD_eq_getElem?_getD,List.getElem?_eq_getElem h]
  rfl
theorem rdE_eq {l:List Entry} {i:Nat} (h:i<l.length):rd_T27 l (i:Int)=l[i]:=getD_nat _ h

end Go.Proofs.YtknagppkeodggaaDoor.Pure


namespace Go.Proofs.YtknagppkeodggaaDoor.Pure
open Go Go.RowKit Go.Proofs.YtknagppkeodggaaDoor.P Go.Proofs.YtknagppkeodggaaDoorW.PrintWords Go.Proofs.YtknagppkeodggaaDoorW.PrintLast
set_option linter.unusedVariables false
set_option linter.unusedSimpArgs false

def ltE (a b:Entry):Prop:=less a.f0.toList b.f0.toList=true
theorem ltE_irrefl (a:Entry):¬ ltE a a:=fun h=>by
  unfold ltE at h
  rw [less_irrefl] at h
  cases h
theorem ltE_trans {a b c:Entry} (h1:ltE a b) (h2:ltE b c):ltE a c:=less_trans _ _ _ h1 h2
/-- Two ascending rows with the same members are one. -/
theorem asc_unique : ∀ a b : List Entry, a.Pairwise ltE → b.Pairwise ltE → (∀ x, x ∈ a ↔ x ∈ b) → a = b
  | [],[],_,_,_=>rfl
  | [], y :: b, _, _, h => by
    have:=(h y).2 List.mem_cons_self
    simp at this
  | x :: a, [], _, _, h => by
    have:=(h x).1 List.mem_cons_self
    simp at this
  | x :: a, y :: b, h1, h2, h => by
    obtain ⟨h1a,h1b⟩:=List.pairwise_cons.1 h1
    obtain ⟨h2a,h2b⟩:=List.pairwise_cons.1 h2
    have hxy:x=y:=by
      rcases List.mem_cons.1 ((h x).1 List.mem_cons_self) with e|e
      · exact e
      · rcases List.mem_cons.1 ((h y).2 List.mem_cons_self) with e2 | e2
        · exact e2.symm
        · exact absurd (ltE_trans (h1a y e2) (h2a x e)) (ltE_irrefl x)
    subst hxy
    congr 1
    refine asc_unique a b h1b h2b (fun z=>⟨fun hz => ?_,fun hz => ?_⟩)
    · rcases List.mem_cons.1 ((h z).1 (List.mem_cons_of_mem _ hz)) with e | e
      · subst e
        exact absurd (h1a z hz) (ltE_irrefl z)
      · exact e
    · rcases List.mem_cons.1 ((h z).2 (List.mem_cons_of_mem _ hz)) with e | e
      · subst e
        exact absurd (h2a z hz) (ltE_irrefl z)
      · exact e

end Go.Proofs.YtknagppkeodggaaDoor.Pure


namespace Go.Proofs.YtknagppkeodggaaDoor.Pure
open Go Go.RowKit Go.Proofs.YtknagppkeodggaaDoor.P Go.Proofs.YtknagppkeodggaaDoorW.PrintWords Go.Proofs.YtknagppkeodggaaDoorW.PrintLast
set_option linter.unusedVariables false
set_option linter.unusedSimpArgs false

def insE (x:S27):List S27→List S27
  | [] => [x]
  | y :: r=>if less x.f0.toList y.f0.toList=true then x :: y :: r else y :: insE x r
def sortE:List S27→List S27
  | [] => []
  | x :: r=>insE x (sortE r)
theorem insE_perm (x:S27):∀ l,(insE x l).Perm (x :: l)
  | []=>List.Perm.refl _
  | y :: r => by
    unfold insE
    split
    · exact List.Perm.refl _
    · exact ((insE_perm x r).cons y).trans (List.Perm.swap x y r)
theorem sortE_perm:∀ l,(sortE l).Perm l
  | []=>List.Perm.refl _
  | x :: r=>(insE_perm x (sortE r)).trans ((sortE_perm r).cons x)
theorem insE_asc (x:S27):∀ l:List S27,l.Pairwise ltE→(∀ y ∈ l,x.f0.toList≠y.f0.toList)→(insE x l).Pairwise ltE
  | [],_,_=>List.pairwise_singleton _ _
  | y :: r, h, hx => by
    obtain ⟨h1,h2⟩:=List.pairwise_cons.1 h
    unfold insE
    split
    · rename_i hl
      refine List.pairwise_cons.2 ⟨fun z hz => ?_,h⟩
      rcases List.mem_cons.1 hz with rfl|hz
      · exact hl
      · exact ltE_trans hl (h1 z hz)
    · rename_i hl
      refine List.pairwise_cons.2 ⟨fun z hz => ?_,insE_asc x r h2 (fun z hz=>hx z (List.mem_cons_of_mem _ hz))⟩
      rcases List.mem_cons.1 ((insE_perm x r).mem_iff.1 hz) with rfl|hz
      · exact less_or (Bool.eq_false_iff.2 hl) (hx y List.mem_cons_self)
      · exact h1 z hz
/-- No two paths alike. -/
def Apart (l:List S27):Prop:=l.Pairwise fun x y=>x.f0.toList≠y.f0.toList
instance (l:List S27):Decidable (Apart l):=inferInstanceAs (Decidable (l.Pairwise fun x y=>x.f0.toList≠y.f0.toList))
theorem sortE_asc:∀ l:List S27,Apart l→(sortE l).Pairwise ltE
  | [],_=>List.Pairwise.nil
  | x :: r, h => by
    obtain ⟨h1,h2⟩:=List.pairwise_cons.1 h
    exact insE_asc x _ (sortE_asc r h2) (fun y hy=>h1 y ((sortE_perm r).mem_iff.1 hy))
/-- What is a row's own order, once its paths ascend. -/
theorem sortE_of {l d:List S27} (ha:Apart l) (hp:d.Perm l) (hs:d.Pairwise fun x y=>less y.f0.toList x.f0.toList=false):d=sortE l:=by
  have hd:Apart d:=by
    unfold Apart at ha ⊢
    exact (hp.pairwise_iff (fun h=>Ne.symm h)).2 ha
  refine asc_unique _ _ ?_ (sortE_asc l ha) (fun x=>(hp.mem_iff).trans ((sortE_perm l).mem_iff).symm)
  exact List.Pairwise.imp₂ (fun x y h1 h2=>less_or h1 (Ne.symm h2)) hs hd

end Go.Proofs.YtknagppkeodggaaDoor.Pure


namespace Go.Proofs.YtknagppkeodggaaDoor.Pure
open Go Go.RowKit Go.Proofs.YtknagppkeodggaaDoorW.PrintWords Go.Proofs.YtknagppkeodggaaDoorW.PrintLast
set_option linter.unusedVariables false
set_option linter.unusedSimpArgs false

/-- p lies under d. -/
def begins (d p:ByteArray):Bool:=Lib.hasPrefix p.data.toList (d.data.toList ++ [47])
theorem begins_iff (d p:ByteArray):begins d p=true ↔ (d.size<p.size∧p.extract 0 d.size=d∧bt p (d.size:Int)=47):=by
  unfold begins Lib.hasPrefix
  rw [List.isPrefixOf_iff_prefix,List.prefix_iff_eq_take]
  have hd:d.data.toList.length=d.size:=size_toList d
  have hp:p.data.toList.length=p.size:=size_toList p
  have hx:(p.extract 0 d.size).data.toList=p.data.toList.take d.size:=by
    rw [ByteArray.data_extract,Array.toList_extract,List.extract_eq_take_drop,List.drop_zero,Nat.sub_zero]
  constructor
  · intro h
    have hl:=congrArg List.length h
    simp only [List.length_append,List.length_take,List.length_cons,List.length_nil] at hl
    have hlt:d.size<p.size:=by omega
    rw [List.length_append,List.length_singleton,List.take_succ_eq_append_getElem (by omega)] at h
    obtain ⟨h1,h2⟩:=List.append_inj' h (by simp)
    refine ⟨hlt,ba_ext (by rw [hx,h1,hd]),?_⟩
    rw [bt_getD,List.getD_eq_getElem?_getD,List.getElem?_eq_getElem (by omega)]
    have h3:=(List.cons.inj h2).1
    simp only [hd] at h3
    simp [←h3]
  · rintro ⟨h1, h2, h3⟩
    rw [List.length_append,List.length_singleton,List.take_succ_eq_append_getElem (by omega)]
    rw [bt_getD,List.getD_eq_getElem?_getD,List.getElem?_eq_getElem (by omega)] at h3
    have h4:p.data.toList.take d.size=d.data.toList:=by rw [←hx,h2]
    simp only [hd]
    rw [h4]
    congr 1
    congr 1
    apply UInt8.toNat_inj.1
    have:((p.data.toList[d.size]'(by omega)).toNat:Int)=47:=by simpa using h3
    have h5:(p.data.toList[d.size]'(by omega)).toNat=47:=by omega
    rw [h5]
    rfl

end Go.Proofs.YtknagppkeodggaaDoor.Pure


namespace Go.Proofs.YtknagppkeodggaaDoor.Ow
open Go Go.Proofs.YtknagppkeodggaaDoorW.PrintWords

/-- A reading at type t is a value of kind d, of which S holds. -/
def Opens (P : Program) (t : TypeId) {α : Type} (d : Kd α) (S : α → Prop) : Prop :=
  ∀ (H : Type) (enc : TypeId × Value → H) (w : World) (fuel : Nat) (cs : List Value) (x : DataW H × List MemPlace),
    DataW.trod enc P w 0 (fun _=>true) true fuel t cs=some x→(∀ n ∈ x.1.weights P t,n≤140737488351232) → ∃ y:α,d.K w y cs∧S y

theorem opens_string {P:Program} {t:TypeId} (ht:P.underlying t=some .string):Opens P t Kd.string (fun s=>s.size≤140737488351232):=by
  intro H enc w fuel cs x h hw
  obtain ⟨s,rfl,rfl,_⟩:=DataW.trod_string ht h
  refine ⟨s,rfl,?_⟩
  have:=hw s.data.toList.length (by simp [DataW.weights])
  simpa using this

theorem opens_int {P:Program} {t:TypeId} {k:IntKind} (ht:P.underlying t=some (.int k)):Opens P t (Kd.int k) (fun n=>(Lit.int k n).wf=true):=by
  intro H enc w fuel cs x h _
  obtain ⟨n,rfl,rfl,hn⟩:=DataW.trod_int ht h
  exact ⟨n,rfl,hn⟩

theorem opens_bool {P:Program} {t:TypeId} (ht:P.underlying t=some .bool):Opens P t Kd.bool (fun _=>True):=by
  intro H enc w fuel cs x h _
  obtain ⟨b,rfl,rfl⟩:=DataW.trod_bool ht h
  exact ⟨b,rfl,trivial⟩

theorem mem_weightsAll {H:Type} {P:Program} {e:TypeId} {d:DataW H}:∀ {l:List (DataW H)},d ∈ l → ∀ n ∈ d.weights P e,n ∈ DataW.weightsAll P e l
  | [],h,_,_=>by cases h
  | x :: r, h, n, hn => by
    simp only [DataW.weightsAll,List.mem_append]
    rcases List.mem_cons.1 h with rfl|h
    · exact .inl hn
    · exact .inr (mem_weightsAll h n hn)

theorem opens_slice {P : Program} {t e : TypeId} {α : Type} {d : Kd α} {S : α → Prop} {B : Nat} (ht : P.underlying t = some (.slice e)) (hc : P.cellsOf e = d.sz) (hB : P.bytesOf e = B) (he : Opens P e d S) :
    Opens P t (Kd.slice e d) (fun xs=>xs.length*B≤140737488351232 ∧ ∀ x ∈ xs,S x):=by
  intro H enc w fuel cs x h hw
  rcases DataW.trod_slice ht h with ⟨rfl,rfl⟩|⟨a,len,cap,elems,rest,n,_,rfl,rfl,_,hl,hm,hlen,hel,_,_⟩
  · refine ⟨[],⟨none,0,rfl,Nat.le_refl _,rfl,by simp,fun h=>by simp at h⟩,by simp,by simp⟩
  · have hw1 : (elems.length + rest.length) * B ≤ 140737488351232 := by
      have:=hw ((elems.length+rest.length)*B) (by simp [DataW.weights,ht,hB])
      exact this
    have key:∀ i,i<len → ∃ y:α,(∃ c,c.length=d.sz∧d.K w y c ∧ ∀ j u,c[j]? = some u→w.cell? (a.add (i*d.sz+j))=some u)∧S y:=by
      intro i hi
      have hi':i<elems.length:=by omega
      have hb:=hel i hi
      rw [List.getElem?_eq_getElem hi'] at hb
      obtain ⟨c,hc1,hc2⟩:=Option.bind_eq_some_iff.1 hb
      obtain ⟨y,hy,hS⟩:=he H enc w n c _ hc2 (fun m hm=>by
        refine hw m ?_
        simp only [DataW.weights,ht,List.mem_cons,List.mem_append]
        refine .inr (.inl (mem_weightsAll (d:=elems[i].1) ?_ m hm))
        exact List.mem_map.2 ⟨elems[i],List.getElem_mem hi',rfl⟩)
      obtain ⟨_,hcl,hcell⟩:=World.cells?_some hc1
      refine ⟨y,⟨c,by rw [hcl,hc],hy,fun j u hu => ?_⟩,hS⟩
      have hj:j<P.cellsOf e:=by
        rw [←hcl]
        exact (List.getElem?_eq_some_iff.1 hu).1
      have:=hcell j hj
      rw [hu,Go.Deep.add_add,hc] at this
      exact this
    obtain ⟨f,hf⟩:∃ f:Fin len→α,∀ i:Fin len,(∃ c,c.length=d.sz∧d.K w (f i) c ∧ ∀ j u,c[j]? = some u→w.cell? (a.add (i.val*d.sz+j))=some u)∧S (f i) :=
      ⟨fun i=>Classical.choose (key i.val i.isLt),fun i=>Classical.choose_spec (key i.val i.isLt)⟩
    refine ⟨List.ofFn f,⟨some a,cap,by rw [List.length_ofFn],by rw [List.length_ofFn];exact hl,rfl,?_,fun _=>⟨a,rfl,?_⟩⟩,?_,?_⟩
    · rw [List.length_ofFn]
      unfold maxLen at hm
      omega
    · intro j p hj
      rw [List.getElem?_ofFn] at hj
      split at hj
      · rename_i hlt
        obtain rfl:=Option.some.inj hj
        exact (hf ⟨j,hlt⟩).1
      · cases hj
    · rw [List.length_ofFn]
      exact Nat.le_trans (Nat.mul_le_mul_right _ (by omega)) hw1
    · intro x hx
      obtain ⟨i,rfl⟩:=List.mem_ofFn.1 hx
      exact (hf i).2

/-- The fields of a struct, from cell k on. -/
def OpensF (P : Program) (fs : List Field) (k : Nat) {α : Type} (d : Kd α) (S : α → Prop) : Prop :=
  ∀ (H : Type) (enc : TypeId × Value → H) (w : World) (m : Nat) (cs : List Value) (xs : List (DataW H × List MemPlace)),
    cs.length=k+d.sz→xs.length=fs.length →
    (∀ (i:Nat) (f:Field),fs[i]? = some f→DataW.trod enc P w 0 (fun _=>true) true m f.type ((cs.drop f.offset).take (P.cellsOf f.type))=xs[i]?) →
    (∀ n ∈ DataW.weightsEach P (fs.map (·.type)) (xs.map (·.1)),n≤140737488351232) → ∃ y:α,d.K w y (cs.drop k)∧S y

theorem opensF_last {P:Program} {f:Field} {k:Nat} {α:Type} {d:Kd α} {S:α→Prop} (ho:f.offset=k) (hc:P.cellsOf f.type=d.sz) (h:Opens P f.type d S):OpensF P [f] k d S:=by
  intro H enc w m cs xs hl hx hf hw
  match xs,hx with
  | [x], _ =>
    have h0:=hf 0 f rfl
    rw [ho,hc] at h0
    have ht:(cs.drop k).take d.sz=cs.drop k:=List.take_of_length_le (by rw [List.length_drop];omega)
    rw [ht] at h0
    exact h H enc w m _ x (by simpa using h0) (fun n hn=>hw n (by simp [DataW.weightsEach,hn]))

theorem opensF_cons {P:Program} {f:Field} {fs:List Field} {k:Nat} {α β:Type} {a:Kd α} {b:Kd β} {Sa:α→Prop} {Sb:β→Prop} (ho:f.offset=k) (hc:P.cellsOf f.type=a.sz) (h:Opens P f.type a Sa) (hr:OpensF P fs (k+a.sz) b Sb) :
    OpensF P (f :: fs) k (Kd.pair a b) (fun y=>Sa y.1∧Sb y.2):=by
  intro H enc w m cs xs hl hx hf hw
  match xs,hx with
  | x :: xr, hx =>
    have hl2:cs.length=k+(a.sz+b.sz):=hl
    have h0:=hf 0 f rfl
    rw [ho,hc] at h0
    obtain ⟨y,hy,hS⟩:=h H enc w m _ x (by simpa using h0) (fun n hn=>hw n (by simp only [List.map_cons,DataW.weightsEach,List.mem_append];exact .inl hn))
    obtain ⟨z,hz,hT⟩:=hr H enc w m cs xr (by omega) (by simpa using hx) (fun i g hg=>by simpa using hf (i+1) g (by simpa using hg)) (fun n hn=>hw n (by simp only [List.map_cons,DataW.weightsEach,List.mem_append];exact .inr hn))
    refine ⟨(y,z),⟨(cs.drop k).take a.sz,cs.drop (k+a.sz),?_,hy,hz⟩,hS,hT⟩
    rw [←List.drop_drop,List.take_append_drop]

theorem opens_struct {P:Program} {t:TypeId} {fs:Array Field} {α β:Type} {d:Kd α} {S:α→Prop} {f:β→α} {g:α→β} (ht:P.underlying t=some (.struct fs)) (hc:P.cellsOf t=d.sz) (hg:∀ y,f (g y)=y) (h:OpensF P fs.toList 0 d S) :
    Opens P t (Kd.iso d f) (fun b=>S (f b)):=by
  intro H enc w fuel cs x hx hw
  obtain ⟨xs,n,_,rfl,hl,hxs,hf⟩:=DataW.trod_struct ht hx
  obtain ⟨y,hy,hS⟩:=h H enc w n cs xs (by rw [hl,hc];omega) (by simpa using hxs) (fun i f0 hi=>hf i f0 (by simpa using hi)) (fun n hn=>hw n (by simpa [DataW.weights,ht] using hn))
  exact ⟨g y,show d.K w (f (g y)) cs by rw [hg];simpa using hy,show S (f (g y)) by rw [hg];exact hS⟩

/-- The weights of one argument out of all. -/
theorem weights_of {H:Type} {P:Program} {ts:List TypeId} {ds:List (DataW H)} (hsz:(DataW.weightsEach P ts ds).all (· ≤ reachBytes)=true) {j:Nat} {t:TypeId} {d:DataW H} (ht:ts[j]? = some t) (hd:ds[j]? = some d) :
    ∀ n ∈ d.weights P t,n≤140737488351232:=fun n hn=>by
  have:=List.all_eq_true.1 hsz n (DataW.weights_mem_each ht hd n hn)
  exact of_decide_eq_true this

theorem agg_of {P:Program} {W:World} {base:Nat} {t:TypeId} {v:Value} {fs:Array Field} (ht:P.underlying t=some (.struct fs)) (h:Value.okWide P W .any base t v):∃ cs,v = .agg cs:=by
  simp only [Value.okWide,ht] at h
  obtain ⟨cs,h,_⟩:=h
  exact ⟨cs,h⟩

/-- A struct argument, opened. -/
theorem open_agg {H:Type} {enc:TypeId×Value→H} {P:Program} {W:World} {base:Nat} {t:TypeId} {v:Value} {fs:Array Field} {x:DataW H} {p:List MemPlace} {α:Type} {d:Kd α} {S:α→Prop}
    (ho:Opens P t d S) (ht:P.underlying t=some (.struct fs)) (hv:Value.okWide P W .any base t v) (h:DataW.Trod enc P W 0 (fun _=>true) true t v x p) (hw:∀ n ∈ x.weights P t,n≤140737488351232) :
    ∃ cs y,v = .agg cs∧d.K W y cs.toList∧S y:=by
  obtain ⟨cs,rfl⟩:=agg_of ht hv
  obtain ⟨fuel,hf⟩:=h
  obtain ⟨y,hy,hS⟩:=ho H enc W fuel _ _ hf hw
  exact ⟨cs,y,rfl,hy,hS⟩

/-- A slice argument, opened. -/
theorem open_row {H:Type} {enc:TypeId×Value→H} {P:Program} {W:World} {base:Nat} {t e:TypeId} {v:Value} {x:DataW H} {p:List MemPlace} {α:Type} {d:Kd α} {S:List α→Prop}
    (ho:Opens P t (Kd.slice e d) S) (ht:P.underlying t=some (.slice e)) (hv:Value.okWide P W .any base t v) (h:DataW.Trod enc P W 0 (fun _=>true) true t v x p) (hw:∀ n ∈ x.weights P t,n≤140737488351232) :
    ∃ (A:Option Addr) (c:Nat) (xs:List α),v = .slice A xs.length c∧xs.length≤c∧d.C W A xs.length xs∧S xs:=by
  obtain ⟨a0,len,cap,rfl⟩:=Go.WideShapes.okWide_slice ht hv
  obtain ⟨fuel,hf⟩:=h
  obtain ⟨xs,⟨A,c,he,hl,hC⟩,hS⟩:=ho H enc W fuel _ _ hf hw
  have he2 : [Value.slice a0 len cap] = [.slice A xs.length c]:=by simpa [Value.cells] using he
  simp only [List.cons.injEq,and_true] at he2
  exact ⟨A,c,xs,he2,hl,hC,hS⟩

/-- A row's wrap, with the world's shape and one condition more. -/
theorem returnsInHanded_shaped_and {H:Type} {enc:TypeId×Value→H} {a:Assume} {C:Checked} {os:Os} {f:FuncId} {fn:Func} {s:ChangeSpec} {conds:List PathCond} {apart fresh handsOn again:Bool} {X:World→Array Value→Prop}
    (hX:∀ (w w':World) (args:Array Value),w.heap=w'.heap→X w args→X w' args)
    (own:ownKnob C.prog.godebug=none) (started:os.Started) (noInit:C.prog.inits.idxOf? f=none) (hfn:C.prog.funcs[f]? = some fn)
    (witness:∃ (w:World) (tape:Tape) (i:Input),w.os=os∧(w.forCall tape i).Shaped C.prog∧i.vars = []∧Input.okWide C.prog (w.forCall tape i) .any w.heap.size f i ∧
      ((s.pre enc C.prog fn conds apart (w.forCall tape i).memory i.args∧X (w.forCall tape i).memory i.args)∧sizedMet enc C.prog fn (OpenSpec.ofChange s) apart (w.forCall tape i).memory i.args)∧a.holds C.prog (lone (Frame.enter C.prog f i.args .normal) [] (w.forCall tape i)))
    (contract:∀ (W:World) (base:Nat) (args:Array Value) (ds gs:List (DataW H)) (before:List MemPlace),
      (∀ (j:Nat) t v,fn.params[j]? = some t→args[j]? = some v→Value.okWide C.prog W .any base t v) →
      DataW.Whole enc C.prog fn.params.toList s.vars apart W args.toList ds gs before →
      conds.all (PathCond.test C.prog ⟨fn.params.toList,ds,s.plain.varTypes C.prog,gs⟩)=true →
      (DataW.weightsEach C.prog (fn.params.toList++s.plain.varTypes C.prog) (ds++gs)).all (· ≤ reachBytes)=true→W.ShapedOpen C.prog→X W args →
      a.holds C.prog (lone (Frame.enter C.prog f args .normal) [] W) →
      Calls C.prog f args W fun e W' => ∃ v,e = .returned v∧s.post enc C.prog fn apart fresh handsOn again W args v W') :
    ReturnsInHanded a C os f .any (fun w args=>(s.pre enc C.prog fn conds apart w args∧X w args)∧sizedMet enc C.prog fn (OpenSpec.ofChange s) apart w args) (s.post enc C.prog fn apart fresh handsOn again):=by
  refine returnsInHanded_of_calls own started noInit witness ?_
  intro w tape i _ hsh _ hok hpre hholds
  obtain ⟨_,_,_,fn',hfn',_,_,_,_,hval⟩:=hok
  have e:fn'=fn:=Option.some.inj (hfn'.symm.trans hfn)
  subst e
  obtain ⟨⟨⟨ds,gs,before,hw,hc⟩,hx⟩,hz⟩:=hpre
  have hw':=DataW.Whole.of_heap (w':=w.forCall tape i) (by rfl) hw
  refine (contract (w.forCall tape i) w.heap.size i.args ds gs before hval hw' hc (hz.weights hw) hsh (hX _ _ _ (by rfl) hx) hholds).mono fun e W' ⟨v,he,hp⟩ => ?_
  subst he
  exact ChangeSpec.post_blind hp

/-- The places of a reading lie in the world. -/
theorem places_lt {H:Type} {enc:TypeId×Value→H} {P:Program} {W:World} {t:TypeId} {v:Value} {x:DataW H} {p:List MemPlace} (h:DataW.Trod enc P W 0 (fun _=>true) true t v x p):∀ y ∈ p,y.block<W.heap.size:=by
  obtain ⟨m,hm⟩:=h
  exact DataW.trod_lt m _ _ _ hm

end Go.Proofs.YtknagppkeodggaaDoor.Ow

