/- Several texts of this claim in one file: YthfpoacindblgaaDoorSqueeze, YthfpoacindblgaaDoorSqueeze2, YthfpoacindblgaaDoorMaps, YthfpoacindblgaaDoorBase, YthfpoacindblgaaDoorOrder, YthfpoacindblgaaDoorKeysS, YthfpoacindblgaaDoorStores, YthfpoacindblgaaDoorMade, YthfpoacindblgaaDoorKeysW, YthfpoacindblgaaDoorShelfStrings, YthfpoacindblgaaDoorShelf, YthfpoacindblgaaDoorEntriesA, YthfpoacindblgaaDoorSorted, YthfpoacindblgaaDoorSortE, YthfpoacindblgaaDoorBegins, YthfpoacindblgaaDoorMapsP, YthfpoacindblgaaDoorSmall, YthfpoacindblgaaDoorOpens. -/
import Derived.Test.YthfpoacindblgaaDoorM2
import Derived.Maps.RangeWalk
import Derived.Maps.OwnOps
import Derived.Below
import Derived.Lib.Strings
import Derived.Test.YthfpoacindblgaaDoorM1
import Derived.Lib.Bytealg
import Derived.Sort.Walk0
import Derived.Shelf.Sort.Plain
import Derived.Shelf.Slices.In.SortNone2
import Derived.Sort.OwnSorted
import Derived.Shelf.Small.Bits
import Derived.Shelf.Small.Strs
import Derived.Shelf.Utf8.RuneCount
import Derived.Shelf.Strconv.Itoa0
import Derived.Shelf.Strings.Search1
import Derived.Shelf.Strings.Search2
import Derived.Shelf.Strings.Search3
import Derived.Shelf.Strings.Cut
import Derived.Shelf.Strings.Count
import Derived.Shelf.LaysM
import Derived.Shelf.Strings.Shaped
import Derived.Shelf.Strings.Prefix
import Derived.Shelf.Strings.Split
import Derived.Shelf.Strings.SplitShaped
import Derived.Shelf.Unicode.Decode
import Derived.Shelf.Strings.RuneCount
import Derived.Shelf.Strings.Explode
import Derived.Shelf.Unicode.DecodeSlow
import Derived.Shelf.Unicode.DecodeAny
import Derived.Shelf.Slices.In.SortNone
import Derived.Ground.PaProg
import Derived.Shelf.Hex.Lens
import Derived.Shelf.Hex.Encode
import Derived.Shelf.Hex.More
import Derived.Test.YthfpoacindblgaaDoorProg
import Derived.Deep.Slices
import Derived.SizedLaws
import Derived.ChangeArms
import Derived.WideShapes
import Derived.Handed
namespace Go.Proofs.YthfpoacindblgaaDoor.P
open Go.RowKit Go.Proofs.YthfpoacindblgaaDoorW.PrintWords Go.Proofs.YthfpoacindblgaaDoorW.PrintLast Go.Proofs.YthfpoacindblgaaDoorW.PrintMore
set_option linter.unusedVariables false
set_option linter.unusedSimpArgs false
theorem oda {p:Prop} [Decidable p] (h:decide p=true:=by first|(with_reducible assumption)|assumption):p:=of_decide_eq_true h
theorem be {p q:Prop} (h:q) (f:q→p:=by intro h_;repeat (first|(with_reducible first|exact h_|apply below_alloc|apply pw_below_drewN|apply below_drew1)|exact h_)):p:=f h
theorem be1 {p q g1:Prop} (h:q) (h1:g1) (f:q→g1→p:=by intro h_ g1_;repeat (first|(with_reducible first|exact h_|apply below_alloc|apply pw_below_drewN|apply below_drew1|refine below_set ?_ g1_)|exact h_)):p:=f h h1
theorem be2 {p q g1 g2:Prop} (h:q) (h1:g1) (h2:g2) (f:q→g1→g2→p:=by intro h_ g1_ g2_;repeat (first|(with_reducible first|exact h_|apply below_alloc|apply pw_below_drewN|apply below_drew1|refine below_set ?_ g1_|refine below_set ?_ g2_)|exact h_)):p:=f h h1 h2
theorem be3 {p q g1 g2 g3:Prop} (h:q) (h1:g1) (h2:g2) (h3:g3) (f:q→g1→g2→g3→p:=by intro h_ g1_ g2_ g3_;repeat (first|(with_reducible first|exact h_|apply below_alloc|apply pw_below_drewN|apply below_drew1|refine below_set ?_ g1_|refine below_set ?_ g2_|refine below_set ?_ g3_)|exact h_)):p:=f h h1 h2 h3
theorem be4 {p q g1 g2 g3 g4:Prop} (h:q) (h1:g1) (h2:g2) (h3:g3) (h4:g4) (f:q→g1→g2→g3→g4→p:=by intro h_ g1_ g2_ g3_ g4_;repeat (first|(with_reducible first|exact h_|apply below_alloc|apply pw_below_drewN|apply below_drew1|refine below_set ?_ g1_|refine below_set ?_ g2_|refine below_set ?_ g3_|refine below_set ?_ g4_)|exact h_)):p:=f h h1 h2 h3 h4
theorem be5 {p q g1 g2 g3 g4 g5:Prop} (h:q) (h1:g1) (h2:g2) (h3:g3) (h4:g4) (h5:g5) (f:q→g1→g2→g3→g4→g5→p:=by intro h_ g1_ g2_ g3_ g4_ g5_;repeat (first|(with_reducible first|exact h_|apply below_alloc|apply pw_below_drewN|apply below_drew1|refine below_set ?_ g1_|refine below_set ?_ g2_|refine below_set ?_ g3_|refine below_set ?_ g4_|refine below_set ?_ g5_)|exact h_)):p:=f h h1 h2 h3 h4 h5
theorem be6 {p q g1 g2 g3 g4 g5 g6:Prop} (h:q) (h1:g1) (h2:g2) (h3:g3) (h4:g4) (h5:g5) (h6:g6) (f:q→g1→g2→g3→g4→g5→g6→p:=by intro h_ g1_ g2_ g3_ g4_ g5_ g6_;repeat (first|(with_reducible first|exact h_|apply below_alloc|apply pw_below_drewN|apply below_drew1|refine below_set ?_ g1_|refine below_set ?_ g2_|refine below_set ?_ g3_|refine below_set ?_ g4_|refine below_set ?_ g5_|refine below_set ?_ g6_)|exact h_)):p:=f h h1 h2 h3 h4 h5 h6
theorem bk {p q:Prop} (h:q) (f:q→p:=by intro h_;(with_reducible repeat (first|apply blk_drewN|apply blk_drew|apply blk_alloc));exact h_):p:=f h
theorem bkf {p q g1:Prop} (h:q) (h1:g1) (f:q→g1→p:=by intro h_ g1_;repeat (first|(with_reducible first|exact h_|apply blk_drewN|apply blk_drew|apply blk_alloc|refine blk_far ?_ g1_ _)|exact h_)):p:=f h h1
theorem kr {p q:Prop} (h:q) (f:q→p:=by intro h_;(with_reducible repeat (first|apply Kd.R_alloc|apply Kd.R_drewN|apply Kd.R_drew));exact h_):p:=f h
theorem cb {p q:Prop} (h:q) (f:q→p:=by intro h_;repeat (first|exact h_|(with_reducible refine Kd.C_alloc ?_ _)|(with_reducible refine Kd.C_drewN ?_ _)|(with_reducible refine Kd.C_drew ?_))):p:=f h
theorem dz {w w':World} (f:Drawn0 w w':=by repeat (first|exact Drawn0.refl _|apply Drawn0.step)):Drawn0 w w':=f
theorem Ye1 {p:Prop} (h:p:=by first|rfl|(simp;done)|(simp [*];done)):p:=h
theorem Ye2 {p:Prop} (h:p:=by first|rfl|(simp [errW_none,errW_some] <;> rfl)|(simp [*,errW_none,errW_some] <;> rfl)):p:=h
theorem nl {p:Prop} (h:p:=by first|exact Kd.R_nil _ _ _ _ _|exact Kd.N_nil _ _ _ _ _|exact Kd.V_nil _ _ _ _ _|exact Kd.Q_nil _ _ _ _ _|exact Kd.S_nil _ _ _ _ _):p:=h
def fb (n m:Nat):Array Bool:=((List.range n).map fun i=>m.testBit i).toArray
section
variable {P:Program} {md:Region.Mode} {ops:Array Oper} {Q:Exit→Act→World→Prop} {S:World→Prop} {ds:List Nat} {T:Bool×List (List Nat×List Nat)} {B:List Nat}
theorem ups:(∀ (a:Act) (d:Tmp) (v:Value),Act.put a (some d) v = { a with tmps:=a.tmps.setIfInBounds d v })∧(∀ (l:List Value) (i:Nat) (a:Value),l.toArray.setIfInBounds i a=(l.set i a).toArray)∧(∀ (x:Value) (l:List Value) (a:Value),(x :: l).set 0 a=a :: l)∧(∀ (x:Value) (l:List Value) (i:Nat) (a:Value),(x :: l).set (i+1) a=x :: l.set i a)∧(∀ n:Int,IntKind.i64.wrap n=wrap64 n)∧(∀ n:Int,IntKind.i32.wrap n=wrap32 n):=⟨fun _ _ _=>rfl,fun l i a=>List.setIfInBounds_toArray l i a,fun _ _ _=>rfl,fun _ _ _ _=>rfl,i64_w,i32_w⟩
theorem pu (i N:Nat) (l':Array Bool) (HT:Aside0 (rtab md ops=T)) {oi:Oper} {v:Value} {fuel:Nat} {l:Array Bool} {a a':Act} {w:World} (h:wpAnyLast P md ops Q S ds fuel l' a' w)
    (hi:ops[i]? = some oi:=by rfl) (hN:oi.dst=some N:=by rfl) (hc:anyT T l.toList l'.toList i=true:=by kernel_rfl)
    (hw:Region.wanted oi (yielded ops a.tmps)=true:=by rfl) (hr:∀ w',(execOp a.eval oi).run P w' = .ok (.value v) w':=by intro w';go_simp;with_reducible rfl)
    (hQ:∀ c a w,Q (.panic c) (a.put oi.dst v) w→Q (.panic c) a w:=by exact fun _ _ _ h=>h) (ha:a.put (some N) v=a':=by simp only [ups];rfl) :
    wpAnyLast P md ops Q S ds (fuel+1) l a w:=pure_ l' hi hN (any_of HT.out hc) hQ (.inl ⟨hw,hr⟩) ha h
theorem pn (i N:Nat) (l':Array Bool) (HT:Aside0 (rtab md ops=T)) {oi:Oper} {fuel:Nat} {l:Array Bool} {a a':Act} {w:World} (h:wpAnyLast P md ops Q S ds fuel l' a' w)
    (hi:ops[i]? = some oi:=by rfl) (hN:oi.dst=some N:=by rfl) (hc:anyT T l.toList l'.toList i=true:=by kernel_rfl)
    (hw:Region.wanted oi (yielded ops a.tmps)=false:=by rfl)
    (hQ:∀ c a w,Q (.panic c) (a.put oi.dst undef) w→Q (.panic c) a w:=by exact fun _ _ _ h=>h) (ha:a.put (some N) undef=a':=by simp only [ups];rfl) :
    wpAnyLast P md ops Q S ds (fuel+1) l a w:=pure_ l' hi hN (any_of HT.out hc) hQ (.inr ⟨hw,rfl⟩) ha h
theorem tk (i N:Nat) (l':Array Bool) (HT:Aside0 (rtab md ops=T)) (HW:Aside0 (waitsOk T.2 B=true)) {oi:Oper} {v:Value} {fuel:Nat} {l:Array Bool} {a a':Act} {w:World} (hS:S w) (h:wpAnyLast P md ops Q S ds fuel l' a' w)
    (hi:ops[i]? = some oi:=by rfl) (hN:oi.dst=some N:=by rfl) (hc:takeW T B ds l.toList l'.toList i=true:=by kernel_rfl)
    (hw:Region.wanted oi (yielded ops a.tmps)=true:=by rfl) (hr:∀ w',S w'→(execOp a.eval oi).run P w' = .ok (.value v) w':=by intro w' hs_;(repeat obtain ⟨_,hs_⟩:=hs_);go_simp;with_reducible rfl)
    (hQ:∀ c a w,Q (.panic c) (a.put oi.dst v) w→Q (.panic c) a w:=by exact fun _ _ _ h=>h) (ha:a.put (some N) v=a':=by simp only [ups];rfl) :
    wpAnyLast P md ops Q S ds (fuel+1) l a w:=take_ l' hi hN (take_ofW HT.out HW.out hc) hQ (.inl ⟨hw,hr⟩) hS ha h
end
theorem bb {w0 W w':World} {g:Nat} {o:Obj} (h:Aside0 (w0.heap[g]? = some o)) (hb:Below W.heap.size W w') (f:w0.heap[g]? = some o→W.heap[g]? = some o:=by intro h_;(with_reducible repeat (first|apply blk_drewN|apply blk_drew|apply blk_alloc));exact h_):w'.heap[g]? = some o:=blk_below (f h.out) hb
theorem bs {w W:World} {g:Nat} (hg:g=W.heap.size) (h:Below w.heap.size w W):w.heap.size≤g:=by rw [hg];exact below_size h
theorem bl {w0 W:World} {g g':Nat} {o:Obj} (hg:g'=W.heap.size) (h:Aside0 (w0.heap[g]? = some o)) (f:w0.heap[g]? = some o→W.heap[g]? = some o:=by intro h_;(with_reducible repeat (first|apply blk_drewN|apply blk_drew|apply blk_alloc));exact h_):g≠g':=by rw [hg];exact Nat.ne_of_lt (blk_lt (f h.out))
theorem br {w0 W:World} {g g':Nat} {o:Obj} (hg:g'=W.heap.size) (h:Aside0 (w0.heap[g]? = some o)) (f:w0.heap[g]? = some o→W.heap[g]? = some o:=by intro h_;(with_reducible repeat (first|apply blk_drewN|apply blk_drew|apply blk_alloc));exact h_):g'≠g:=(bl hg h f).symm
section
variable {P:Program} {ops:Array Oper} {rest:List Oper} {o oi:Oper} {a:Act} {Q:Exit→Act→World→Prop} {W:World}
theorem bx (N t:Nat) (cs:Array Value) (h:∀ g,g=W.heap.size → ∀ w1,w1.heap[g]? = some (.cells cs t (0,0))→Below W.heap.size W w1→wpList P ops Q rest (a.put o.dst (.pointer (some ⟨g,0,none⟩))) w1)
    (hd:o.dst=some N:=by rfl) (hgd:o.guard=none:=by rfl) (hrun:(execOp a.eval o).run P W = .ok (.value (.pointer (some ⟨W.heap.size,0,none⟩))) (W.alloc (.cells cs t (0,0))):=by first|(go_simp;done)|(go_simp;rfl)):wpList P ops Q (o :: rest) a W:=box_event hgd hd hrun h
theorem gl (N:Option Tmp) (fn:Func) (args:Array Value) {f:FuncId} {xs:Array Operand} {ts:Array TypeId} (hf:P.funcs[f]? = some fn) (h:Calls P f args W fun e w' => ∃ v,e = .returned v∧wpList P ops Q rest (a.put N v) w')
    (hd:oi.dst=N:=by rfl) (hg:oi.guard=none:=by rfl) (hop:oi.op = .call { callee:=.value (.func f),args:=xs,argTypes:=ts }:=by rfl) (hname:(fn.name == "runtime.NumGoroutine")=false:=by kernel_rfl) (hb:fn.body.isSome=true:=by rfl)
    (hargs:xs.map a.eval=args:=by (try simp only [List.map_toArray,List.map_cons,List.map_nil]);first|done|rfl|(simp only [List.length_drop,List.length_take];rfl)):wpList P ops Q (oi :: rest) a W:=goesL_ N hd hg hf hname hb args hop hargs h
theorem gs {K:Act→World→Prop} {N:Option Tmp} (fn:Func) (args:Array Value) {f:FuncId} {xs:Array Operand} {ts:Array TypeId} (hf:P.funcs[f]? = some fn) (h:Calls P f args W fun e w' => ∃ v,e = .returned v∧K (a.put N v) w')
    (hw:Region.wanted oi (yielded ops a.tmps)=true:=by rfl) (hN:oi.dst=N:=by rfl) (hop:oi.op = .call { callee:=.value (.func f),args:=xs,argTypes:=ts }:=by rfl) (hname:(fn.name == "runtime.NumGoroutine")=false:=by kernel_rfl) (hb:fn.body.isSome=true:=by rfl)
    (hargs:xs.map a.eval=args:=by (try simp only [List.map_toArray,List.map_cons,List.map_nil]);first|done|rfl|(simp only [List.length_drop,List.length_take];rfl)):if Region.wanted oi (yielded ops a.tmps)=true then Oper.wp P oi a W K Q else K (a.put N undef) W:=goes_ hf hname hb args hw hN hop hargs h
theorem gc (f:FuncId) {xs:Array Operand} {ts:Array TypeId} (_ho:o.op = .call { callee:=.value (.func f),args:=xs,argTypes:=ts }) (h:wpList P ops Q (o :: rest) a W):wpList P ops Q (o :: rest) a W:=h
theorem gd (N:Tmp) (_hN:o.dst=some N) (h:wpList P ops Q (o :: rest) a W):wpList P ops Q (o :: rest) a W:=h
end
theorem gk {w W:World} {q:Prop} (hg:GOK w) (h:q) (f:GOK w→q→GOK W:=by intro g_ h_;first|exact g_|exact GOK.below g_ (by repeat (first|(with_reducible first|exact h_|apply below_alloc|apply pw_below_drewN|apply below_drew1)|exact h_|exact Below.refl _ _))):GOK W:=f hg h
theorem gk1 {w W:World} {q q1:Prop} (hg:GOK w) (h:q) (h1:q1) (f:GOK w→q→q1→GOK W:=by intro g_ h_ g1_;first|exact g_|exact GOK.below g_ (by repeat (first|(with_reducible first|exact h_|apply below_alloc|apply pw_below_drewN|apply below_drew1|refine below_set ?_ g1_)|exact h_|exact Below.refl _ _))):GOK W:=f hg h h1
theorem gk2 {w W:World} {q q1 q2:Prop} (hg:GOK w) (h:q) (h1:q1) (h2:q2) (f:GOK w→q→q1→q2→GOK W:=by intro g_ h_ g1_ g2_;first|exact g_|exact GOK.below g_ (by repeat (first|(with_reducible first|exact h_|apply below_alloc|apply pw_below_drewN|apply below_drew1|refine below_set ?_ g1_|refine below_set ?_ g2_)|exact h_|exact Below.refl _ _))):GOK W:=f hg h h1 h2
theorem gk3 {w W:World} {q q1 q2 q3:Prop} (hg:GOK w) (h:q) (h1:q1) (h2:q2) (h3:q3) (f:GOK w→q→q1→q2→q3→GOK W:=by intro g_ h_ g1_ g2_ g3_;first|exact g_|exact GOK.below g_ (by repeat (first|(with_reducible first|exact h_|apply below_alloc|apply pw_below_drewN|apply below_drew1|refine below_set ?_ g1_|refine below_set ?_ g2_|refine below_set ?_ g3_)|exact h_|exact Below.refl _ _))):GOK W:=f hg h h1 h2 h3
theorem gk4 {w W:World} {q q1 q2 q3 q4:Prop} (hg:GOK w) (h:q) (h1:q1) (h2:q2) (h3:q3) (h4:q4) (f:GOK w→q→q1→q2→q3→q4→GOK W:=by intro g_ h_ g1_ g2_ g3_ g4_;first|exact g_|exact GOK.below g_ (by repeat (first|(with_reducible first|exact h_|apply below_alloc|apply pw_below_drewN|apply below_drew1|refine below_set ?_ g1_|refine below_set ?_ g2_|refine below_set ?_ g3_|refine below_set ?_ g4_)|exact h_|exact Below.refl _ _))):GOK W:=f hg h h1 h2 h3 h4
section
variable {w:World} {g t:Nat} {a b c d e f h:Value}
theorem Yc1 (x:w.heap[g]? = some (.cells #[a] t (0,0))):w.cell? ⟨g,0,none⟩=some a∧w.frozen? ⟨g,0,none⟩=false:=⟨(blk_cell x 0).trans rfl,blk_frozen x 0⟩
theorem Yc2 (x:w.heap[g]? = some (.cells #[a,b] t (0,0))):w.cell? ⟨g,0,none⟩=some a∧w.cell? ⟨g,1,none⟩=some b∧w.frozen? ⟨g,0,none⟩=false∧w.frozen? ⟨g,1,none⟩=false:=⟨(blk_cell x 0).trans rfl,(blk_cell x 1).trans rfl,blk_frozen x 0,blk_frozen x 1⟩
theorem Yc3 (x:w.heap[g]? = some (.cells #[a,b,c] t (0,0))):w.cell? ⟨g,0,none⟩=some a∧w.cell? ⟨g,1,none⟩=some b∧w.cell? ⟨g,2,none⟩=some c∧w.frozen? ⟨g,0,none⟩=false∧w.frozen? ⟨g,1,none⟩=false∧w.frozen? ⟨g,2,none⟩=false:=⟨(blk_cell x 0).trans rfl,(blk_cell x 1).trans rfl,(blk_cell x 2).trans rfl,blk_frozen x 0,blk_frozen x 1,blk_frozen x 2⟩
theorem Yc7 (x:w.heap[g]? = some (.cells #[a,b,c,d,e,f,h] t (0,0))):w.cell? ⟨g,0,none⟩=some a∧w.cell? ⟨g,1,none⟩=some b∧w.cell? ⟨g,2,none⟩=some c∧w.cell? ⟨g,3,none⟩=some d∧w.cell? ⟨g,4,none⟩=some e∧w.cell? ⟨g,5,none⟩=some f∧w.cell? ⟨g,6,none⟩=some h∧w.frozen? ⟨g,0,none⟩=false∧w.frozen? ⟨g,1,none⟩=false∧w.frozen? ⟨g,2,none⟩=false∧w.frozen? ⟨g,3,none⟩=false∧w.frozen? ⟨g,4,none⟩=false∧w.frozen? ⟨g,5,none⟩=false∧w.frozen? ⟨g,6,none⟩=false:=⟨(blk_cell x 0).trans rfl,(blk_cell x 1).trans rfl,(blk_cell x 2).trans rfl,(blk_cell x 3).trans rfl,(blk_cell x 4).trans rfl,(blk_cell x 5).trans rfl,(blk_cell x 6).trans rfl,blk_frozen x 0,blk_frozen x 1,blk_frozen x 2,blk_frozen x 3,blk_frozen x 4,blk_frozen x 5,blk_frozen x 6⟩
end
section
variable {c p1 p2 p3 p4 p5 p6 p7 p8:Prop}
theorem Ya1 (h1:p1) (h:Aside0 p1→c):c:=h ⟨h1⟩
theorem Ya2 (h1:p1) (h2:p2) (h:Aside0 p1→Aside0 p2→c):c:=h ⟨h1⟩ ⟨h2⟩
theorem Ya3 (h1:p1) (h2:p2) (h3:p3) (h:Aside0 p1→Aside0 p2→Aside0 p3→c):c:=h ⟨h1⟩ ⟨h2⟩ ⟨h3⟩
theorem Ya4 (h1:p1) (h2:p2) (h3:p3) (h4:p4) (h:Aside0 p1→Aside0 p2→Aside0 p3→Aside0 p4→c):c:=h ⟨h1⟩ ⟨h2⟩ ⟨h3⟩ ⟨h4⟩
theorem Ya5 (h1:p1) (h2:p2) (h3:p3) (h4:p4) (h5:p5) (h:Aside0 p1→Aside0 p2→Aside0 p3→Aside0 p4→Aside0 p5→c):c:=h ⟨h1⟩ ⟨h2⟩ ⟨h3⟩ ⟨h4⟩ ⟨h5⟩
theorem Ya6 (h1:p1) (h2:p2) (h3:p3) (h4:p4) (h5:p5) (h6:p6) (h:Aside0 p1→Aside0 p2→Aside0 p3→Aside0 p4→Aside0 p5→Aside0 p6→c):c:=h ⟨h1⟩ ⟨h2⟩ ⟨h3⟩ ⟨h4⟩ ⟨h5⟩ ⟨h6⟩
theorem Ya7 (h1:p1) (h2:p2) (h3:p3) (h4:p4) (h5:p5) (h6:p6) (h7:p7) (h:Aside0 p1→Aside0 p2→Aside0 p3→Aside0 p4→Aside0 p5→Aside0 p6→Aside0 p7→c):c:=h ⟨h1⟩ ⟨h2⟩ ⟨h3⟩ ⟨h4⟩ ⟨h5⟩ ⟨h6⟩ ⟨h7⟩
theorem Ya8 (h1:p1) (h2:p2) (h3:p3) (h4:p4) (h5:p5) (h6:p6) (h7:p7) (h8:p8) (h:Aside0 p1→Aside0 p2→Aside0 p3→Aside0 p4→Aside0 p5→Aside0 p6→Aside0 p7→Aside0 p8→c):c:=h ⟨h1⟩ ⟨h2⟩ ⟨h3⟩ ⟨h4⟩ ⟨h5⟩ ⟨h6⟩ ⟨h7⟩ ⟨h8⟩
end
end Go.Proofs.YthfpoacindblgaaDoor.P


namespace Go.Proofs.YthfpoacindblgaaDoor.P
open Go.RowKit Go.Proofs.YthfpoacindblgaaDoorW.PrintWords Go.Proofs.YthfpoacindblgaaDoorW.PrintLast Go.Proofs.YthfpoacindblgaaDoorW.PrintMore
set_option linter.unusedVariables false
set_option linter.unusedSimpArgs false
theorem bsq_ {w W:World} {g j:Nat} {v:Value} (zz1_:Below w.heap.size w W) (zz2_:w.heap.size≤g):Below w.heap.size w (W.setCell ⟨g,j,none⟩ v):=below_set zz1_ zz2_
theorem blf_ {w:World} {g:Nat} {t:TypeId} {cs:Array Value} {p:Addr} {u:Value} (zz1_:w.heap[g]? = some (.cells cs t (0,0))) (zz2_:g≠p.block):(w.setCell p u).heap[g]? = some (.cells cs t (0,0)):=blk_far zz1_ zz2_ u
theorem blp_ {w:World} {g:Nat} {t:TypeId} {cs cs':Array Value} {i:Nat} {u:Value} (zz1_:w.heap[g]? = some (.cells cs t (0,0))) (zz2_:cs.setIfInBounds i u=cs'):(w.setCell ⟨g,i,none⟩ u).heap[g]? = some (.cells cs' t (0,0)):=blk_put zz1_ i u zz2_
theorem kef_ {w W:World} {g:Nat} {row:Option Nat} {p:Addr} {u:Value} (zz1_:KeepBut w W g row) (zz2_:w.heap.size≤p.block):KeepBut w (W.setCell p u) g row:=keep_far zz1_ zz2_ u
theorem bf {p q:Prop} (h:q) (f:q→p:=by intro h_;repeat' (first|(with_reducible exact h_)|(with_reducible first|apply below_alloc|apply pw_below_drewN|apply below_drew1|apply bsq_)|(with_reducible exact Aside0.out (by assumption))|exact h_)):p:=f h
theorem gf {w W:World} {q:Prop} (hg:GOK w) (h:q) (f:GOK w→q→GOK W:=by intro g_ h_;first|exact g_|exact GOK.below g_ (by repeat' (first|(with_reducible exact h_)|(with_reducible first|apply below_alloc|apply pw_below_drewN|apply below_drew1|apply bsq_)|(with_reducible exact Aside0.out (by assumption))|exact h_|exact Below.refl _ _))):GOK W:=f hg h
theorem kb {p q:Prop} (h:q) (f:q→p:=by intro h_;repeat' (first|(with_reducible exact h_)|(with_reducible first|apply KeepBut.set_|apply keep_drewN|apply keep_drew|apply keep_alloc|apply kef_)|(with_reducible exact Aside0.out (by assumption))|exact h_)):p:=f h
theorem kx {w0 w w1:World} {g g':Nat} {o:Obj} (hk:KeepBut w w1 g none) (h:Aside0 (w0.heap[g']? = some o)) (hne:Aside0 (g'≠g)) (f:w0.heap[g']? = some o→w.heap[g']? = some o:=by intro h_;(with_reducible repeat (first|apply blk_drewN|apply blk_drew|apply blk_alloc));exact h_):w1.heap[g']? = some o:=KeepBut.blk hk (f h.out) hne.out (by simp)
theorem kxf {w0 w w1:World} {g g':Nat} {o:Obj} {g1:Prop} (hk:KeepBut w w1 g none) (h:Aside0 (w0.heap[g']? = some o)) (h1:Aside0 g1) (hne:Aside0 (g'≠g)) (f:w0.heap[g']? = some o→g1→w.heap[g']? = some o:=by intro h_ g1_;repeat (first|(with_reducible first|exact h_|apply blk_drewN|apply blk_drew|apply blk_alloc|refine blk_far ?_ g1_ _)|exact h_)):w1.heap[g']? = some o:=KeepBut.blk hk (f h.out h1.out) hne.out (by simp)
theorem bbf {w0 W w':World} {g:Nat} {o:Obj} {g1:Prop} (h:Aside0 (w0.heap[g]? = some o)) (h1:Aside0 g1) (hb:Below W.heap.size W w') (f:w0.heap[g]? = some o→g1→W.heap[g]? = some o:=by intro h_ g1_;repeat (first|(with_reducible first|exact h_|apply blk_drewN|apply blk_drew|apply blk_alloc|refine blk_far ?_ g1_ _)|exact h_)):w'.heap[g]? = some o:=blk_below (f h.out h1.out) hb
theorem bp {p q:Prop} (h:q) (f:q→p:=by intro h_;repeat' (first|(with_reducible exact h_)|(with_reducible first|apply blk_drewN|apply blk_drew|apply blk_alloc|apply blp_|apply blf_)|(with_reducible exact Aside0.out (by assumption))|exact (rfl:(_:Array Value)=_))):p:=f h
theorem bc {w:World} {g t:Nat} {cs:Array Value} {v:Value} (h:Aside0 (w.heap[g]? = some (.cells cs t (0,0)))) (i:Nat) (hv:cs[i]? = some v:=by rfl):w.cell? ⟨g,i,none⟩=some v:=(blk_cell h.out i).trans hv
section
variable {α:Type} {d:Kd α} {e base b:Nat} {w W:World} {ok:Nat→Prop} {v:Value} {xs:List α}
theorem rp (h:d.R e w base ok v xs) (hne:∀ k,ok k→k≠b) (f:d.R e w base ok v xs→(∀ k,ok k→k≠b)→d.R e W base ok v xs:=by intro h_ n_;repeat' (first|(with_reducible exact h_)|(with_reducible first|apply Kd.R_alloc|apply Kd.R_drewN|apply Kd.R_drew|refine Kd.R_far ?_ n_ _)|exact h_)):d.R e W base ok v xs:=f h hne
theorem rf {t:Nat} {cs:Array Value} (h:Aside0 (d.R e w base ok v xs)) (hb:Aside0 (w.heap[b]? = some (.cells cs t (0,0)))) (ht:∀ q,q ∈ e :: d.E→q≠t:=by decide)
    (f:d.R e w base (fun k=>ok k∧k≠b) v xs→(∀ k,ok k∧k≠b→k≠b)→d.R e W base (fun k=>ok k∧k≠b) v xs:=by intro h_ n_;repeat' (first|(with_reducible exact h_)|(with_reducible first|apply Kd.R_alloc|apply Kd.R_drewN|apply Kd.R_drew|refine Kd.R_far ?_ n_ _)|exact h_)):d.R e W base ok v xs :=
  Kd.R_mono (f (Kd.R_types h.out hb.out ht) (fun _ hk=>hk.2)) (fun _ h=>h.1)
end
section
variable {P:Program} {md:Region.Mode} {ops:Array Oper} {Q:Exit→Act→World→Prop} {S:World→Prop} {ds:List Nat} {T:Bool×List (List Nat×List Nat)} {fuel:Nat} {l:Array Bool} {a a':Act} {w:World} {oi:Oper}
theorem o1 (i:Nat) (N:Option Tmp) (l':Array Bool) (HT:Aside0 (rtab md ops=T))
    (h:∀ K:Act→World→Prop,Shut (∀ a' w',S w'→(S w'→wpAnyLast P md ops Q S ds fuel l' a' w')→K a' w')→if Region.wanted oi (yielded ops a.tmps)=true then Oper.wp P oi a w K Q else K (a.put N undef) w)
    (hi:ops[i]? = some oi:=by rfl) (hN:oi.dst=N:=by rfl) (hc:(readyT T.2 l.toList == [i]&&l.toList.set i true==l'.toList)=true:=by kernel_rfl) (hd:i ∉ ds:=by decide):wpAnyLast P md ops Q S ds (fuel+1) l a w:=one_ l' hi hN (one_of HT.out hc) hd h
theorem bst {Kc:Act→World→Prop} (N t:Nat) (cs:Array Value) (h:∀ g,g=w.heap.size → ∀ w1,w1.heap[g]? = some (.cells cs t (0,0))→Below w.heap.size w w1→Kc (a.put oi.dst (.pointer (some ⟨g,0,none⟩))) w1)
    (hw:Region.wanted oi (yielded ops a.tmps)=true:=by rfl) (hd:oi.dst=some N:=by rfl) (hrun:(execOp a.eval oi).run P w = .ok (.value (.pointer (some ⟨w.heap.size,0,none⟩))) (w.alloc (.cells cs t (0,0))):=by first|(go_simp;done)|(go_simp;rfl)) :
    if Region.wanted oi (yielded ops a.tmps)=true then Oper.wp P oi a w Kc Q else Kc (a.put oi.dst undef) w:=box_step hw hd hrun h
theorem nm {a0:Act} {v:Value} (N:Tmp) (h:wpAnyLast P md ops Q S ds fuel l a' w) (hN:a=a0.put (some N) v:=by rfl) (ha:a0.put (some N) v=a':=by simp only [ups];rfl):wpAnyLast P md ops Q S ds fuel l a w:=norm_ (hN.trans ha) h
theorem nc (h:wpAnyLast P md ops Q S ds fuel l a' w) (ha:a=a':=by simp only [putAll,Act.put,List.setIfInBounds_toArray,List.set_cons_zero,List.set_cons_succ]):wpAnyLast P md ops Q S ds fuel l a w:=norm_ ha h
end
section
variable {c p1 p2 p3 p4 p5 p6 p7 p8 p9 p10 p11 p12 p13 p14 p15 p16 p17 p18 p19 p20 p21 p22 p23 p24:Prop}
theorem Ya9 (h1:p1) (h2:p2) (h3:p3) (h4:p4) (h5:p5) (h6:p6) (h7:p7) (h8:p8) (h9:p9) (h:Aside0 p1→Aside0 p2→Aside0 p3→Aside0 p4→Aside0 p5→Aside0 p6→Aside0 p7→Aside0 p8→Aside0 p9→c):c:=h ⟨h1⟩ ⟨h2⟩ ⟨h3⟩ ⟨h4⟩ ⟨h5⟩ ⟨h6⟩ ⟨h7⟩ ⟨h8⟩ ⟨h9⟩
theorem Ya10 (h1:p1) (h2:p2) (h3:p3) (h4:p4) (h5:p5) (h6:p6) (h7:p7) (h8:p8) (h9:p9) (h10:p10) (h:Aside0 p1→Aside0 p2→Aside0 p3→Aside0 p4→Aside0 p5→Aside0 p6→Aside0 p7→Aside0 p8→Aside0 p9→Aside0 p10→c):c:=h ⟨h1⟩ ⟨h2⟩ ⟨h3⟩ ⟨h4⟩ ⟨h5⟩ ⟨h6⟩ ⟨h7⟩ ⟨h8⟩ ⟨h9⟩ ⟨h10⟩
theorem Ya11 (h1:p1) (h2:p2) (h3:p3) (h4:p4) (h5:p5) (h6:p6) (h7:p7) (h8:p8) (h9:p9) (h10:p10) (h11:p11) (h:Aside0 p1→Aside0 p2→Aside0 p3→Aside0 p4→Aside0 p5→Aside0 p6→Aside0 p7→Aside0 p8→Aside0 p9→Aside0 p10→Aside0 p11→c):c:=h ⟨h1⟩ ⟨h2⟩ ⟨h3⟩ ⟨h4⟩ ⟨h5⟩ ⟨h6⟩ ⟨h7⟩ ⟨h8⟩ ⟨h9⟩ ⟨h10⟩ ⟨h11⟩
theorem Ya12 (h1:p1) (h2:p2) (h3:p3) (h4:p4) (h5:p5) (h6:p6) (h7:p7) (h8:p8) (h9:p9) (h10:p10) (h11:p11) (h12:p12) (h:Aside0 p1→Aside0 p2→Aside0 p3→Aside0 p4→Aside0 p5→Aside0 p6→Aside0 p7→Aside0 p8→Aside0 p9→Aside0 p10→Aside0 p11→Aside0 p12→c):c:=h ⟨h1⟩ ⟨h2⟩ ⟨h3⟩ ⟨h4⟩ ⟨h5⟩ ⟨h6⟩ ⟨h7⟩ ⟨h8⟩ ⟨h9⟩ ⟨h10⟩ ⟨h11⟩ ⟨h12⟩
theorem Ya13 (h1:p1) (h2:p2) (h3:p3) (h4:p4) (h5:p5) (h6:p6) (h7:p7) (h8:p8) (h9:p9) (h10:p10) (h11:p11) (h12:p12) (h13:p13) (h:Aside0 p1→Aside0 p2→Aside0 p3→Aside0 p4→Aside0 p5→Aside0 p6→Aside0 p7→Aside0 p8→Aside0 p9→Aside0 p10→Aside0 p11→Aside0 p12→Aside0 p13→c):c:=h ⟨h1⟩ ⟨h2⟩ ⟨h3⟩ ⟨h4⟩ ⟨h5⟩ ⟨h6⟩ ⟨h7⟩ ⟨h8⟩ ⟨h9⟩ ⟨h10⟩ ⟨h11⟩ ⟨h12⟩ ⟨h13⟩
theorem Ya14 (h1:p1) (h2:p2) (h3:p3) (h4:p4) (h5:p5) (h6:p6) (h7:p7) (h8:p8) (h9:p9) (h10:p10) (h11:p11) (h12:p12) (h13:p13) (h14:p14) (h:Aside0 p1→Aside0 p2→Aside0 p3→Aside0 p4→Aside0 p5→Aside0 p6→Aside0 p7→Aside0 p8→Aside0 p9→Aside0 p10→Aside0 p11→Aside0 p12→Aside0 p13→Aside0 p14→c):c:=h ⟨h1⟩ ⟨h2⟩ ⟨h3⟩ ⟨h4⟩ ⟨h5⟩ ⟨h6⟩ ⟨h7⟩ ⟨h8⟩ ⟨h9⟩ ⟨h10⟩ ⟨h11⟩ ⟨h12⟩ ⟨h13⟩ ⟨h14⟩
theorem Ya15 (h1:p1) (h2:p2) (h3:p3) (h4:p4) (h5:p5) (h6:p6) (h7:p7) (h8:p8) (h9:p9) (h10:p10) (h11:p11) (h12:p12) (h13:p13) (h14:p14) (h15:p15) (h:Aside0 p1→Aside0 p2→Aside0 p3→Aside0 p4→Aside0 p5→Aside0 p6→Aside0 p7→Aside0 p8→Aside0 p9→Aside0 p10→Aside0 p11→Aside0 p12→Aside0 p13→Aside0 p14→Aside0 p15→c):c:=h ⟨h1⟩ ⟨h2⟩ ⟨h3⟩ ⟨h4⟩ ⟨h5⟩ ⟨h6⟩ ⟨h7⟩ ⟨h8⟩ ⟨h9⟩ ⟨h10⟩ ⟨h11⟩ ⟨h12⟩ ⟨h13⟩ ⟨h14⟩ ⟨h15⟩
theorem Ya16 (h1:p1) (h2:p2) (h3:p3) (h4:p4) (h5:p5) (h6:p6) (h7:p7) (h8:p8) (h9:p9) (h10:p10) (h11:p11) (h12:p12) (h13:p13) (h14:p14) (h15:p15) (h16:p16) (h:Aside0 p1→Aside0 p2→Aside0 p3→Aside0 p4→Aside0 p5→Aside0 p6→Aside0 p7→Aside0 p8→Aside0 p9→Aside0 p10→Aside0 p11→Aside0 p12→Aside0 p13→Aside0 p14→Aside0 p15→Aside0 p16→c):c:=h ⟨h1⟩ ⟨h2⟩ ⟨h3⟩ ⟨h4⟩ ⟨h5⟩ ⟨h6⟩ ⟨h7⟩ ⟨h8⟩ ⟨h9⟩ ⟨h10⟩ ⟨h11⟩ ⟨h12⟩ ⟨h13⟩ ⟨h14⟩ ⟨h15⟩ ⟨h16⟩
theorem Ya17 (h1:p1) (h2:p2) (h3:p3) (h4:p4) (h5:p5) (h6:p6) (h7:p7) (h8:p8) (h9:p9) (h10:p10) (h11:p11) (h12:p12) (h13:p13) (h14:p14) (h15:p15) (h16:p16) (h17:p17) (h:Aside0 p1→Aside0 p2→Aside0 p3→Aside0 p4→Aside0 p5→Aside0 p6→Aside0 p7→Aside0 p8→Aside0 p9→Aside0 p10→Aside0 p11→Aside0 p12→Aside0 p13→Aside0 p14→Aside0 p15→Aside0 p16→Aside0 p17→c):c:=h ⟨h1⟩ ⟨h2⟩ ⟨h3⟩ ⟨h4⟩ ⟨h5⟩ ⟨h6⟩ ⟨h7⟩ ⟨h8⟩ ⟨h9⟩ ⟨h10⟩ ⟨h11⟩ ⟨h12⟩ ⟨h13⟩ ⟨h14⟩ ⟨h15⟩ ⟨h16⟩ ⟨h17⟩
theorem Ya18 (h1:p1) (h2:p2) (h3:p3) (h4:p4) (h5:p5) (h6:p6) (h7:p7) (h8:p8) (h9:p9) (h10:p10) (h11:p11) (h12:p12) (h13:p13) (h14:p14) (h15:p15) (h16:p16) (h17:p17) (h18:p18) (h:Aside0 p1→Aside0 p2→Aside0 p3→Aside0 p4→Aside0 p5→Aside0 p6→Aside0 p7→Aside0 p8→Aside0 p9→Aside0 p10→Aside0 p11→Aside0 p12→Aside0 p13→Aside0 p14→Aside0 p15→Aside0 p16→Aside0 p17→Aside0 p18→c):c:=h ⟨h1⟩ ⟨h2⟩ ⟨h3⟩ ⟨h4⟩ ⟨h5⟩ ⟨h6⟩ ⟨h7⟩ ⟨h8⟩ ⟨h9⟩ ⟨h10⟩ ⟨h11⟩ ⟨h12⟩ ⟨h13⟩ ⟨h14⟩ ⟨h15⟩ ⟨h16⟩ ⟨h17⟩ ⟨h18⟩
theorem Ya19 (h1:p1) (h2:p2) (h3:p3) (h4:p4) (h5:p5) (h6:p6) (h7:p7) (h8:p8) (h9:p9) (h10:p10) (h11:p11) (h12:p12) (h13:p13) (h14:p14) (h15:p15) (h16:p16) (h17:p17) (h18:p18) (h19:p19) (h:Aside0 p1→Aside0 p2→Aside0 p3→Aside0 p4→Aside0 p5→Aside0 p6→Aside0 p7→Aside0 p8→Aside0 p9→Aside0 p10→Aside0 p11→Aside0 p12→Aside0 p13→Aside0 p14→Aside0 p15→Aside0 p16→Aside0 p17→Aside0 p18→Aside0 p19→c):c:=h ⟨h1⟩ ⟨h2⟩ ⟨h3⟩ ⟨h4⟩ ⟨h5⟩ ⟨h6⟩ ⟨h7⟩ ⟨h8⟩ ⟨h9⟩ ⟨h10⟩ ⟨h11⟩ ⟨h12⟩ ⟨h13⟩ ⟨h14⟩ ⟨h15⟩ ⟨h16⟩ ⟨h17⟩ ⟨h18⟩ ⟨h19⟩
theorem Ya20 (h1:p1) (h2:p2) (h3:p3) (h4:p4) (h5:p5) (h6:p6) (h7:p7) (h8:p8) (h9:p9) (h10:p10) (h11:p11) (h12:p12) (h13:p13) (h14:p14) (h15:p15) (h16:p16) (h17:p17) (h18:p18) (h19:p19) (h20:p20) (h:Aside0 p1→Aside0 p2→Aside0 p3→Aside0 p4→Aside0 p5→Aside0 p6→Aside0 p7→Aside0 p8→Aside0 p9→Aside0 p10→Aside0 p11→Aside0 p12→Aside0 p13→Aside0 p14→Aside0 p15→Aside0 p16→Aside0 p17→Aside0 p18→Aside0 p19→Aside0 p20→c):c:=h ⟨h1⟩ ⟨h2⟩ ⟨h3⟩ ⟨h4⟩ ⟨h5⟩ ⟨h6⟩ ⟨h7⟩ ⟨h8⟩ ⟨h9⟩ ⟨h10⟩ ⟨h11⟩ ⟨h12⟩ ⟨h13⟩ ⟨h14⟩ ⟨h15⟩ ⟨h16⟩ ⟨h17⟩ ⟨h18⟩ ⟨h19⟩ ⟨h20⟩
theorem Ya21 (h1:p1) (h2:p2) (h3:p3) (h4:p4) (h5:p5) (h6:p6) (h7:p7) (h8:p8) (h9:p9) (h10:p10) (h11:p11) (h12:p12) (h13:p13) (h14:p14) (h15:p15) (h16:p16) (h17:p17) (h18:p18) (h19:p19) (h20:p20) (h21:p21) (h:Aside0 p1→Aside0 p2→Aside0 p3→Aside0 p4→Aside0 p5→Aside0 p6→Aside0 p7→Aside0 p8→Aside0 p9→Aside0 p10→Aside0 p11→Aside0 p12→Aside0 p13→Aside0 p14→Aside0 p15→Aside0 p16→Aside0 p17→Aside0 p18→Aside0 p19→Aside0 p20→Aside0 p21→c):c:=h ⟨h1⟩ ⟨h2⟩ ⟨h3⟩ ⟨h4⟩ ⟨h5⟩ ⟨h6⟩ ⟨h7⟩ ⟨h8⟩ ⟨h9⟩ ⟨h10⟩ ⟨h11⟩ ⟨h12⟩ ⟨h13⟩ ⟨h14⟩ ⟨h15⟩ ⟨h16⟩ ⟨h17⟩ ⟨h18⟩ ⟨h19⟩ ⟨h20⟩ ⟨h21⟩
theorem Ya22 (h1:p1) (h2:p2) (h3:p3) (h4:p4) (h5:p5) (h6:p6) (h7:p7) (h8:p8) (h9:p9) (h10:p10) (h11:p11) (h12:p12) (h13:p13) (h14:p14) (h15:p15) (h16:p16) (h17:p17) (h18:p18) (h19:p19) (h20:p20) (h21:p21) (h22:p22) (h:Aside0 p1→Aside0 p2→Aside0 p3→Aside0 p4→Aside0 p5→Aside0 p6→Aside0 p7→Aside0 p8→Aside0 p9→Aside0 p10→Aside0 p11→Aside0 p12→Aside0 p13→Aside0 p14→Aside0 p15→Aside0 p16→Aside0 p17→Aside0 p18→Aside0 p19→Aside0 p20→Aside0 p21→Aside0 p22→c):c:=h ⟨h1⟩ ⟨h2⟩ ⟨h3⟩ ⟨h4⟩ ⟨h5⟩ ⟨h6⟩ ⟨h7⟩ ⟨h8⟩ ⟨h9⟩ ⟨h10⟩ ⟨h11⟩ ⟨h12⟩ ⟨h13⟩ ⟨h14⟩ ⟨h15⟩ ⟨h16⟩ ⟨h17⟩ ⟨h18⟩ ⟨h19⟩ ⟨h20⟩ ⟨h21⟩ ⟨h22⟩
theorem Ya23 (h1:p1) (h2:p2) (h3:p3) (h4:p4) (h5:p5) (h6:p6) (h7:p7) (h8:p8) (h9:p9) (h10:p10) (h11:p11) (h12:p12) (h13:p13) (h14:p14) (h15:p15) (h16:p16) (h17:p17) (h18:p18) (h19:p19) (h20:p20) (h21:p21) (h22:p22) (h23:p23) (h:Aside0 p1→Aside0 p2→Aside0 p3→Aside0 p4→Aside0 p5→Aside0 p6→Aside0 p7→Aside0 p8→Aside0 p9→Aside0 p10→Aside0 p11→Aside0 p12→Aside0 p13→Aside0 p14→Aside0 p15→Aside0 p16→Aside0 p17→Aside0 p18→Aside0 p19→Aside0 p20→Aside0 p21→Aside0 p22→Aside0 p23→c):c:=h ⟨h1⟩ ⟨h2⟩ ⟨h3⟩ ⟨h4⟩ ⟨h5⟩ ⟨h6⟩ ⟨h7⟩ ⟨h8⟩ ⟨h9⟩ ⟨h10⟩ ⟨h11⟩ ⟨h12⟩ ⟨h13⟩ ⟨h14⟩ ⟨h15⟩ ⟨h16⟩ ⟨h17⟩ ⟨h18⟩ ⟨h19⟩ ⟨h20⟩ ⟨h21⟩ ⟨h22⟩ ⟨h23⟩
theorem Ya24 (h1:p1) (h2:p2) (h3:p3) (h4:p4) (h5:p5) (h6:p6) (h7:p7) (h8:p8) (h9:p9) (h10:p10) (h11:p11) (h12:p12) (h13:p13) (h14:p14) (h15:p15) (h16:p16) (h17:p17) (h18:p18) (h19:p19) (h20:p20) (h21:p21) (h22:p22) (h23:p23) (h24:p24) (h:Aside0 p1→Aside0 p2→Aside0 p3→Aside0 p4→Aside0 p5→Aside0 p6→Aside0 p7→Aside0 p8→Aside0 p9→Aside0 p10→Aside0 p11→Aside0 p12→Aside0 p13→Aside0 p14→Aside0 p15→Aside0 p16→Aside0 p17→Aside0 p18→Aside0 p19→Aside0 p20→Aside0 p21→Aside0 p22→Aside0 p23→Aside0 p24→c):c:=h ⟨h1⟩ ⟨h2⟩ ⟨h3⟩ ⟨h4⟩ ⟨h5⟩ ⟨h6⟩ ⟨h7⟩ ⟨h8⟩ ⟨h9⟩ ⟨h10⟩ ⟨h11⟩ ⟨h12⟩ ⟨h13⟩ ⟨h14⟩ ⟨h15⟩ ⟨h16⟩ ⟨h17⟩ ⟨h18⟩ ⟨h19⟩ ⟨h20⟩ ⟨h21⟩ ⟨h22⟩ ⟨h23⟩ ⟨h24⟩
end
end Go.Proofs.YthfpoacindblgaaDoor.P


namespace Go.Proofs.YthfpoacindblgaaDoor.P
open Go Go.MapKept Go.ChangeMaps Go.RowKit
section
variable {α:Type}

def mget (z:α) (k:ByteArray):List (ByteArray×α)→α
  | []=>z
  | p :: r=>if p.1.toList=k.toList then p.2 else mget z k r
def mhas (k:ByteArray):List (ByteArray×α)→Bool
  | []=>false
  | p :: r=>if p.1.toList=k.toList then true else mhas k r
def mput (k:ByteArray) (v:α):List (ByteArray×α)→List (ByteArray×α)
  | [] => [(k,v)]
  | p :: r=>if p.1.toList=k.toList then (k,v) :: r else p :: mput k v r

theorem str_eq {a b:ByteArray} (h:a.toList=b.toList):a=b:=by
  rw [Lib.toList_data,Lib.toList_data] at h
  cases a with
  | mk a => cases b with
    | mk b=>exact congrArg ByteArray.mk (Array.toList_inj.1 h)
theorem mget_not (z:α) (k:ByteArray):∀ M:List (ByteArray×α),mhas k M=false→mget z k M=z
  | [],_=>rfl
  | p :: r, h => by
    unfold mhas at h
    unfold mget
    split
    · rename_i e
      rw [if_pos e] at h
      cases h
    · rename_i e
      rw [if_neg e] at h
      exact mget_not z k r h
theorem mput_mem (k : ByteArray) (v : α) : ∀ (M : List (ByteArray × α)) (p : ByteArray × α), p ∈ mput k v M → p = (k, v) ∨ p ∈ M
  | [], p, h => by
    simp [mput] at h
    exact .inl h
  | q :: r, p, h => by
    unfold mput at h
    split at h
    · rcases List.mem_cons.1 h with rfl | h
      · exact .inl rfl
      · exact .inr (List.mem_cons_of_mem _ h)
    · rcases List.mem_cons.1 h with rfl | h
      · exact .inr List.mem_cons_self
      · rcases mput_mem k v r p h with h | h
        · exact .inl h
        · exact .inr (List.mem_cons_of_mem _ h)
theorem mput_keys (k:ByteArray) (v:α):∀ M:List (ByteArray×α),M.Pairwise (fun p q=>p.1≠q.1)→(mput k v M).Pairwise (fun p q=>p.1≠q.1)
  | [],_=>List.pairwise_singleton _ _
  | p :: r, h => by
    obtain ⟨h1,h2⟩:=List.pairwise_cons.1 h
    unfold mput
    split
    · rename_i e
      exact List.pairwise_cons.2 ⟨fun q hq=>by rw [←str_eq e];exact h1 q hq,h2⟩
    · rename_i e
      refine List.pairwise_cons.2 ⟨fun q hq => ?_,mput_keys k v r h2⟩
      rcases mput_mem k v r q hq with rfl|hq
      · exact fun e2=>e (by rw [e2])
      · exact h1 q hq
theorem mput_len (k:ByteArray) (v:α):∀ M:List (ByteArray×α),(mput k v M).length≤M.length+1
  | []=>by simp [mput]
  | p :: r => by
    unfold mput
    split
    · simp
    · have := mput_len k v r
      simp only [List.length_cons]
      omega

variable (enc:α→Value)
def pairs_ (M:List (ByteArray×α)):List (Value×Value):=M.map fun p=>(Value.string p.1,enc p.2)
/-- What is found at a key, and what a store leaves. -/
theorem find_pairs (k : ByteArray) : ∀ (es : List MapEntry) (M : List (ByteArray × α)) (i : Nat), es.map (fun e => (e.key, e.val)) = pairs_ enc M →
    (mhas k M=false∧Instr.findNow .string (.string k) es i=some none ∧ ∀ v,mput k v M=M ++ [(k,v)]) ∨
    ∃ j v, mhas k M = true ∧ (∀ z, mget z k M = v) ∧ Instr.findNow .string (.string k) es i = some (some (i + j, enc v)) ∧ (∃ e, es[j]? = some e ∧ e.key = .string k) ∧
      ∀ v',(es.modify j fun e => { e with key:=.string k,val:=enc v' }).map (fun e=>(e.key,e.val))=pairs_ enc (mput k v' M)
  | [],[],i,_ => .inl ⟨rfl,rfl,fun _=>rfl⟩
  | [],_ :: _,_,h=>by simp [pairs_] at h
  | _ :: _,[],_,h=>by simp [pairs_] at h
  | e :: es, p :: M, i, h => by
    simp only [pairs_,List.map_cons,List.cons.injEq,Prod.mk.injEq] at h
    obtain ⟨⟨hk,hv⟩,hr⟩:=h
    have ih:=find_pairs k es M (i+1) hr
    by_cases hp:p.1.toList=k.toList
    · obtain rfl := str_eq hp
      refine .inr ⟨0,p.2,by simp [mhas],fun z=>by simp [mget],?_,⟨e,rfl,hk⟩,fun v' => ?_⟩
      · rcases sameNow_of_keys (d := .string) (a := .string p.1) trivial (show IsKey .string e.key by rw [hk]; trivial) with ⟨r, hr', hi⟩
        have:r=true:=hi.2 hk.symm
        subst this
        simp [Instr.findNow,hr',hv]
      · simp only [List.modify_zero_cons, List.map_cons, pairs_, mput, if_true, List.cons.injEq, true_and]
        exact hr
    · have hne : p.1 ≠ k := fun e => hp (by rw [e])
      have hs:Instr.findNow .string (.string k) (e :: es) i=Instr.findNow .string (.string k) es (i+1):=by
        rcases sameNow_of_keys (d:=.string) (a:=.string k) trivial (show IsKey .string e.key by rw [hk];trivial) with ⟨r,hr',hi⟩
        cases r with
        | true =>
          have h2:=hi.1 rfl
          rw [hk] at h2
          injection h2 with h2
          exact absurd h2.symm hne
        | false=>simp [Instr.findNow,hr']
      rcases ih with ⟨h1,h2,h3⟩|⟨j,v,h1,h2,h3,h4,h5⟩
      · exact .inl ⟨by simp [mhas,hp,h1],by rw [hs,h2],fun v=>by simp [mput,hp,h3]⟩
      · refine .inr ⟨j + 1, v, by simp [mhas, hp, h1], fun z => by simp [mget, hp, h2], ?_, by simpa using h4, fun v' => ?_⟩
        · rw [hs,h3,Nat.add_right_comm,Nat.add_assoc]
        · simp only [List.modify_succ_cons,List.map_cons,h5 v',pairs_,mput,if_neg hp,hk,hv]

/-- BLOCK b OF w IS THE MAP OF M. -/
def MapAt (w:World) (b:Nat) (M:List (ByteArray×α)):Prop :=
  ∃ es clock,w.heap[b]? = some (.map es clock)∧es.toList.map (fun e=>(e.key,e.val))=pairs_ enc M∧(es.toList.map (·.born)).Nodup∧(∀ e ∈ es.toList,e.born<clock)∧M.Pairwise (fun p q=>p.1≠q.1)
variable {enc} {P:Program} {w:World} {b:Nat} {M:List (ByteArray×α)}
theorem MapAt.made (w:World):MapAt enc (w.alloc (.map #[] 0)) w.heap.size ([]:List (ByteArray×α)) :=
  ⟨#[],0,(MapKept.heap_alloc w _).1,rfl,by simp,by simp,List.Pairwise.nil⟩
theorem MapAt.lt (h:MapAt enc w b M):b<w.heap.size:=by
  obtain ⟨es,clock,hb,_⟩:=h
  exact (Array.getElem?_eq_some_iff.1 hb).1
theorem MapAt.kept {w':World} {row:Option Nat} (h:MapAt enc w b M) (hg:w.grownBy w' row) (hne:some b≠row):MapAt enc w' b M:=by
  have hlt:=h.lt
  obtain ⟨es,clock,hb,rest⟩:=h
  exact ⟨es,clock,(hg.block b hlt hne).trans hb,rest⟩
theorem MapAt.below {w':World} {n:Nat} (h:MapAt enc w b M) (hb:Below n w w') (hlt:b<n):MapAt enc w' b M:=by
  obtain ⟨es,clock,hb',rest⟩:=h
  exact ⟨es,clock,(hb.block b hlt).trans hb',rest⟩
theorem MapAt.alloc (h:MapAt enc w b M) (o:Obj):MapAt enc (w.alloc o) b M:=h.kept (World.grownBy_alloc w o none) (by simp)
theorem MapAt.look {t kt e:TypeId} (h:MapAt enc w b M) (ht:P.underlying t=some (.map kt e)) (hk:P.underlying kt=some .string) (z:α) (hz:(zeroValue e).run P w = .ok (enc z) w) (k:ByteArray) (ok:Bool) :
    (Instr.lookup t (.map (some b)) (.string k) ok).run P w = .ok (if ok=true then .tuple #[enc (mget z k M),.bool (mhas k M)] else enc (mget z k M)) w:=by
  obtain ⟨es,clock,hb,hes,_⟩:=h
  rcases find_pairs enc k es.toList M 0 hes with ⟨h1,h2,_⟩|⟨j,v,h1,h2,h3,_⟩
  · cases ok <;> simp [Instr.lookup,run_underlying ht,MapKept.run_getObj_map hb,run_checkKey (k:=.string k) hk trivial,run_findKey hk h2,hz,Result.andThen,h1,mget_not z k M h1]
  · cases ok <;> simp [Instr.lookup,run_underlying ht,MapKept.run_getObj_map hb,run_checkKey (k:=.string k) hk trivial,run_findKey hk h3,Result.andThen,h1,h2]
theorem map_born (es:List MapEntry) (j:Nat) (key val:Value):(es.modify j fun e => { e with key:=key,val:=val }).map (·.born)=es.map (·.born):=by
  induction es generalizing j with
  | nil=>simp
  | cons e es ih=>cases j <;> simp [ih]
theorem MapAt.store {t kt e : TypeId} (h : MapAt enc w b M) (ht : P.underlying t = some (.map kt e)) (hk : P.underlying kt = some .string) (k : ByteArray) (v : α) :
    ∃ w',(Instr.mapUpdate t (.map (some b)) (.string k) (enc v)).run P w = .ok () w'∧MapAt enc w' b (mput k v M)∧w.grownBy w' (some b)∧w'.heap.size=w.heap.size:=by
  obtain ⟨es,clock,hb,hes,hn,hc,hd⟩:=h
  rcases find_pairs enc k es.toList M 0 hes with ⟨h1,h2,h3⟩|⟨j,v0,h1,_,h3,⟨e0,h4,h4'⟩,h5⟩
  · refine ⟨setBlock w b (.map (es.push { key := .string k, val := enc v, born := clock }) (clock + 1)), ?_, ⟨_, _, heap_setBlock_same hb _, ?_, ?_, ?_, mput_keys k v M hd⟩, ⟨rfl, rfl, rfl, by simp [setBlock], fun i _ hi => heap_setBlock_other hb _ (fun e => hi (by rw [e]))⟩, by simp [setBlock]⟩
    · simp [Instr.mapUpdate,run_underlying ht,MapKept.run_getObj_map hb,run_checkKey (k:=.string k) hk trivial,run_findKey hk h2,MapKept.run_setObj_map _ hb,Result.andThen,setBlock]
    · rw [h3]
      simp [pairs_,hes]
    · rw [Array.toList_push, List.map_append, List.nodup_append]
      refine ⟨hn,by simp,fun a ha b' hb' => ?_⟩
      obtain ⟨x,hx,rfl⟩:=List.mem_map.1 ha
      simp at hb'
      have:=hc x hx
      omega
    · intro x hx
      rw [Array.toList_push,List.mem_append] at hx
      rcases hx with hx|hx
      · have := hc x hx
        omega
      · simp at hx
        rw [hx]
        exact Nat.lt_succ_self _
  · rw [Nat.zero_add] at h3
    have e1:(((es[j]?).map (·.key)).getD (.string k)) = .string k:=by
      rw [←Array.getElem?_toList,h4]
      exact h4'
    refine ⟨setBlock w b (.map (es.modify j fun e => { e with key:=.string k,val:=enc v }) clock),?_,⟨_,_,heap_setBlock_same hb _,?_,?_,?_,mput_keys k v M hd⟩,⟨rfl,rfl,rfl,by simp [setBlock],fun i _ hi=>heap_setBlock_other hb _ (fun e=>hi (by rw [e]))⟩,by simp [setBlock]⟩
    · simp [Instr.mapUpdate,run_underlying ht,MapKept.run_getObj_map hb,run_checkKey (k:=.string k) hk trivial,run_findKey hk h3,e1,run_keyThatStays (d:=.string) (k:=.string k) trivial,MapKept.run_setObj_map _ hb,Result.andThen,setBlock]
    · rw [Array.toList_modify]
      exact h5 v
    · rw [Array.toList_modify, map_born]
      exact hn
    · intro x hx
      have hm:x.born ∈ (es.toList.modify j fun e => { e with key:=.string k,val:=enc v }).map (·.born):=by
        rw [Array.toList_modify] at hx
        exact List.mem_map.2 ⟨x,hx,rfl⟩
      rw [map_born] at hm
      obtain ⟨y,hy,e2⟩:=List.mem_map.1 hm
      rw [←e2]
      exact hc y hy

/-- A RANGE OVER IT UNDER WAY: r is the iterator's block, L what is still to come. -/
def RngAt (enc : α → Value) (w : World) (b r : Nat) (M L : List (ByteArray × α)) : Prop :=
  ∃ es clock since seen c0, w.heap[b]? = some (.map es clock) ∧ es.toList.map (fun e => (e.key, e.val)) = pairs_ enc M ∧ (es.toList.map (·.born)).Nodup ∧ (∀ e ∈ es.toList, e.born < clock) ∧ M.Pairwise (fun p q => p.1 ≠ q.1) ∧
    w.heap[r]? = some (.mapIter (some b) since seen c0)∧(∀ x ∈ es.toList,x.born<since)∧since≤c0∧since≤clock∧(leftOf es seen).toList.map (fun e=>(e.key,e.val))=pairs_ enc L
variable {r:Nat} {L:List (ByteArray×α)}
theorem RngAt.map (h:RngAt enc w b r M L):MapAt enc w b M:=by
  obtain ⟨es,clock,_,_,_,h1,h2,h3,h4,h5,_⟩:=h
  exact ⟨es,clock,h1,h2,h3,h4,h5⟩
theorem RngAt.lt (h:RngAt enc w b r M L):r<w.heap.size:=by
  obtain ⟨es,clock,since,seen,c0,_,_,_,_,_,hr,_⟩:=h
  exact (Array.getElem?_eq_some_iff.1 hr).1
theorem RngAt.ne (h:RngAt enc w b r M L):r≠b:=by
  obtain ⟨es,clock,since,seen,c0,hb,_,_,_,_,hr,_⟩:=h
  intro e
  rw [e,hb] at hr
  cases hr
theorem RngAt.kept {w':World} {row:Option Nat} (h:RngAt enc w b r M L) (hg:w.grownBy w' row) (hb':some b≠row) (hr':some r≠row):RngAt enc w' b r M L:=by
  have h1:=h.map.lt
  have h2:=h.lt
  obtain ⟨es,clock,since,seen,c0,hb,a1,a2,a3,a4,hr,rest⟩:=h
  exact ⟨es,clock,since,seen,c0,(hg.block b h1 hb').trans hb,a1,a2,a3,a4,(hg.block r h2 hr').trans hr,rest⟩
def strV:Value→ByteArray
  | .string s=>s
  | _=>ByteArray.empty
theorem RngAt.keys (h:RngAt enc w b r M L):(L.map (·.1)).Sublist (M.map (·.1)):=by
  obtain ⟨es,clock,since,seen,c0,_,hM,_,_,_,_,_,_,_,hL⟩:=h
  have h1:((leftOf es seen).toList.map (·.key)).Sublist (es.toList.map (·.key)):=by
    unfold leftOf
    rw [Array.toList_filter]
    exact List.Sublist.map _ List.filter_sublist
  have e1:=congrArg (fun l:List (Value×Value)=>l.map (fun x=>strV x.1)) hM
  have e2:=congrArg (fun l:List (Value×Value)=>l.map (fun x=>strV x.1)) hL
  have h2:=h1.map strV
  simp only [pairs_,List.map_map] at e1 e2 h2
  have e3:∀ N:List (ByteArray×α),N.map ((fun x:Value×Value=>strV x.1)∘fun p=>(Value.string p.1,enc p.2))=N.map (·.1):=fun N=>rfl
  rw [e3] at e1 e2
  rw [←e1,←e2]
  exact h2
theorem MapAt.nodup (h:MapAt enc w b M):(M.map (·.1)).Nodup:=by
  obtain ⟨_,_,_,_,_,_,hd⟩:=h
  rw [List.nodup_iff_pairwise_ne,List.pairwise_map]
  exact hd
theorem mput_map (k : ByteArray) (v : α) : ∀ (M : List (ByteArray × α)) (x : ByteArray), x ∈ (mput k v M).map (·.1) ↔ x = k ∨ x ∈ M.map (·.1)
  | [],x=>by simp [mput]
  | p :: q, x => by
    unfold mput
    split
    · rename_i e
      have e':=str_eq e
      rw [List.map_cons,List.map_cons,List.mem_cons,List.mem_cons,e']
      constructor
      · rintro (h | h)
        · exact .inl h
        · exact .inr (.inr h)
      · rintro (h | h | h)
        · exact .inl h
        · exact .inl h
        · exact .inr h
    · rw [List.map_cons, List.mem_cons, mput_map k v q x, List.map_cons, List.mem_cons]
      constructor
      · rintro (h | h | h)
        · exact .inr (.inl h)
        · exact .inl h
        · exact .inr (.inr h)
      · rintro (h | h | h)
        · exact .inr (.inl h)
        · exact .inl h
        · exact .inr (.inr h)
theorem MapAt.range {t kt e:TypeId} (h:MapAt enc w b M) (ht:P.underlying t=some (.map kt e)) :
    ∃ w',(Instr.range t (.map (some b))).run P w = .ok (.pointer (some ⟨w.heap.size,0,none⟩)) w'∧RngAt enc w' b w.heap.size M M∧w.grownBy w' none∧w'.heap.size=w.heap.size+1:=by
  have hlt:=h.lt
  obtain ⟨es,clock,hb,h1,h2,h3,h4⟩:=h
  refine ⟨_,run_range_map w t kt e b es clock ht hb,⟨es,clock,clock,#[],clock,((MapKept.heap_alloc w _).2 b hlt).trans hb,h1,h2,h3,h4,(MapKept.heap_alloc w _).1,h3,Nat.le_refl _,Nat.le_refl _,?_⟩,World.grownBy_alloc w _ none,by simp⟩
  rw [←h1]
  congr 1
  unfold leftOf
  rw [Array.toList_filter]
  exact List.filter_eq_self.2 (fun x _=>by simp)
theorem left_push {es:Array MapEntry} {seen:Array Nat} {e:MapEntry} {E1 E2:List MapEntry} (hn:(es.toList.map (·.born)).Nodup) (h:(leftOf es seen).toList=E1++e :: E2):(leftOf es (seen.push e.born)).toList=E1++E2:=by
  have h1:(leftOf es (seen.push e.born)).toList=(leftOf es seen).toList.filter (fun x => !(x.born==e.born)):=by
    unfold leftOf
    rw [Array.toList_filter,Array.toList_filter,List.filter_filter]
    congr 1
    funext x
    rw [contains_push]
    cases seen.contains x.born <;> cases (x.born==e.born) <;> rfl
  have h2:((leftOf es seen).toList.map (·.born)).Nodup:=by
    unfold leftOf
    rw [Array.toList_filter]
    exact hn.sublist (List.Sublist.map _ List.filter_sublist)
  rw [h1,h]
  rw [h,List.map_append,List.map_cons,List.nodup_append] at h2
  obtain ⟨_,n2,n3⟩:=h2
  obtain ⟨n4,_⟩:=List.nodup_cons.1 n2
  rw [List.filter_append,List.filter_cons_of_neg (by simp),List.filter_eq_self.2 (fun x hx => ?_),List.filter_eq_self.2 (fun x hx => ?_)]
  · simp only [Bool.not_eq_true', beq_eq_false_iff_ne]
    exact fun e1=>n4 (by rw [←e1];exact List.mem_map.2 ⟨x,hx,rfl⟩)
  · simp only [Bool.not_eq_true', beq_eq_false_iff_ne]
    exact n3 _ (List.mem_map.2 ⟨x,hx,rfl⟩) _ List.mem_cons_self
theorem RngAt.next (h:RngAt enc w b r M L) (ty:TypeId) :
    (L = []∧(Instr.next (.pointer (some ⟨r,0,none⟩)) false ty).run P w = .ok (.tuple #[.bool false]) w) ∨
    ∃ L1 p L2 w', L = L1 ++ p :: L2 ∧ (Instr.next (.pointer (some ⟨r, 0, none⟩)) false ty).run P w = .ok (.tuple #[.bool true, .string p.1, enc p.2]) w' ∧ RngAt enc w' b r M (L1 ++ L2) ∧ w.grownBy w' (some r) ∧ w'.heap.size = w.heap.size ∧
      (Instr.entry (.pointer (some ⟨r,0,none⟩))).run P w' = .ok (.tuple #[.string p.1,enc p.2]) w':=by
  have hne:=h.ne
  obtain ⟨es,clock,since,seen,c0,hb,h1,h2,h3,h4,hr,hold,hsc,hsk,hL⟩:=h
  rcases run_next_at (P:=P) w ty r b since c0 seen es clock hr hb hold hsc with ⟨h0,hrun⟩|⟨e,he,w1,hal,hrun⟩
  · refine Or.inl ⟨?_, hrun⟩
    have:leftOf es seen = #[]:=Array.eq_empty_of_size_eq_zero h0
    rw [this] at hL
    simpa [pairs_] using hL.symm
  · have hem := (mem_left he).1
    obtain ⟨E1,E2,hE⟩:=List.append_of_mem he
    rw [hE,List.map_append,List.map_cons] at hL
    obtain ⟨L1,L',rfl,e1,e2⟩:=List.map_eq_append_iff.1 (show L.map (fun p=>(Value.string p.1,enc p.2))=_ from hL.symm)
    obtain ⟨p,L2,rfl,e3,e4⟩:=List.map_eq_cons_iff.1 e2
    have hk:e.key = .string p.1:=(congrArg Prod.fst e3).symm
    have hv:e.val=enc p.2:=(congrArg Prod.snd e3).symm
    have hr1:w1.heap[r]? = some (.mapIter (some b) since seen c0):=by rcases hal with rfl|rfl <;> exact hr
    have hb1:w1.heap[b]? = some (.map es clock):=by rcases hal with rfl|rfl <;> exact hb
    have hset:=heap_set (o':=.mapIter (some b) since (seen.push e.born) clock) hr1
    have hb':(setBlock w1 r (.mapIter (some b) since (seen.push e.born) clock)).heap[b]? = some (.map es clock):=(hset.2 b (fun e1=>hne e1.symm)).trans hb1
    have hen:=run_entry_at (P:=P) _ r b since seen es clock e hset.1 hb' hem h2
    rw [hk,hv] at hrun hen
    refine Or.inr ⟨L1,p,L2,_,rfl,hrun,⟨es,clock,since,seen.push e.born,clock,hb',h1,h2,h3,h4,hset.1,hold,hsk,hsk,?_⟩,?_,?_,hen⟩
    · rw [left_push h2 hE,List.map_append,pairs_,List.map_append,e1,e4]
    · rcases hal with rfl|rfl <;> exact ⟨rfl,rfl,rfl,by simp [setBlock],fun i _ hi=>hset.2 i (fun e1=>hi (by rw [e1]))⟩
    · rcases hal with rfl|rfl <;> simp [setBlock]

variable {ops:Array Oper} {rest:List Oper} {o:Oper} {a:Act} {Q:Exit→Act→World→Prop}
theorem wpList_make_M (enc:α→Value) (w:World) (hg:o.guard=none) (t:TypeId) (hop:o.op=Op.makeMap t none)
    (hK:∀ b w',b=w.heap.size→MapAt enc w' b ([]:List (ByteArray×α))→Below w.heap.size w w'→wpList P ops Q rest (a.put o.dst (.map (some b))) w'):wpList P ops Q (o :: rest) a w:=by
  refine wpList_plain hg fun K' hK' => ?_
  have hrun:(Instr.makeMap t none).run P w = .ok (.map (some w.heap.size)) (w.alloc (.map #[] 0)):=rfl
  unfold Oper.wp
  simp [execOp,hop,hrun,Result.andThen]
  exact hK' _ _ (hK _ _ rfl (MapAt.made w) ((Below.refl _ w).alloc (Nat.le_refl _) _))
theorem wpList_look_M (w:World) (hg:o.guard=none) (m x:Operand) (t:TypeId) (hop:o.op=Op.lookup t m x false) (kt e:TypeId) (ht:P.underlying t=some (.map kt e)) (hk:P.underlying kt=some .string) (z:α) (hz:(zeroValue e).run P w = .ok (enc z) w)
    (b:Nat) (M:List (ByteArray×α)) (hm:a.eval m = .map (some b)) (h:MapAt enc w b M) (k:ByteArray) (hx:a.eval x = .string k) (u:Value) (hu:enc (mget z k M)=u)
    (hK:wpList P ops Q rest (a.put o.dst u) w):wpList P ops Q (o :: rest) a w:=by
  subst hu
  refine wpList_plain hg fun K' hK' => ?_
  have hrun:=h.look ht hk z hz k false
  rw [if_neg (by simp)] at hrun
  unfold Oper.wp
  simp [execOp,hop,hm,hx,hrun,Result.andThen]
  exact hK' _ _ hK
theorem wpList_look_ok_M (w:World) (hg:o.guard=none) (m x:Operand) (t:TypeId) (hop:o.op=Op.lookup t m x true) (kt e:TypeId) (ht:P.underlying t=some (.map kt e)) (hk:P.underlying kt=some .string) (z:α) (hz:(zeroValue e).run P w = .ok (enc z) w)
    (b:Nat) (M:List (ByteArray×α)) (hm:a.eval m = .map (some b)) (h:MapAt enc w b M) (k:ByteArray) (hx:a.eval x = .string k) (u:Value) (hu:enc (mget z k M)=u) (ok:Bool) (hok:mhas k M=ok)
    (hK:wpList P ops Q rest (a.put o.dst (.tuple #[u,.bool ok])) w):wpList P ops Q (o :: rest) a w:=by
  subst hu
  subst hok
  refine wpList_plain hg fun K' hK' => ?_
  have hrun:=h.look ht hk z hz k true
  rw [if_pos rfl] at hrun
  unfold Oper.wp
  simp [execOp,hop,hm,hx,hrun,Result.andThen]
  exact hK' _ _ hK
theorem wpList_store_M (w:World) (hg:o.guard=none) (m x v:Operand) (t:TypeId) (hop:o.op=Op.mapUpdate t m x v) (kt e:TypeId) (ht:P.underlying t=some (.map kt e)) (hk:P.underlying kt=some .string)
    (b:Nat) (M:List (ByteArray×α)) (hm:a.eval m = .map (some b)) (h:MapAt enc w b M) (k:ByteArray) (hx:a.eval x = .string k) (y:α) (hv:a.eval v=enc y)
    (hK:∀ w',MapAt enc w' b (mput k y M)→w.grownBy w' (some b)→w'.heap.size=w.heap.size→wpList P ops Q rest (a.put o.dst undef) w'):wpList P ops Q (o :: rest) a w:=by
  refine wpList_plain hg fun K' hK' => ?_
  obtain ⟨w',hrun,r1,r2,r3⟩:=h.store ht hk k y
  unfold Oper.wp
  simp [execOp,hop,hm,hx,hv,hrun,Result.andThen]
  exact hK' _ _ (hK w' r1 r2 r3)
theorem wpList_range_M (w:World) (hg:o.guard=none) (m:Operand) (t:TypeId) (hop:o.op=Op.range t m) (kt e:TypeId) (ht:P.underlying t=some (.map kt e)) (b:Nat) (M:List (ByteArray×α)) (hm:a.eval m = .map (some b)) (h:MapAt enc w b M)
    (hK:∀ r w',r=w.heap.size→RngAt enc w' b r M M→w.grownBy w' none→wpList P ops Q rest (a.put o.dst (.pointer (some ⟨r,0,none⟩))) w') :
    wpList P ops Q (o :: rest) a w:=by
  refine wpList_plain hg fun K' hK' => ?_
  obtain ⟨w',hrun,r1,r2,_⟩:=h.range ht
  unfold Oper.wp
  simp [execOp,hop,hm,hrun,Result.andThen]
  exact hK' _ _ (hK _ w' rfl r1 r2)
/-- What the range's step has brought. -/
structure Came (enc:α→Value) (P:Program) (w w':World) (b r:Nat) (M L:List (ByteArray×α)) where
  L1:List (ByteArray×α)
  k:ByteArray
  x:α
  L2:List (ByteArray×α)
  hL:L=L1++(k,x) :: L2
  hR:RngAt enc w' b r M (L1++L2)
  hg:w.grownBy w' (some r)
  hen:(Instr.entry (.pointer (some ⟨r,0,none⟩))).run P w' = .ok (.tuple #[.string k,enc x]) w'
theorem wpList_next_M (w:World) (hg:o.guard=none) (it:Operand) (hop:o.op=Op.next it false) (b r:Nat) (M L:List (ByteArray×α)) (hit:a.eval it = .pointer (some ⟨r,0,none⟩)) (h:RngAt enc w b r M L)
    (hDone:L = []→wpList P ops Q rest (a.put o.dst (.tuple #[.bool false])) w)
    (hMore:∀ w' (cm:Came enc P w w' b r M L),wpList P ops Q rest (a.put o.dst (.tuple #[.bool true,.string cm.k,enc cm.x])) w') :
    wpList P ops Q (o :: rest) a w:=by
  refine wpList_plain hg fun K' hK' => ?_
  unfold Oper.wp
  rcases h.next (P:=P) o.type with ⟨h0,hrun⟩|⟨L1,p,L2,w',h0,hrun,hrg,hgr,hsz,hen⟩
  · simp [execOp, hop, hit, hrun, Result.andThen]
    exact hK' _ _ (hDone h0)
  · simp [execOp, hop, hit, hrun, Result.andThen]
    exact hK' _ _ (hMore w' ⟨L1,p.1,p.2,L2,h0,hrg,hgr,hen⟩)
end
theorem MapAt.over {α:Type} {enc:α→Value} {w W w':World} {b:Nat} {M:List (ByteArray×α)} (h:MapAt enc w b M) (hb:Below W.heap.size W w') (e:W.heap=w.heap):MapAt enc w' b M:=by
  have hlt:=h.lt
  obtain ⟨es,clock,hb',rest⟩:=h
  exact ⟨es,clock,(hb.block b (by rw [e];exact hlt)).trans (by rw [e];exact hb'),rest⟩
theorem MapAt.heap {α:Type} {enc:α→Value} {w W:World} {b:Nat} {M:List (ByteArray×α)} (h:MapAt enc w b M) (e:W.heap=w.heap):MapAt enc W b M:=by
  obtain ⟨es,clock,hb',rest⟩:=h
  exact ⟨es,clock,by rw [e];exact hb',rest⟩
def allK {α:Type} (Ms:List (Nat×List (ByteArray×α))):List ByteArray:=Ms.flatMap fun p=>p.2.map (·.1)
def sizeK {α:Type} (Ms:List (Nat×List (ByteArray×α))):Nat:=(Ms.map fun p=>p.2.length).sum
theorem maps_two {α:Type} {enc:α→Value} {w:World} {b c:Nat} {M N:List (ByteArray×α)} (h1:MapAt enc w b M) (h2:MapAt enc w c N):∀ i,(h:i < [(b,M),(c,N)].length)→MapAt enc w [(b,M),(c,N)][i].1 [(b,M),(c,N)][i].2:=by
  intro i h
  match i,h with
  | 0,_=>exact h1
  | 1,_=>exact h2
  | j+2,h=>exact absurd h (by simp)
theorem allK_two {α:Type} (b c:Nat) (M N:List (ByteArray×α)):allK [(b,M),(c,N)]=M.map (·.1)++N.map (·.1):=by simp [allK]
theorem cell_two {α:Type} (b c t:Nat) (M N:List (ByteArray×α)) (W:World):∀ i,(h:i < [(b,M),(c,N)].length)→(W.alloc (.cells #[.map (some b),.map (some c)] t)).cell? (Addr.add ⟨W.heap.size,0,none⟩ i)=some (.map (some [(b,M),(c,N)][i].1)):=by
  intro i h
  match i,h with
  | 0,_=>simp [Addr.add]
  | 1,_=>simp [Addr.add]
  | j+2,h=>exact absurd h (by simp)
end Go.Proofs.YthfpoacindblgaaDoor.P


namespace Go.Proofs.YthfpoacindblgaaDoor.Pure
open Go Go.RowKit Go.Proofs.YthfpoacindblgaaDoorW.PrintWords Go.Proofs.YthfpoacindblgaaDoorW.PrintLast
set_option linter.unusedVariables false
set_option linter.unusedSimpArgs false

theorem w64 {n:Int} (h0 : -9223372036854775808≤n) (h1:n≤9223372036854775807):wrap64 n=n:=by
  unfold wrap64
  omega
theorem u64w (n:Int):IntKind.u64.wrap n=n % 18446744073709551616:=by
  simp [IntKind.wrap,IntKind.bits,IntKind.signed]
theorem u64_in {n:Int} (h0:0≤n) (h1:n<18446744073709551616):IntKind.u64.wrap n=n:=by
  rw [u64w]
  exact Int.emod_eq_of_lt h0 h1
theorem u64_range (n:Int):0≤IntKind.u64.wrap n∧IntKind.u64.wrap n<18446744073709551616:=by
  rw [u64w]
  omega

theorem size_toList (s:ByteArray):s.data.toList.length=s.size:=rfl
theorem bt_getD (s:ByteArray) (i:Nat):bt s (i:Int)=((s.data.toList.getD i 0).toNat:Int):=by
  unfold bt
  simp only [Int.toNat_natCast]
  split
  · rename_i h
    rw [List.getD_eq_getElem?_getD,List.getElem?_eq_getElem (by exact h)]
    rfl
  · rename_i h
    rw [List.getD_eq_getElem?_getD,List.getElem?_eq_none (by exact Nat.le_of_not_lt h)]
    rfl
theorem bt0 (s:ByteArray) (i:Int):0≤bt s i:=(bt_range s i).1
theorem bt1 (s:ByteArray) (i:Int):bt s i≤255:=(bt_range s i).2

theorem ba_ext {s t:ByteArray} (h:s.data.toList=t.data.toList):s=t:=by
  cases s with
  | mk a => cases t with
    | mk b=>exact congrArg ByteArray.mk (Array.toList_inj.1 h)
theorem data_append (s t:ByteArray):(s++t).data.toList=s.data.toList++t.data.toList:=by
  simp [ByteArray.data_append]
theorem son_data (xs:List Int):(strOfNums xs).data.toList=xs.map fun n=>UInt8.ofNat n.toNat:=by
  have:=strOfNums_data xs
  exact this
theorem son_size (xs:List Int):(strOfNums xs).size=xs.length:=by
  rw [←size_toList,son_data,List.length_map]
theorem son_append (xs ys:List Int):strOfNums (xs++ys)=strOfNums xs++strOfNums ys:=by
  apply ba_ext
  rw [data_append,son_data,son_data,son_data,List.map_append]
theorem ba_empty:(⟨#[]⟩:ByteArray).data.toList = []:=rfl
theorem ba_append_empty (s:ByteArray):s++(⟨#[]⟩:ByteArray)=s:=ba_ext (by rw [data_append,ba_empty,List.append_nil])
theorem ba_empty_append (s:ByteArray):(⟨#[]⟩:ByteArray)++s=s:=ba_ext (by rw [data_append,ba_empty,List.nil_append])

/-- One number of rounds for what each wants some. -/
theorem ev_of {α:Type} {g:Nat→Option α} {r:α} (K:Nat) (h:∀ k,K<k→g k=some r):Ev g r:=⟨K+1,fun k hk=>h k (by omega)⟩

theorem bytesOf_len (s:ByteArray):(bytesOf s).length=s.size:=by
  unfold bytesOf
  rw [List.length_map,size_toList]
theorem son_bytesOf (s:ByteArray):strOfNums (bytesOf s)=s:=by
  apply ba_ext
  rw [son_data,bytesOf,List.map_map]
  have:((fun n:Int=>UInt8.ofNat n.toNat)∘fun b:UInt8=>(b.toNat:Int))=id:=by
    funext b
    simp
  rw [this,List.map_id]
theorem ba_assoc (a b c:ByteArray):a++b++c=a++(b++c):=ba_ext (by simp only [data_append,List.append_assoc])

section
variable {α β:Type}
theorem Ev.pos {c:Prop} [Decidable c] {A B:Nat→Option α} {r:α} (h:c) (e:Ev A r):Ev (fun k=>if c then A k else B k) r:=Ev.congr (fun k=>by rw [if_pos h]) e
theorem Ev.neg {c:Prop} [Decidable c] {A B:Nat→Option α} {r:α} (h:¬ c) (e:Ev B r):Ev (fun k=>if c then A k else B k) r:=Ev.congr (fun k=>by rw [if_neg h]) e
theorem Ev.both {c:Prop} [Decidable c] {A B:Nat→Option α} {r s:α} (h1:c→Ev A r) (h2:¬ c→Ev B s):Ev (fun k=>if c then A k else B k) (if c then r else s):=by
  by_cases h:c
  · rw [if_pos h]
    exact Ev.pos h (h1 h)
  · rw [if_neg h]
    exact Ev.neg h (h2 h)
theorem Ev.sb {y:β} {f:Nat→β→Option α} {r:α} (e:Ev (fun k=>f k y) r):Ev (fun k=>(some y).bind (f k)) r:=e
/-- With rounds enough, something comes out of which Q holds. -/
def Evs (g:Nat→Option α) (Q:α→Prop):Prop:=∃ r,Q r∧Ev g r
theorem Evs.of {g:Nat→Option α} {Q:α→Prop} {r:α} (h:Ev g r) (hq:Q r):Evs g Q:=⟨r,hq,h⟩
theorem Evs.ret {Q:α→Prop} {r:α} (hq:Q r):Evs (fun _=>some r) Q:=⟨r,hq,Ev.now r⟩
theorem Evs.mono {g:Nat→Option α} {Q R:α→Prop} (h:Evs g Q) (hq:∀ r,Q r→R r):Evs g R:=by
  obtain ⟨r,a,b⟩:=h
  exact ⟨r,hq r a,b⟩
theorem Evs.step {g f:Nat→Option α} {Q:α→Prop} (h:∀ k,g (k+1)=f k) (e:Evs f Q):Evs g Q:=by
  obtain ⟨r,a,b⟩:=e
  exact ⟨r,a,Ev.step h b⟩
theorem Evs.congr {g f:Nat→Option α} {Q:α→Prop} (h:∀ k,g k=f k) (e:Evs f Q):Evs g Q:=by
  obtain ⟨r,a,b⟩:=e
  exact ⟨r,a,Ev.congr h b⟩
theorem Evs.bind {g:Nat→Option α} {f:Nat→α→Option β} {Q:α→Prop} {R:β→Prop} (e:Evs g Q) (h:∀ a,Q a→Evs (fun k=>f k a) R):Evs (fun k=>(g k).bind (f k)) R:=by
  obtain ⟨a,ha,ea⟩:=e
  obtain ⟨r,hr,er⟩:=h a ha
  exact ⟨r,hr,Ev.bind ea er⟩
theorem Evs.sb {y:β} {f:Nat→β→Option α} {Q:α→Prop} (e:Evs (fun k=>f k y) Q):Evs (fun k=>(some y).bind (f k)) Q:=e
theorem Evs.pos {c:Prop} [Decidable c] {A B:Nat→Option α} {Q:α→Prop} (h:c) (e:Evs A Q):Evs (fun k=>if c then A k else B k) Q:=Evs.congr (fun k=>by rw [if_pos h]) e
theorem Evs.neg {c:Prop} [Decidable c] {A B:Nat→Option α} {Q:α→Prop} (h:¬ c) (e:Evs B Q):Evs (fun k=>if c then A k else B k) Q:=Evs.congr (fun k=>by rw [if_neg h]) e
theorem Evs.ite {c:Prop} [Decidable c] {A B:Nat→Option α} {Q:α→Prop} (h1:c→Evs A Q) (h2:¬ c→Evs B Q):Evs (fun k=>if c then A k else B k) Q:=by
  by_cases h:c
  · exact Evs.pos h (h1 h)
  · exact Evs.neg h (h2 h)
theorem Evs.rounds {g:Nat→Option α} {Q:α→Prop} (h:Evs g Q):∃ k r,Q r∧g k=some r:=by
  obtain ⟨r,hq,e⟩:=h
  obtain ⟨k,hk⟩:=Ev.rounds e
  exact ⟨k,r,hq,hk⟩
end

theorem rd_eq {α:Type} (d:α) {l:List α} {i:Nat} (h:i<l.length):rdOf d l (i:Int)=l[i]:=by
  unfold rdOf
  rw [Int.toNat_natCast,List.getD_eq_getElem?_getD,List.getElem?_eq_getElem h]
  rfl
end Go.Proofs.YthfpoacindblgaaDoor.Pure


namespace Go.Proofs.YthfpoacindblgaaDoor.Pure
open Go Go.RowKit Go.Proofs.YthfpoacindblgaaDoor.P Go.Proofs.YthfpoacindblgaaDoorW.PrintWords Go.Proofs.YthfpoacindblgaaDoorW.PrintLast
set_option linter.unusedVariables false
set_option linter.unusedSimpArgs false

abbrev less:=Op.bytesLess
theorem less_irrefl:∀ a:List UInt8,less a a=false
  | []=>by simp [less,Op.bytesLess]
  | a :: x => by
    have:=less_irrefl x
    simpa [less,Op.bytesLess] using this
theorem less_trans : ∀ a b c : List UInt8, less a b = true → less b c = true → less a c = true
  | [],[],c,h1,h2=>by simp [less,Op.bytesLess] at h1
  | [],_ :: _,[],h1,h2=>by simp [less,Op.bytesLess] at h2
  | [],_ :: _,_ :: _,h1,h2=>by simp [less,Op.bytesLess]
  | _ :: _,[],c,h1,h2=>by simp [less,Op.bytesLess] at h1
  | _ :: _,_ :: _,[],h1,h2=>by simp [less,Op.bytesLess] at h2
  | a :: x, b :: y, c :: z, h1, h2 => by
    have ih:=less_trans x y z
    simp only [less,Op.bytesLess] at h1 h2 ih ⊢
    by_cases e1:a=b
    · subst e1
      by_cases e2:a=c
      · subst e2
        simp at h1 h2 ⊢
        exact ih h1 h2
      · simp [e2] at h1 h2 ⊢
        exact h2
    · by_cases e2 : b = c
      · subst e2
        simp [e1] at h1 h2 ⊢
        exact h1
      · simp [e1, e2] at h1 h2
        have h3:a<c:=UInt8.lt_trans h1 h2
        have h4:a≠c:=fun e=>by
          subst e
          simp only [UInt8.lt_iff_toNat_lt] at h1 h2
          omega
        simp [h3,h4]
theorem less_or {a b:List UInt8} (h:less a b=false) (hn:a≠b):less b a=true:=by
  have:=less_turn a b
  rw [show Op.bytesLess a b=false from h,show (a==b)=false from beq_eq_false_iff_ne.2 hn] at this
  simpa using this.symm
theorem cmp_less : ∀ a b : List UInt8, Lib.compareBytes a b = if a = b then 0 else if less a b = true then -1 else 1
  | [],[]=>by simp [Lib.compareBytes]
  | [],_ :: _=>by simp [Lib.compareBytes,less,Op.bytesLess]
  | _ :: _,[]=>by simp [Lib.compareBytes,less,Op.bytesLess]
  | a :: x, b :: y => by
    have ih:=cmp_less x y
    simp only [Lib.compareBytes,less,Op.bytesLess] at ih ⊢
    by_cases e:a=b
    · subst e
      have hn:¬ a<a:=by simp only [UInt8.lt_iff_toNat_lt];omega
      rw [if_neg hn,if_neg hn,ih]
      simp
    · by_cases h1 : a < b
      · simp [e,h1]
      · have h2 : b < a := by
          have:a.toNat≠b.toNat:=fun e'=>e (UInt8.toNat_inj.1 e')
          simp only [UInt8.lt_iff_toNat_lt] at h1 ⊢; omega
        simp [e,h1,h2]
theorem cmp_pos {a b : List UInt8} : Lib.compareBytes a b > 0 ↔ less b a = true := by
  rw [cmp_less]
  by_cases e:a=b
  · subst e
    rw [if_pos rfl,less_irrefl]
    simp
  · rw [if_neg e]
    by_cases h:less a b=true
    · rw [if_pos h]
      constructor
      · intro h'
        omega
      · intro h'
        have:=less_trans _ _ _ h h'
        rw [less_irrefl] at this
        cases this
    · rw [if_neg h]
      exact ⟨fun _=>less_or (Bool.eq_false_iff.2 h) e,fun _=>by decide⟩
theorem cmp_zero {a b:List UInt8}:Lib.compareBytes a b=0 ↔ a=b:=by
  rw [cmp_less]
  by_cases e:a=b
  · simp [e]
  · rw [if_neg e]
    refine ⟨fun h => ?_,fun h=>absurd h e⟩
    split at h <;> simp at h

end Go.Proofs.YthfpoacindblgaaDoor.Pure


namespace Go.Proofs.YthfpoacindblgaaDoor.Pure
open Go Go.RowKit Go.Proofs.YthfpoacindblgaaDoor.P Go.Proofs.YthfpoacindblgaaDoorW.PrintWords Go.Proofs.YthfpoacindblgaaDoorW.PrintLast
set_option linter.unusedVariables false
set_option linter.unusedSimpArgs false

def ltS (a b:ByteArray):Prop:=less a.toList b.toList=true
theorem ltS_irrefl (a:ByteArray):¬ ltS a a:=fun h=>by
  unfold ltS at h
  rw [less_irrefl] at h
  cases h
theorem ltS_trans {a b c:ByteArray} (h1:ltS a b) (h2:ltS b c):ltS a c:=less_trans _ _ _ h1 h2
theorem ltS_ne {a b:ByteArray} (h:ltS a b):a≠b:=fun e=>by
  subst e
  exact ltS_irrefl _ h
theorem ascS_unique : ∀ a b : List ByteArray, a.Pairwise ltS → b.Pairwise ltS → (∀ x, x ∈ a ↔ x ∈ b) → a = b
  | [],[],_,_,_=>rfl
  | [], y :: b, _, _, h => by
    have:=(h y).2 List.mem_cons_self
    simp at this
  | x :: a, [], _, _, h => by
    have:=(h x).1 List.mem_cons_self
    simp at this
  | x :: a, y :: b, ha, hb, h => by
    obtain ⟨a1,a2⟩:=List.pairwise_cons.1 ha
    obtain ⟨b1,b2⟩:=List.pairwise_cons.1 hb
    have hxy:x=y:=by
      rcases List.mem_cons.1 ((h x).1 List.mem_cons_self) with e|hx
      · exact e
      · rcases List.mem_cons.1 ((h y).2 List.mem_cons_self) with e | hy
        · exact e.symm
        · exact absurd (ltS_trans (a1 y hy) (b1 x hx)) (ltS_irrefl x)
    subst hxy
    rw [ascS_unique a b a2 b2 (fun z => ?_)]
    constructor
    · intro hz
      rcases List.mem_cons.1 ((h z).1 (List.mem_cons_of_mem _ hz)) with rfl|h'
      · exact absurd (a1 z hz) (ltS_irrefl z)
      · exact h'
    · intro hz
      rcases List.mem_cons.1 ((h z).2 (List.mem_cons_of_mem _ hz)) with rfl|h'
      · exact absurd (b1 z hz) (ltS_irrefl z)
      · exact h'
def insS (k:ByteArray):List ByteArray→List ByteArray
  | [] => [k]
  | y :: r=>if y.toList=k.toList then y :: r else if less k.toList y.toList=true then k :: y :: r else y :: insS k r
theorem insS_mem (k : ByteArray) : ∀ (l : List ByteArray) (x : ByteArray), x ∈ insS k l ↔ x = k ∨ x ∈ l
  | [],x=>by simp [insS]
  | y :: r, x => by
    unfold insS
    split
    · rename_i e
      have e':=str_eq e
      subst e'
      simp
    · split
      · simp
      · rw [List.mem_cons, insS_mem k r x, List.mem_cons]
        constructor
        · rintro (h | h | h)
          · exact .inr (.inl h)
          · exact .inl h
          · exact .inr (.inr h)
        · rintro (h | h | h)
          · exact .inr (.inl h)
          · exact .inl h
          · exact .inr (.inr h)
theorem insS_asc (k : ByteArray) : ∀ l : List ByteArray, l.Pairwise ltS → (insS k l).Pairwise ltS
  | [],_=>List.pairwise_singleton _ _
  | y :: r, h => by
    obtain ⟨h1,h2⟩:=List.pairwise_cons.1 h
    unfold insS
    split
    · exact h
    · rename_i hne
      split
      · rename_i hl
        refine List.pairwise_cons.2 ⟨fun z hz => ?_,h⟩
        rcases List.mem_cons.1 hz with rfl|hz
        · exact hl
        · exact ltS_trans hl (h1 z hz)
      · rename_i hl
        refine List.pairwise_cons.2 ⟨fun z hz => ?_,insS_asc k r h2⟩
        rcases (insS_mem k r z).1 hz with rfl|hz
        · exact less_or (Bool.eq_false_iff.2 hl) (fun e=>hne e.symm)
        · exact h1 z hz
def keysS (l:List ByteArray):List ByteArray:=l.foldl (fun acc k=>insS k acc) []
theorem keysS_fold:∀ (l acc:List ByteArray),acc.Pairwise ltS→(l.foldl (fun acc k=>insS k acc) acc).Pairwise ltS ∧ ∀ x,x ∈ l.foldl (fun acc k=>insS k acc) acc ↔ x ∈ l∨x ∈ acc
  | [],acc,h=>⟨h,fun x=>by simp⟩
  | k :: r, acc, h => by
    obtain ⟨h1,h2⟩:=keysS_fold r (insS k acc) (insS_asc k acc h)
    refine ⟨h1,fun x => ?_⟩
    rw [List.foldl_cons,h2,insS_mem,List.mem_cons]
    constructor
    · rintro (h | h | h)
      · exact .inl (.inr h)
      · exact .inl (.inl h)
      · exact .inr h
    · rintro ((h | h) | h)
      · exact .inr (.inl h)
      · exact .inl h
      · exact .inr (.inr h)
theorem keysS_asc (l:List ByteArray):(keysS l).Pairwise ltS:=(keysS_fold l [] List.Pairwise.nil).1
theorem keysS_mem (l:List ByteArray) (x:ByteArray):x ∈ keysS l ↔ x ∈ l:=by
  have:=(keysS_fold l [] List.Pairwise.nil).2 x
  simpa [keysS] using this
theorem insS_len (k : ByteArray) : ∀ l : List ByteArray, (insS k l).length ≤ l.length + 1
  | []=>by simp [insS]
  | y :: r => by
    unfold insS
    split
    · simp
    · split
      · simp
      · have := insS_len k r
        simp only [List.length_cons]
        omega
theorem keysS_len_fold:∀ (l acc:List ByteArray),(l.foldl (fun acc k=>insS k acc) acc).length≤l.length+acc.length
  | [],acc=>by simp
  | k :: r, acc => by
    have h1:=keysS_len_fold r (insS k acc)
    have h2:=insS_len k acc
    rw [List.foldl_cons,List.length_cons]
    omega
theorem keysS_len (l:List ByteArray):(keysS l).length≤l.length:=by
  have:=keysS_len_fold l []
  simpa [keysS] using this
/-- Keys, each once, in whatever order: sorted they are these. -/
theorem sorted_keys (ks ks' : List ByteArray) (hn : ks.Nodup) (hm : ∀ x, x ∈ ks ↔ x ∈ ks') : (ks.map fun k => k.data.toList).mergeSort (fun x y => decide (x ≤ y)) = (keysS ks').map fun k => k.data.toList := by
  have tr:∀ a b c:List UInt8,decide (a≤b)=true→decide (b≤c)=true→decide (a≤c)=true:=fun a b c h1 h2=>by simp only [decide_eq_true_eq] at *; exact List.le_trans h1 h2
  have tot:∀ a b:List UInt8,(decide (a≤b)||decide (b≤a))=true:=fun a b=>by simp only [Bool.or_eq_true,decide_eq_true_eq];exact List.le_total a b
  have hp:=List.mergeSort_perm (ks.map fun k=>k.data.toList) (fun x y=>decide (x≤y))
  have hs:=List.pairwise_mergeSort (le:=fun x y=>decide (x≤y)) tr tot (ks.map fun k=>k.data.toList)
  generalize (ks.map fun k=>k.data.toList).mergeSort (fun x y=>decide (x≤y))=T at hp hs ⊢
  have hfg:∀ l:List UInt8,(⟨l.toArray⟩:ByteArray).data.toList=l:=fun l=>by simp
  have hgf:∀ k:ByteArray,(⟨k.data.toList.toArray⟩:ByteArray)=k:=fun k=>by simp
  have hT:T=(T.map fun l=>(⟨l.toArray⟩:ByteArray)).map fun k=>k.data.toList:=by
    rw [List.map_map]
    exact (List.map_id'' (fun l=>hfg l) T).symm
  have hnT:T.Nodup:=hp.nodup_iff.2 (by
    rw [List.nodup_iff_pairwise_ne,List.pairwise_map]
    exact List.Pairwise.imp (fun {a b} h e=>h (by rw [←hgf a,←hgf b,e])) hn)
  have e:(T.map fun l=>(⟨l.toArray⟩:ByteArray))=keysS ks':=by
    refine ascS_unique _ _ ?_ (keysS_asc ks') (fun x => ?_)
    · rw [List.pairwise_map]
      refine List.Pairwise.imp₂ (fun x y h1 h2 => ?_) hs hnT
      have h3:¬ y<x:=by simpa using h1
      show less (⟨x.toArray⟩:ByteArray).toList (⟨y.toArray⟩:ByteArray).toList=true
      rw [Lib.toList_data,Lib.toList_data,hfg,hfg]
      refine less_or ?_ (Ne.symm h2)
      show Op.bytesLess y x=false
      rw [bytesLess_eq]
      exact decide_eq_false h3
    · rw [keysS_mem, ← hm, List.mem_map]
      constructor
      · rintro ⟨l, hl, rfl⟩
        obtain ⟨k,hk,rfl⟩:=List.mem_map.1 (hp.mem_iff.1 hl)
        rw [hgf]
        exact hk
      · intro hx
        exact ⟨_,hp.mem_iff.2 (List.mem_map.2 ⟨x,hx,rfl⟩),hgf x⟩
  rw [←e]
  exact hT

end Go.Proofs.YthfpoacindblgaaDoor.Pure


namespace Go.Proofs.YthfpoacindblgaaDoor.P
open Go Go.RowKit Go.Proofs.YthfpoacindblgaaDoorW.PrintWords Go.Proofs.YthfpoacindblgaaDoorW.PrintLast Go.Proofs.YthfpoacindblgaaDoorW.PrintMore
theorem grown_set (W:World) (b i:Nat) (v:Value):W.grownBy (W.setCell ⟨b,i,none⟩ v) (some b) :=
  ⟨rfl,rfl,rfl,by simp,fun k _ hne=>Below.heap_setCell W ⟨b,i,none⟩ v k (fun e=>hne (by rw [e]))⟩
theorem size_set (W:World) (b i:Nat) (v:Value):(W.setCell ⟨b,i,none⟩ v).heap.size=W.heap.size:=by simp
theorem grown_then {a w w':World} {row:Option Nat} (h:a.grownBy w row) (k:w.grownBy w' row):a.grownBy w' row :=
  ⟨k.os.trans h.os,k.tape.trans h.tape,k.output.trans h.output,Nat.le_trans h.size k.size,fun i hi hr=>(k.block i (Nat.lt_of_lt_of_le hi h.size) hr).trans (h.block i hi hr)⟩
section
variable {W w':World} {b:Nat} {t:TypeId}
theorem set1 {c0 x0:Value} (h:W.heap[b]? = some (.cells #[c0] t (0,0))) (hw:w'=W.setCell ⟨b,0,none⟩ x0):w'.heap[b]? = some (.cells #[x0] t (0,0))∧W.grownBy w' (some b)∧w'.heap.size=W.heap.size:=by
  subst hw
  exact ⟨blk_put h 0 x0 rfl,grown_set _ _ _ _,size_set _ _ _ _⟩
theorem set3 {c0 c1 c2 x0 x1 x2:Value} (h:W.heap[b]? = some (.cells #[c0,c1,c2] t (0,0))) (hw:w'=((W.setCell ⟨b,0,none⟩ x0).setCell ⟨b,1,none⟩ x1).setCell ⟨b,2,none⟩ x2) :
    w'.heap[b]? = some (.cells #[x0,x1,x2] t (0,0))∧W.grownBy w' (some b)∧w'.heap.size=W.heap.size:=by
  subst hw
  exact ⟨blk_put (blk_put (blk_put h 0 x0 rfl) 1 x1 rfl) 2 x2 rfl,grown_then (grown_then (grown_set _ _ _ _) (grown_set _ _ _ _)) (grown_set _ _ _ _),by simp only [size_set]⟩
theorem set7 {c0 c1 c2 c3 c4 c5 c6 x0 x1 x2 x3 x4 x5 x6:Value} (h:W.heap[b]? = some (.cells #[c0,c1,c2,c3,c4,c5,c6] t (0,0)))
    (hw:w'=((((((W.setCell ⟨b,0,none⟩ x0).setCell ⟨b,1,none⟩ x1).setCell ⟨b,2,none⟩ x2).setCell ⟨b,3,none⟩ x3).setCell ⟨b,4,none⟩ x4).setCell ⟨b,5,none⟩ x5).setCell ⟨b,6,none⟩ x6) :
    w'.heap[b]? = some (.cells #[x0,x1,x2,x3,x4,x5,x6] t (0,0))∧W.grownBy w' (some b)∧w'.heap.size=W.heap.size:=by
  have h0:=blk_put (cs':=#[x0,c1,c2,c3,c4,c5,c6]) h 0 x0 rfl
  have h1:=blk_put (cs':=#[x0,x1,c2,c3,c4,c5,c6]) h0 1 x1 rfl
  have h2:=blk_put (cs':=#[x0,x1,x2,c3,c4,c5,c6]) h1 2 x2 rfl
  have h3:=blk_put (cs':=#[x0,x1,x2,x3,c4,c5,c6]) h2 3 x3 rfl
  have h4:=blk_put (cs':=#[x0,x1,x2,x3,x4,c5,c6]) h3 4 x4 rfl
  have h5:=blk_put (cs':=#[x0,x1,x2,x3,x4,x5,c6]) h4 5 x5 rfl
  have h6:=blk_put (cs':=#[x0,x1,x2,x3,x4,x5,x6]) h5 6 x6 rfl
  have g1:=grown_then (grown_set W b 0 x0) (grown_set _ b 1 x1)
  have g2:=grown_then g1 (grown_set _ b 2 x2)
  have g3:=grown_then g2 (grown_set _ b 3 x3)
  have g4:=grown_then g3 (grown_set _ b 4 x4)
  have g5:=grown_then g4 (grown_set _ b 5 x5)
  have g6:=grown_then g5 (grown_set _ b 6 x6)
  have s6:w'.heap.size=W.heap.size:=by rw [hw];simp only [size_set]
  rw [←hw] at h6 g6
  exact ⟨h6,g6,s6⟩
end
/-- A step that writes a block of one's own, or none: what lies below stays. -/
theorem below_own {w W w':World} {b:Nat} (h:Below w.heap.size w W) (hg:W.grownBy w' (some b)) (hb:w.heap.size≤b):Below w.heap.size w w':=pw_below_grown h (some b) h.size hg (fun k e=>by cases e;exact hb)
theorem below_none {w W w':World} (h:Below w.heap.size w W) (hg:W.grownBy w' none):Below w.heap.size w w':=pw_below_grown h none h.size hg (fun k e=>by cases e)
theorem blk_none {w w1:World} {g:Nat} {o:Obj} (h:w.heap[g]? = some o) (hg:w.grownBy w1 none):w1.heap[g]? = some o:=blk_grown h hg (by simp)
theorem ne_some {a b:Nat} (h:a≠b):some a≠some b:=fun e=>h (Option.some.inj e)
/-- But for one box all that was there stands. -/
def FrameBut (w0:World) (b:Nat) (w:World):Prop:=w0.heap.size≤w.heap.size ∧ ∀ k,k<w0.heap.size→k≠b→w.heap[k]? = w0.heap[k]?
theorem FrameBut.refl (w0:World) (b:Nat):FrameBut w0 b w0:=⟨Nat.le_refl _,fun _ _ _=>rfl⟩
theorem FrameBut.below {w0 w w':World} {b:Nat} (h:FrameBut w0 b w) (hb:Below w.heap.size w w'):FrameBut w0 b w':=⟨Nat.le_trans h.1 hb.size,fun k hk hn=>(hb.block k (Nat.lt_of_lt_of_le hk h.1)).trans (h.2 k hk hn)⟩
theorem FrameBut.grown {w0 w w':World} {b:Nat} {row:Option Nat} (h:FrameBut w0 b w) (hg:w.grownBy w' row) (hr:∀ k,row=some k→w0.heap.size≤k∨k=b):FrameBut w0 b w' :=
  ⟨Nat.le_trans h.1 hg.size,fun k hk hn=>(hg.block k (Nat.lt_of_lt_of_le hk h.1) (fun e=>by rcases hr k e.symm with h1|h1 <;> omega)).trans (h.2 k hk hn)⟩
theorem FrameBut.blk {w0 w:World} {b g:Nat} {o:Obj} (h:FrameBut w0 b w) (hb:w0.heap[g]? = some o) (hn:g≠b):w.heap[g]? = some o:=(h.2 g (blk_lt hb) hn).trans hb
theorem add_zero_ (g:Nat):Addr.add ⟨g,0,none⟩ 0=⟨g,0,none⟩:=rfl
end Go.Proofs.YthfpoacindblgaaDoor.P


namespace Go.Proofs.YthfpoacindblgaaDoor.Ow
open Go Go.Proofs.YthfpoacindblgaaDoorW.PrintWords

theorem reps_map {α:Type} (enc:α→Value) (h1:∀ x,(enc x).oneCell'=true) (w:World) (base:Nat) (ok:Nat→Prop) (xs:List α):Reps ((Kd.scalar enc h1).M w base ok) 1 xs (xs.map enc):=by
  refine ⟨by rw [List.length_map,Nat.mul_one],fun j p hj => ?_⟩
  have hl:j<xs.length:=(List.getElem?_eq_some_iff.1 hj).1
  show ((xs.map enc).drop (j*1)).take 1 = [enc p]
  rw [Nat.mul_one,List.drop_eq_getElem_cons (by rw [List.length_map];exact hl),List.take_succ_cons,List.take_zero,List.getElem_map]
  have:=(List.getElem?_eq_some_iff.1 hj).2
  rw [this]

/-- A new block of cells that are so encoded is a row of one's own. -/
theorem R_new_block {α:Type} (enc:α→Value) (h1:∀ x,(enc x).oneCell'=true) (e:Nat) (w:World) (xs:List α) (hl:xs.length≤maxLen) :
    Kd.R (Kd.scalar enc h1) e (w.alloc (.cells (xs.map enc).toArray e)) w.heap.size (fun _=>True) (.slice (some ⟨w.heap.size,0,none⟩) xs.length xs.length) xs:=by
  refine ⟨fun _ _=>trivial,xs.map enc,⟨by rw [List.length_map];exact (Nat.mul_one _).symm,.inr ⟨w.heap.size,xs.length,(xs.map enc).toArray,rfl,Nat.le_refl _,?_,Nat.le_refl _,hl,?_,?_⟩⟩,reps_map enc h1 _ _ _ _⟩
  · exact heap_alloc_new w _
  · show (xs.map enc).toArray.size = xs.length * 1
    simp
  · show (xs.map enc).toArray.toList.take (xs.length * 1) = xs.map enc
    rw [Nat.mul_one]
    exact List.take_of_length_le (by simp)
end Go.Proofs.YthfpoacindblgaaDoor.Ow


namespace Go.Proofs.YthfpoacindblgaaDoor.P
open Go Go.RowKit Go.Proofs.YthfpoacindblgaaDoorW.PrintWords Go.Proofs.YthfpoacindblgaaDoorW.PrintLast Go.Proofs.YthfpoacindblgaaDoorW.PrintMore
open Go.Proofs.YthfpoacindblgaaDoor.Pure
theorem bs_ {w W:World} {g:Nat} (hg:g=W.heap.size) (h:Below w.heap.size w W):w.heap.size≤g:=by rw [hg];exact below_size h
theorem take_more {α:Type} (Ms:List (Nat×List (ByteArray×α))) (i:Nat) (hi:i<Ms.length):allK (Ms.take (i+1))=allK (Ms.take i)++Ms[i].2.map (·.1)∧sizeK (Ms.take (i+1))=sizeK (Ms.take i)+Ms[i].2.length:=by
  have e:Ms.take (i+1)=Ms.take i ++ [Ms[i]]:=by
    rw [List.take_add_one,List.getElem?_eq_getElem hi]
    rfl
  rw [e]
  refine ⟨?_,?_⟩
  · unfold allK
    rw [List.flatMap_append]
    simp only [List.flatMap_cons,List.flatMap_nil,List.append_nil]
  · unfold sizeK
    rw [List.map_append,List.sum_append]
    simp only [List.map_cons,List.map_nil,List.sum_cons,List.sum_nil,Nat.add_zero]
theorem nodup_mid {a b:List ByteArray} {x:ByteArray} (h:(a++x :: b).Nodup):x ∉ a++b:=by
  rw [List.nodup_append] at h
  obtain ⟨_,h2,h3⟩:=h
  obtain ⟨h4,_⟩:=List.nodup_cons.1 h2
  intro hx
  rcases List.mem_append.1 hx with hx|hx
  · exact h3 _ hx _ List.mem_cons_self rfl
  · exact h4 hx
theorem collect_step {α:Type} {M L1 L2:List (ByteArray×α)} {p:ByteArray×α} {T:List (ByteArray×Bool)} (h1:p.1 ∈ M.map (·.1)) (h2:p.1 ∉ (L1++L2).map (·.1)) (x:ByteArray) :
    (x=p.1∨x ∈ T.map (·.1)∨(x ∈ M.map (·.1)∧x ∉ (L1++p :: L2).map (·.1))) ↔ (x ∈ T.map (·.1)∨(x ∈ M.map (·.1)∧x ∉ (L1++L2).map (·.1))):=by
  simp only [List.map_append,List.map_cons,List.mem_append,List.mem_cons,not_or] at h2 ⊢
  constructor
  · rintro (rfl | h | ⟨h3, h4, h5, h6⟩)
    · exact .inr ⟨h1,h2.1,h2.2⟩
    · exact .inl h
    · exact .inr ⟨h3,h4,h6⟩
  · rintro (h | ⟨h3, h4, h5⟩)
    · exact .inr (.inl h)
    · by_cases hx : x = p.1
      · exact .inl hx
      · exact .inr (.inr ⟨h3,h4,hx,h5⟩)
/-- A row of texts of one's own, cell by cell. -/
theorem strs_opened {w:World} {base:Nat} {ok:Nat→Prop} {v:Value} {l:List ByteArray} (h:Kd.R Kd.string 9 w base ok v l):w.ownsRow base 9 1 v l.length (l.map Value.string):=by
  obtain ⟨_,inner,ho,hr⟩:=h
  have e:inner=l.map Value.string:=by
    apply List.ext_getElem?
    intro j
    have hlen:inner.length=l.length*1:=hr.1
    by_cases hj:j<l.length
    · have h1 : (inner.drop (j * 1)).take 1 = [Value.string l[j]] := hr.2 j l[j] (List.getElem?_eq_getElem hj)
      have h2:((inner.drop (j*1)).take 1)[0]? = some (Value.string l[j]):=by rw [h1];rfl
      rw [List.getElem?_take_of_lt (by omega),List.getElem?_drop,Nat.mul_one,Nat.add_zero] at h2
      rw [h2,List.getElem?_map,List.getElem?_eq_getElem hj]
      rfl
    · rw [List.getElem?_eq_none (by omega),List.getElem?_eq_none (by rw [List.length_map];omega)]
  rw [←e]
  exact ho
/-- What the sort leaves of the row. -/
theorem strs_closed {w:World} {base g cap n:Nat} {os:Array Obj} {cur:Array Value} {l ks:List ByteArray} (hlen:ks.length=l.length) (hbase:base≤g) (hb:w.heap[g]? = some (.cells cur 9 (0,0))) (h1:l.length≤cap) (h2:cap≤maxLen) (h3:cur.size=cap*1) :
    Kd.R Kd.string 9 (Go.Sort.grow (Go.Sort.putRow Go.Proofs.encStr (Go.Sort.ahead w n) g 0 (ks.map fun k=>k.data.toList).toArray) os) base (fun _=>True) (.slice (some ⟨g,0,none⟩) l.length cap) ks∧w.grownBy (Go.Sort.grow (Go.Sort.putRow Go.Proofs.encStr (Go.Sort.ahead w n) g 0 (ks.map fun k=>k.data.toList).toArray) os) (some g):=by
  have ho:=ownsRow_sorted (e:=9) (n:=n) (os:=os) (ss:=l.map fun k=>k.data.toList) (ts:=ks.map fun k=>k.data.toList) (by simp [hlen]) hbase hb (by simpa using h1) h2 h3
  rw [List.length_map] at ho
  have e:(ks.map fun k=>k.data.toList).map Go.Proofs.encStr=ks.map Value.string:=by
    rw [List.map_map]
    exact List.map_congr_left (fun k _=>by simp)
  rw [e] at ho
  refine ⟨⟨fun _ _=>trivial,ks.map Value.string,?_,Go.Proofs.YthfpoacindblgaaDoor.Ow.reps_map Value.string (fun _=>rfl) _ _ _ ks⟩,grownBy_sorted _⟩
  rw [hlen]
  exact ho
end Go.Proofs.YthfpoacindblgaaDoor.P


namespace Go.Proofs
open Go.Shelf Go.Sort
def Tryd.lays192_ren:Go.Shelf.Ren:=⟨fun|192=>59|190=>64|125=>74|258=>73|128=>89|129=>90|302=>80|303=>81|304=>82|305=>83|306=>84|307=>85|308=>86|309=>87|310=>88|333=>92|329=>93|330=>94|334=>95|335=>96|336=>97|344=>98|n=>n,fun|31=>26|0=>0|9=>9|3=>3|46=>83|51=>95|53=>80|4=>4|183=>100|182=>99|131=>52|5=>5|218=>107|222=>111|228=>117|229=>118|n=>n,fun|n=>n⟩
theorem Tryd.lays192:Go.Proofs.Lays.n192 Tryd.prog Tryd.lays192_ren:={
  mixed:=by kernel_rfl
  f125:=Tryd.func74.trans (congrArg some (by kernel_rfl))
  f128:=Tryd.func89.trans (congrArg some (by kernel_rfl))
  f129:=Tryd.func90.trans (congrArg some (by kernel_rfl))
  f190:=Tryd.func64.trans (congrArg some (by kernel_rfl))
  f192:=Tryd.func59.trans (congrArg some (by kernel_rfl))
  f258:=Tryd.func73.trans (congrArg some (by kernel_rfl))
  f302:=Tryd.func80.trans (congrArg some (by kernel_rfl))
  f303:=Tryd.func81.trans (congrArg some (by kernel_rfl))
  f304:=Tryd.func82.trans (congrArg some (by kernel_rfl))
  f305:=Tryd.func83.trans (congrArg some (by kernel_rfl))
  f306:=Tryd.func84.trans (congrArg some (by kernel_rfl))
  f307:=Tryd.func85.trans (congrArg some (by kernel_rfl))
  f308:=Tryd.func86.trans (congrArg some (by kernel_rfl))
  f309:=Tryd.func87.trans (congrArg some (by kernel_rfl))
  f310:=Tryd.func88.trans (congrArg some (by kernel_rfl))
  f329:=Tryd.func93.trans (congrArg some (by kernel_rfl))
  f330:=Tryd.func94.trans (congrArg some (by kernel_rfl))
  f333:=Tryd.func92.trans (congrArg some (by kernel_rfl))
  f334:=Tryd.func95.trans (congrArg some (by kernel_rfl))
  f335:=Tryd.func96.trans (congrArg some (by kernel_rfl))
  f336:=Tryd.func97.trans (congrArg some (by kernel_rfl))
  f344:=Tryd.func98.trans (congrArg some (by kernel_rfl))
  t0:=Tryd.underlying0
  a0:=Tryd.isAgg0
  z0:=Tryd.sizeOf0
  v0:=Tryd.zeroValue0
  t3:=Tryd.underlying3
  a3:=Tryd.isAgg3
  z3:=Tryd.sizeOf3
  v3:=Tryd.zeroValue3
  t4:=Tryd.underlying4
  a4:=Tryd.isAgg4
  z4:=Tryd.sizeOf4
  v4:=Tryd.zeroValue4
  t5:=Tryd.underlying5
  a5:=Tryd.isAgg5
  z5:=Tryd.sizeOf5
  v5:=Tryd.zeroValue5
  t9:=Tryd.underlying9
  a9:=Tryd.isAgg9
  z9:=Tryd.sizeOf9
  v9:=Tryd.zeroValue9
  t31:=Tryd.underlying26
  a31:=Tryd.isAgg26
  z31:=Tryd.sizeOf26
  v31:=Tryd.zeroValue26
  t46:=Tryd.underlying83
  a46:=Tryd.isAgg83
  z46:=Tryd.sizeOf83
  v46:=Tryd.zeroValue83
  t51:=Tryd.underlying95
  a51:=Tryd.isAgg95
  z51:=Tryd.sizeOf95
  v51:=Tryd.zeroValue95
  t53:=Tryd.underlying80
  a53:=Tryd.isAgg80
  z53:=Tryd.sizeOf80
  v53:=Tryd.zeroValue80
  t131:=Tryd.underlying52
  a131:=Tryd.isAgg52
  z131:=Tryd.sizeOf52
  v131:=Tryd.zeroValue52
  t182:=Tryd.underlying99
  a182:=Tryd.isAgg99
  z182:=Tryd.sizeOf99
  v182:=Tryd.zeroValue99
  t183:=Tryd.underlying100
  a183:=Tryd.isAgg100
  z183:=Tryd.sizeOf100
  v183:=Tryd.zeroValue100
  t218:=Tryd.underlying107
  a218:=Tryd.isAgg107
  z218:=Tryd.sizeOf107
  v218:=Tryd.zeroValue107
  t222:=Tryd.underlying111
  a222:=Tryd.isAgg111
  z222:=Tryd.sizeOf111
  v222:=Tryd.zeroValue111
  t228:=Tryd.underlying117
  a228:=Tryd.isAgg117
  z228:=Tryd.sizeOf117
  v228:=Tryd.zeroValue117
  t229:=Tryd.underlying118
  a229:=Tryd.isAgg118
  z229:=Tryd.sizeOf118
  v229:=Tryd.zeroValue118 }
open Go.Sort Go.RowKit in
theorem Tryd.sort_Strings (blk off cap:Nat) (ss:List (List UInt8)) (w:World) (hH:Holds encStr w blk off ss.toArray) (hblk:blk<w.heap.size) (hsz:ss.length<4611686018427387904) :
    Calls Tryd.prog 59 #[.slice (some ⟨blk,off,none⟩) ss.length cap] w fun e w' =>
      e = .returned (.tuple #[]) ∧ ∃ n os,w'=grow (putRow encStr (Sort.ahead w n) blk off (ss.mergeSort fun x y=>decide (x≤y)).toArray) os:=Any.sort_Strings Tryd.lays192 blk off cap ss w hH hblk hsz
open Go.RowKit Go.Sort in
/-- .. and plain. (LAID: no walk: one application.) -/
theorem Tryd.sort_Strings_none (p:Option Addr) (cap:Nat) (w:World) :
    Calls Tryd.prog 59 #[.slice p 0 cap] w fun e w'=>e = .returned (.tuple #[])∧w'=w:=Any.sort_Strings_none Tryd.lays192 p cap w
end Go.Proofs


namespace Go.Proofs
open Go.Shelf
def Tryd.lays106_ren:Go.Shelf.Ren:=⟨fun|106=>49|213=>60|265=>65|n=>n,fun|9=>9|3=>3|n=>n,fun|n=>n⟩
theorem Tryd.lays106:Go.Proofs.Lays.n106 Tryd.prog Tryd.lays106_ren:={
  mixed:=by kernel_rfl
  f106:=Tryd.func49.trans (congrArg some (by kernel_rfl))
  f213:=Tryd.func60.trans (congrArg some (by kernel_rfl))
  f265:=Tryd.func65.trans (congrArg some (by kernel_rfl))
  t3:=Tryd.underlying3
  a3:=Tryd.isAgg3
  z3:=Tryd.sizeOf3
  v3:=Tryd.zeroValue3
  t9:=Tryd.underlying9
  a9:=Tryd.isAgg9
  z9:=Tryd.sizeOf9
  v9:=Tryd.zeroValue9 }
open Go.RowKit in
/-- strings.Compare: "Compare returns an integer comparing two strings lexicographically. The result will be 0 if a == b, -1 if a < b, and +1 if a > b.": IT RETURNS 'Lib.compareBytes a b'; the world is as it was. (LAID: no walk: one application.) -/
theorem Tryd.strings_Compare (a b:ByteArray) (w:World) :
    Calls Tryd.prog 49 #[.string a,.string b] w fun e w'=>e = .returned (.int .i64 (Lib.compareBytes a.data.toList b.data.toList))∧w'=w:=Any.strings_Compare Tryd.lays106 a b w
def Tryd.lays145_ren:Go.Shelf.Ren:=⟨fun|145=>43|220=>56|219=>63|217=>69|225=>70|224=>71|267=>72|266=>78|314=>79|n=>n,fun|9=>9|4=>4|59=>71|3=>3|5=>5|46=>83|146=>96|51=>95|n=>n,fun|1=>0|n=>n⟩
theorem Tryd.lays145:Go.Proofs.Lays.n145 Tryd.prog Tryd.lays145_ren:={
  mixed:=by kernel_rfl
  f145:=Tryd.func43.trans (congrArg some (by kernel_rfl))
  f217:=Tryd.func69.trans (congrArg some (by kernel_rfl))
  f219:=Tryd.func63.trans (congrArg some (by kernel_rfl))
  f220:=Tryd.func56.trans (congrArg some (by kernel_rfl))
  f224:=Tryd.func71.trans (congrArg some (by kernel_rfl))
  f225:=Tryd.func70.trans (congrArg some (by kernel_rfl))
  f266:=Tryd.func78.trans (congrArg some (by kernel_rfl))
  f267:=Tryd.func72.trans (congrArg some (by kernel_rfl))
  f314:=Tryd.func79.trans (congrArg some (by kernel_rfl))
  t3:=Tryd.underlying3
  a3:=Tryd.isAgg3
  z3:=Tryd.sizeOf3
  v3:=Tryd.zeroValue3
  t4:=Tryd.underlying4
  a4:=Tryd.isAgg4
  z4:=Tryd.sizeOf4
  v4:=Tryd.zeroValue4
  t5:=Tryd.underlying5
  a5:=Tryd.isAgg5
  z5:=Tryd.sizeOf5
  v5:=Tryd.zeroValue5
  t9:=Tryd.underlying9
  a9:=Tryd.isAgg9
  z9:=Tryd.sizeOf9
  v9:=Tryd.zeroValue9
  t46:=Tryd.underlying83
  a46:=Tryd.isAgg83
  z46:=Tryd.sizeOf83
  v46:=Tryd.zeroValue83
  t51:=Tryd.underlying95
  a51:=Tryd.isAgg95
  z51:=Tryd.sizeOf95
  v51:=Tryd.zeroValue95
  t59:=Tryd.underlying71
  a59:=Tryd.isAgg71
  z59:=Tryd.sizeOf71
  v59:=Tryd.zeroValue71
  t146:=Tryd.underlying96
  a146:=Tryd.isAgg96
  z146:=Tryd.sizeOf96
  v146:=Tryd.zeroValue96
  g1:=by kernel_rfl }
open Go.RowKit Go.Lib in
/-- strings.Cut: "Cut slices s around the first instance of sep, returning the text before and after sep. The found result reports whether sep appears in s. If sep does not appear in s, cut returns s, "", false.": IT RETURNS 'Lib.cut s sep'; the world is as it was but for the count of draws. (LAID: no walk: one application.) -/
theorem Tryd.strings_Cut (s sep:ByteArray) (m:Int) (w:World) (hs:s.size<4294967281) (hm:w.cell? ⟨0,0,none⟩=some (.int .i64 m)) :
    Calls Tryd.prog 43 #[.string s,.string sep] w fun e w'=>e = .returned (.tuple #[.string ⟨(Lib.cut s.data.toList sep.data.toList).1.toArray⟩,.string ⟨(Lib.cut s.data.toList sep.data.toList).2.1.toArray⟩,.bool (Lib.cut s.data.toList sep.data.toList).2.2]) ∧ ∃ n,w'=w.drewN n:=Any.strings_Cut Tryd.lays145 s sep m w hs hm
def Tryd.lays206_ren:Go.Shelf.Ren:=⟨fun|206=>61|n=>n,fun|9=>9|4=>4|3=>3|n=>n,fun|n=>n⟩
theorem Tryd.lays206:Go.Proofs.Lays.n206 Tryd.prog Tryd.lays206_ren:={
  mixed:=by kernel_rfl
  f206:=Tryd.func61.trans (congrArg some (by kernel_rfl))
  t3:=Tryd.underlying3
  a3:=Tryd.isAgg3
  z3:=Tryd.sizeOf3
  v3:=Tryd.zeroValue3
  t4:=Tryd.underlying4
  a4:=Tryd.isAgg4
  z4:=Tryd.sizeOf4
  v4:=Tryd.zeroValue4
  t9:=Tryd.underlying9
  a9:=Tryd.isAgg9
  z9:=Tryd.sizeOf9
  v9:=Tryd.zeroValue9 }
open Go.RowKit Go.Lib in
/-- internal/stringslite.HasPrefix (what strings.HasPrefix calls). (LAID: no walk: one application.) -/
theorem Tryd.stringslite_HasPrefix (s p:ByteArray) (w:World) :
    Calls Tryd.prog 61 #[.string s,.string p] w fun e w'=>e = .returned (.bool (Lib.hasPrefix s.data.toList p.data.toList))∧w'=w:=Any.stringslite_HasPrefix Tryd.lays206 s p w
def Tryd.lays99_ren:Go.Shelf.Ren:=⟨fun|99=>53|206=>61|n=>n,fun|9=>9|4=>4|3=>3|n=>n,fun|n=>n⟩
theorem Tryd.lays99:Go.Proofs.Lays.n99 Tryd.prog Tryd.lays99_ren:={
  mixed:=by kernel_rfl
  f99:=Tryd.func53.trans (congrArg some (by kernel_rfl))
  f206:=Tryd.func61.trans (congrArg some (by kernel_rfl))
  t3:=Tryd.underlying3
  a3:=Tryd.isAgg3
  z3:=Tryd.sizeOf3
  v3:=Tryd.zeroValue3
  t4:=Tryd.underlying4
  a4:=Tryd.isAgg4
  z4:=Tryd.sizeOf4
  v4:=Tryd.zeroValue4
  t9:=Tryd.underlying9
  a9:=Tryd.isAgg9
  z9:=Tryd.sizeOf9
  v9:=Tryd.zeroValue9 }
open Go.RowKit Go.Lib in
/-- strings.HasPrefix: "HasPrefix reports whether the string s begins with prefix.": IT RETURNS 'Lib.hasPrefix s prefix'; the world is as it was. (LAID: no walk: one application.) -/
theorem Tryd.strings_HasPrefix (s p:ByteArray) (w:World) :
    Calls Tryd.prog 53 #[.string s,.string p] w fun e w'=>e = .returned (.bool (Lib.hasPrefix s.data.toList p.data.toList))∧w'=w:=Any.strings_HasPrefix Tryd.lays99 s p w
def Tryd.lays146_ren:Go.Shelf.Ren:=⟨fun|146=>54|221=>62|268=>66|138=>67|143=>68|195=>75|197=>76|218=>77|219=>63|260=>91|217=>69|225=>70|224=>71|267=>72|266=>78|314=>79|n=>n,fun|9=>9|31=>26|3=>3|4=>4|0=>0|105=>93|21=>21|5=>5|46=>83|119=>113|139=>116|138=>115|146=>96|51=>95|n=>n,fun|1=>0|3=>1|4=>2|n=>n⟩
theorem Tryd.lays146:Go.Proofs.Lays.n146 Tryd.prog Tryd.lays146_ren:={
  mixed:=by kernel_rfl
  f138:=Tryd.func67.trans (congrArg some (by kernel_rfl))
  f143:=Tryd.func68.trans (congrArg some (by kernel_rfl))
  f146:=Tryd.func54.trans (congrArg some (by kernel_rfl))
  f195:=Tryd.func75.trans (congrArg some (by kernel_rfl))
  f197:=Tryd.func76.trans (congrArg some (by kernel_rfl))
  f217:=Tryd.func69.trans (congrArg some (by kernel_rfl))
  f218:=Tryd.func77.trans (congrArg some (by kernel_rfl))
  f219:=Tryd.func63.trans (congrArg some (by kernel_rfl))
  f221:=Tryd.func62.trans (congrArg some (by kernel_rfl))
  f224:=Tryd.func71.trans (congrArg some (by kernel_rfl))
  f225:=Tryd.func70.trans (congrArg some (by kernel_rfl))
  f260:=Tryd.func91.trans (congrArg some (by kernel_rfl))
  f266:=Tryd.func78.trans (congrArg some (by kernel_rfl))
  f267:=Tryd.func72.trans (congrArg some (by kernel_rfl))
  f268:=Tryd.func66.trans (congrArg some (by kernel_rfl))
  f314:=Tryd.func79.trans (congrArg some (by kernel_rfl))
  t0:=Tryd.underlying0
  a0:=Tryd.isAgg0
  z0:=Tryd.sizeOf0
  v0:=Tryd.zeroValue0
  t3:=Tryd.underlying3
  a3:=Tryd.isAgg3
  z3:=Tryd.sizeOf3
  v3:=Tryd.zeroValue3
  t4:=Tryd.underlying4
  a4:=Tryd.isAgg4
  z4:=Tryd.sizeOf4
  v4:=Tryd.zeroValue4
  t5:=Tryd.underlying5
  a5:=Tryd.isAgg5
  z5:=Tryd.sizeOf5
  v5:=Tryd.zeroValue5
  t9:=Tryd.underlying9
  a9:=Tryd.isAgg9
  z9:=Tryd.sizeOf9
  v9:=Tryd.zeroValue9
  t21:=Tryd.underlying21
  a21:=Tryd.isAgg21
  z21:=Tryd.sizeOf21
  v21:=Tryd.zeroValue21
  t31:=Tryd.underlying26
  a31:=Tryd.isAgg26
  z31:=Tryd.sizeOf26
  v31:=Tryd.zeroValue26
  t46:=Tryd.underlying83
  a46:=Tryd.isAgg83
  z46:=Tryd.sizeOf83
  v46:=Tryd.zeroValue83
  t51:=Tryd.underlying95
  a51:=Tryd.isAgg95
  z51:=Tryd.sizeOf95
  v51:=Tryd.zeroValue95
  t105:=Tryd.underlying93
  a105:=Tryd.isAgg93
  z105:=Tryd.sizeOf93
  v105:=Tryd.zeroValue93
  t119:=Tryd.underlying113
  a119:=Tryd.isAgg113
  z119:=Tryd.sizeOf113
  t138:=Tryd.underlying115
  a138:=Tryd.isAgg115
  z138:=Tryd.sizeOf115
  v138:=Tryd.zeroValue115
  t139:=Tryd.underlying116
  a139:=Tryd.isAgg116
  z139:=Tryd.sizeOf116
  v139:=Tryd.zeroValue116
  t146:=Tryd.underlying96
  a146:=Tryd.isAgg96
  z146:=Tryd.sizeOf96
  v146:=Tryd.zeroValue96
  g1:=by kernel_rfl
  g3:=by kernel_rfl
  g4:=by kernel_rfl }
open Go.RowKit Go.Lib in
/-- strings.Split. (LAID: no walk: one application.) -/
theorem Tryd.strings_Split (s sep:ByteArray) (m:Int) (w:World) (hs:s.size<4294967281) (hm:w.cell? ⟨0,0,none⟩=some (.int .i64 m)) (h1:1≤sep.size) :
    Calls Tryd.prog 54 #[.string s,.string sep] w fun e w' =>
      e = .returned (.slice (some ⟨w.heap.size,0,none⟩) (Lib.countB s sep+1) (Lib.countB s sep+1))∧w'=w.alloc (.cells ((Lib.splitB sep 0 (Lib.countB s sep) s).map Value.string).toArray 9):=Any.strings_Split Tryd.lays146 (by kernel_rfl) s sep m w hs hm h1
def Tryd.laysPah39_ren:Go.Shelf.Ren:=⟨fun|39=>44|41=>57|40=>58|n=>n,fun|30=>64|9=>9|3=>3|0=>0|5=>5|46=>83|n=>n,fun|n=>n⟩
theorem Tryd.laysPah39:Go.Proofs.Lays.ph39 Tryd.prog Tryd.laysPah39_ren:={
  mixed:=by kernel_rfl
  f39:=Tryd.func44.trans (congrArg some (by kernel_rfl))
  f40:=Tryd.func58.trans (congrArg some (by kernel_rfl))
  f41:=Tryd.func57.trans (congrArg some (by kernel_rfl))
  t0:=Tryd.underlying0
  a0:=Tryd.isAgg0
  z0:=Tryd.sizeOf0
  v0:=Tryd.zeroValue0
  t3:=Tryd.underlying3
  a3:=Tryd.isAgg3
  z3:=Tryd.sizeOf3
  v3:=Tryd.zeroValue3
  t5:=Tryd.underlying5
  a5:=Tryd.isAgg5
  z5:=Tryd.sizeOf5
  v5:=Tryd.zeroValue5
  t9:=Tryd.underlying9
  a9:=Tryd.isAgg9
  z9:=Tryd.sizeOf9
  v9:=Tryd.zeroValue9
  t30:=Tryd.underlying64
  a30:=Tryd.isAgg64
  z30:=Tryd.sizeOf64
  v30:=Tryd.zeroValue64
  t46:=Tryd.underlying83
  a46:=Tryd.isAgg83
  z46:=Tryd.sizeOf83
  v46:=Tryd.zeroValue83
  info5:=by kernel_rfl }
open Go.RowKit Go.Lib in
/-- encoding/hex.EncodeToString, the slice's content held AS BYTES. (LAID: no walk: one application.) -/
theorem Tryd.hex_EncodeToString_bytes (bs os cs:Nat) (l:List UInt8) (w:World) (hsrc:∀ i (h:i<l.length),w.cell? ⟨bs,os+i,none⟩=some (.int .u8 ((l[i]'h).toNat:Int))) (hb:bs<w.heap.size) (hbig:2*l.length≤281474976710656) :
    Calls Tryd.prog 44 #[.slice (some ⟨bs,os,none⟩) l.length cs] w fun e w'=>e = .returned (.string ⟨(Hx.encode l).toArray⟩)∧Below w.heap.size w w':=Any.hex_EncodeToString_bytes Tryd.laysPah39 bs os cs l w hsrc hb hbig
end Go.Proofs


namespace Go.Proofs.YthfpoacindblgaaDoor.Pure
open Go Go.RowKit Go.Proofs.YthfpoacindblgaaDoor.P Go.Proofs.YthfpoacindblgaaDoorW.PrintWords Go.Proofs.YthfpoacindblgaaDoorW.PrintLast
set_option linter.unusedVariables false
set_option linter.unusedSimpArgs false

abbrev Entry:=S55
theorem getD_nat {α:Type} (d:α) {l:List α} {i:Nat} (h:i<l.length):l.getD (i:Int).toNat d=l[i]:=by
  rw [Int.toNat_natCast,List.getD_eq_getElem?_getD,List.getElem?_eq_getElem h]
  rfl
theorem rdE_eq {l:List Entry} {i:Nat} (h:i<l.length):rd_T55 l (i:Int)=l[i]:=getD_nat _ h

end Go.Proofs.YthfpoacindblgaaDoor.Pure


namespace Go.Proofs.YthfpoacindblgaaDoor.Pure
open Go Go.RowKit Go.Proofs.YthfpoacindblgaaDoor.P Go.Proofs.YthfpoacindblgaaDoorW.PrintWords Go.Proofs.YthfpoacindblgaaDoorW.PrintLast
set_option linter.unusedVariables false
set_option linter.unusedSimpArgs false

def ltE (a b:Entry):Prop:=less a.f0.toList b.f0.toList=true
theorem ltE_irrefl (a:Entry):¬ ltE a a:=fun h=>by
  unfold ltE at h
  rw [less_irrefl] at h
  cases h
theorem ltE_trans {a b c:Entry} (h1:ltE a b) (h2:ltE b c):ltE a c:=less_trans _ _ _ h1 h2
/-- Two ascending rows with the same members are one. -/
theorem asc_unique : ∀ a b : List Entry, a.Pairwise ltE → b.Pairwise ltE → (∀ x, x ∈ a ↔ x ∈ b) → a = b
  | [],[],_,_,_=>rfl
  | [], y :: b, _, _, h => by
    have:=(h y).2 List.mem_cons_self
    simp at this
  | x :: a, [], _, _, h => by
    have:=(h x).1 List.mem_cons_self
    simp at this
  | x :: a, y :: b, h1, h2, h => by
    obtain ⟨h1a,h1b⟩:=List.pairwise_cons.1 h1
    obtain ⟨h2a,h2b⟩:=List.pairwise_cons.1 h2
    have hxy:x=y:=by
      rcases List.mem_cons.1 ((h x).1 List.mem_cons_self) with e|e
      · exact e
      · rcases List.mem_cons.1 ((h y).2 List.mem_cons_self) with e2 | e2
        · exact e2.symm
        · exact absurd (ltE_trans (h1a y e2) (h2a x e)) (ltE_irrefl x)
    subst hxy
    congr 1
    refine asc_unique a b h1b h2b (fun z=>⟨fun hz => ?_,fun hz => ?_⟩)
    · rcases List.mem_cons.1 ((h z).1 (List.mem_cons_of_mem _ hz)) with e | e
      · subst e
        exact absurd (h1a z hz) (ltE_irrefl z)
      · exact e
    · rcases List.mem_cons.1 ((h z).2 (List.mem_cons_of_mem _ hz)) with e | e
      · subst e
        exact absurd (h2a z hz) (ltE_irrefl z)
      · exact e

end Go.Proofs.YthfpoacindblgaaDoor.Pure


namespace Go.Proofs.YthfpoacindblgaaDoor.Pure
open Go Go.RowKit Go.Proofs.YthfpoacindblgaaDoor.P Go.Proofs.YthfpoacindblgaaDoorW.PrintWords Go.Proofs.YthfpoacindblgaaDoorW.PrintLast
set_option linter.unusedVariables false
set_option linter.unusedSimpArgs false

def insE (x:S55):List S55→List S55
  | [] => [x]
  | y :: r=>if less x.f0.toList y.f0.toList=true then x :: y :: r else y :: insE x r
def sortE:List S55→List S55
  | [] => []
  | x :: r=>insE x (sortE r)
theorem insE_perm (x:S55):∀ l,(insE x l).Perm (x :: l)
  | []=>List.Perm.refl _
  | y :: r => by
    unfold insE
    split
    · exact List.Perm.refl _
    · exact ((insE_perm x r).cons y).trans (List.Perm.swap x y r)
theorem sortE_perm:∀ l,(sortE l).Perm l
  | []=>List.Perm.refl _
  | x :: r=>(insE_perm x (sortE r)).trans ((sortE_perm r).cons x)
theorem insE_asc (x:S55):∀ l:List S55,l.Pairwise ltE→(∀ y ∈ l,x.f0.toList≠y.f0.toList)→(insE x l).Pairwise ltE
  | [],_,_=>List.pairwise_singleton _ _
  | y :: r, h, hx => by
    obtain ⟨h1,h2⟩:=List.pairwise_cons.1 h
    unfold insE
    split
    · rename_i hl
      refine List.pairwise_cons.2 ⟨fun z hz => ?_,h⟩
      rcases List.mem_cons.1 hz with rfl|hz
      · exact hl
      · exact ltE_trans hl (h1 z hz)
    · rename_i hl
      refine List.pairwise_cons.2 ⟨fun z hz => ?_,insE_asc x r h2 (fun z hz=>hx z (List.mem_cons_of_mem _ hz))⟩
      rcases List.mem_cons.1 ((insE_perm x r).mem_iff.1 hz) with rfl|hz
      · exact less_or (Bool.eq_false_iff.2 hl) (hx y List.mem_cons_self)
      · exact h1 z hz
/-- No two paths alike. -/
def Apart (l:List S55):Prop:=l.Pairwise fun x y=>x.f0.toList≠y.f0.toList
instance (l:List S55):Decidable (Apart l):=inferInstanceAs (Decidable (l.Pairwise fun x y=>x.f0.toList≠y.f0.toList))
theorem sortE_asc:∀ l:List S55,Apart l→(sortE l).Pairwise ltE
  | [],_=>List.Pairwise.nil
  | x :: r, h => by
    obtain ⟨h1,h2⟩:=List.pairwise_cons.1 h
    exact insE_asc x _ (sortE_asc r h2) (fun y hy=>h1 y ((sortE_perm r).mem_iff.1 hy))
/-- What is a row's own order, once its paths ascend. -/
theorem sortE_of {l d:List S55} (ha:Apart l) (hp:d.Perm l) (hs:d.Pairwise fun x y=>less y.f0.toList x.f0.toList=false):d=sortE l:=by
  have hd:Apart d:=by
    unfold Apart at ha ⊢
    exact (hp.pairwise_iff (fun h=>Ne.symm h)).2 ha
  refine asc_unique _ _ ?_ (sortE_asc l ha) (fun x=>(hp.mem_iff).trans ((sortE_perm l).mem_iff).symm)
  exact List.Pairwise.imp₂ (fun x y h1 h2=>less_or h1 (Ne.symm h2)) hs hd

end Go.Proofs.YthfpoacindblgaaDoor.Pure


namespace Go.Proofs.YthfpoacindblgaaDoor.Pure
open Go Go.RowKit Go.Proofs.YthfpoacindblgaaDoorW.PrintWords Go.Proofs.YthfpoacindblgaaDoorW.PrintLast
set_option linter.unusedVariables false
set_option linter.unusedSimpArgs false

/-- p lies under d. -/
def begins (d p:ByteArray):Bool:=Lib.hasPrefix p.data.toList (d.data.toList ++ [47])
theorem begins_iff (d p:ByteArray):begins d p=true ↔ (d.size<p.size∧p.extract 0 d.size=d∧bt p (d.size:Int)=47):=by
  unfold begins Lib.hasPrefix
  rw [List.isPrefixOf_iff_prefix,List.prefix_iff_eq_take]
  have hd:d.data.toList.length=d.size:=size_toList d
  have hp:p.data.toList.length=p.size:=size_toList p
  have hx:(p.extract 0 d.size).data.toList=p.data.toList.take d.size:=by
    rw [ByteArray.data_extract,Array.toList_extract,List.extract_eq_take_drop,List.drop_zero,Nat.sub_zero]
  constructor
  · intro h
    have hl:=congrArg List.length h
    simp only [List.length_append,List.length_take,List.length_cons,List.length_nil] at hl
    have hlt:d.size<p.size:=by omega
    rw [List.length_append,List.length_singleton,List.take_succ_eq_append_getElem (by omega)] at h
    obtain ⟨h1,h2⟩:=List.append_inj' h (by simp)
    refine ⟨hlt,ba_ext (by rw [hx,h1,hd]),?_⟩
    rw [bt_getD,List.getD_eq_getElem?_getD,List.getElem?_eq_getElem (by omega)]
    have h3:=(List.cons.inj h2).1
    simp only [hd] at h3
    simp [←h3]
  · rintro ⟨h1, h2, h3⟩
    rw [List.length_append,List.length_singleton,List.take_succ_eq_append_getElem (by omega)]
    rw [bt_getD,List.getD_eq_getElem?_getD,List.getElem?_eq_getElem (by omega)] at h3
    have h4:p.data.toList.take d.size=d.data.toList:=by rw [←hx,h2]
    simp only [hd]
    rw [h4]
    congr 1
    congr 1
    apply UInt8.toNat_inj.1
    have:((p.data.toList[d.size]'(by omega)).toNat:Int)=47:=by simpa using h3
    have h5:(p.data.toList[d.size]'(by omega)).toNat=47:=by omega
    rw [h5]
    rfl

end Go.Proofs.YthfpoacindblgaaDoor.Pure


namespace Go.Proofs.YthfpoacindblgaaDoor.Pure
open Go Go.RowKit Go.Proofs.YthfpoacindblgaaDoor.P Go.Proofs.YthfpoacindblgaaDoorW.PrintWords Go.Proofs.YthfpoacindblgaaDoorW.PrintLast
set_option linter.unusedVariables false
set_option linter.unusedSimpArgs false

theorem mget_mput {α : Type} (z v : α) (k q : ByteArray) : ∀ M : List (ByteArray × α), mget z q (mput k v M) = if k.toList = q.toList then v else mget z q M
  | [] => by
    unfold mput mget
    split
    · rfl
    · rfl
  | p :: r => by
    by_cases hp:p.1.toList=k.toList
    · rw [mput, if_pos hp]
      by_cases hk:k.toList=q.toList
      · rw [if_pos hk,mget,if_pos hk]
      · rw [if_neg hk,mget,if_neg hk,mget,if_neg (by rw [hp];exact hk)]
    · rw [mput, if_neg hp]
      by_cases hq:p.1.toList=q.toList
      · rw [mget,if_pos hq,if_neg (by rw [←hq];exact fun e=>hp e.symm),mget,if_pos hq]
      · rw [mget, if_neg hq, mget_mput z v k q r]
        by_cases hk:k.toList=q.toList
        · rw [if_pos hk,if_pos hk]
        · rw [if_neg hk,if_neg hk,mget,if_neg hq]
theorem mhas_key {α:Type} (k:ByteArray):∀ M:List (ByteArray×α),mhas k M=true→k ∈ M.map (·.1)
  | [],h=>by cases h
  | p :: r, h => by
    unfold mhas at h
    split at h
    · rename_i e
      rw [List.map_cons,str_eq e]
      exact List.mem_cons_self
    · rw [List.map_cons]
      exact List.mem_cons_of_mem _ (mhas_key k r h)

end Go.Proofs.YthfpoacindblgaaDoor.Pure


namespace Go.Proofs.YthfpoacindblgaaDoor.Pure
open Go Go.Proofs.YthfpoacindblgaaDoor.P
/-- The sizes of what a reading at type 61 gives. -/
def Small61 (x:S61):Prop:=(x.f0.size≤140737488351232)∧((x.f1.size≤140737488351232)∧(True))
end Go.Proofs.YthfpoacindblgaaDoor.Pure


namespace Go.Proofs.YthfpoacindblgaaDoor.Ow
open Go Go.Proofs.YthfpoacindblgaaDoorW.PrintWords

/-- A reading at type t is a value of kind d, of which S holds. -/
def Opens (P : Program) (t : TypeId) {α : Type} (d : Kd α) (S : α → Prop) : Prop :=
  ∀ (H : Type) (enc : TypeId × Value → H) (w : World) (fuel : Nat) (cs : List Value) (x : DataW H × List MemPlace),
    DataW.trod enc P w 0 (fun _=>true) true fuel t cs=some x→(∀ n ∈ x.1.weights P t,n≤140737488351232) → ∃ y:α,d.K w y cs∧S y

theorem opens_string {P:Program} {t:TypeId} (ht:P.underlying t=some .string):Opens P t Kd.string (fun s=>s.size≤140737488351232):=by
  intro H enc w fuel cs x h hw
  obtain ⟨s,rfl,rfl,_⟩:=DataW.trod_string ht h
  refine ⟨s,rfl,?_⟩
  have:=hw s.data.toList.length (by simp [DataW.weights])
  simpa using this

theorem opens_int {P:Program} {t:TypeId} {k:IntKind} (ht:P.underlying t=some (.int k)):Opens P t (Kd.int k) (fun n=>(Lit.int k n).wf=true):=by
  intro H enc w fuel cs x h _
  obtain ⟨n,rfl,rfl,hn⟩:=DataW.trod_int ht h
  exact ⟨n,rfl,hn⟩

theorem opens_bool {P:Program} {t:TypeId} (ht:P.underlying t=some .bool):Opens P t Kd.bool (fun _=>True):=by
  intro H enc w fuel cs x h _
  obtain ⟨b,rfl,rfl⟩:=DataW.trod_bool ht h
  exact ⟨b,rfl,trivial⟩

theorem mem_weightsAll {H:Type} {P:Program} {e:TypeId} {d:DataW H}:∀ {l:List (DataW H)},d ∈ l → ∀ n ∈ d.weights P e,n ∈ DataW.weightsAll P e l
  | [],h,_,_=>by cases h
  | x :: r, h, n, hn => by
    simp only [DataW.weightsAll,List.mem_append]
    rcases List.mem_cons.1 h with rfl|h
    · exact .inl hn
    · exact .inr (mem_weightsAll h n hn)

theorem opens_slice {P : Program} {t e : TypeId} {α : Type} {d : Kd α} {S : α → Prop} {B : Nat} (ht : P.underlying t = some (.slice e)) (hc : P.cellsOf e = d.sz) (hB : P.bytesOf e = B) (he : Opens P e d S) :
    Opens P t (Kd.slice e d) (fun xs=>xs.length*B≤140737488351232 ∧ ∀ x ∈ xs,S x):=by
  intro H enc w fuel cs x h hw
  rcases DataW.trod_slice ht h with ⟨rfl,rfl⟩|⟨a,len,cap,elems,rest,n,_,rfl,rfl,_,hl,hm,hlen,hel,_,_⟩
  · refine ⟨[],⟨none,0,rfl,Nat.le_refl _,rfl,by simp,fun h=>by simp at h⟩,by simp,by simp⟩
  · have hw1 : (elems.length + rest.length) * B ≤ 140737488351232 := by
      have:=hw ((elems.length+rest.length)*B) (by simp [DataW.weights,ht,hB])
      exact this
    have key:∀ i,i<len → ∃ y:α,(∃ c,c.length=d.sz∧d.K w y c ∧ ∀ j u,c[j]? = some u→w.cell? (a.add (i*d.sz+j))=some u)∧S y:=by
      intro i hi
      have hi':i<elems.length:=by omega
      have hb:=hel i hi
      rw [List.getElem?_eq_getElem hi'] at hb
      obtain ⟨c,hc1,hc2⟩:=Option.bind_eq_some_iff.1 hb
      obtain ⟨y,hy,hS⟩:=he H enc w n c _ hc2 (fun m hm=>by
        refine hw m ?_
        simp only [DataW.weights,ht,List.mem_cons,List.mem_append]
        refine .inr (.inl (mem_weightsAll (d:=elems[i].1) ?_ m hm))
        exact List.mem_map.2 ⟨elems[i],List.getElem_mem hi',rfl⟩)
      obtain ⟨_,hcl,hcell⟩:=World.cells?_some hc1
      refine ⟨y,⟨c,by rw [hcl,hc],hy,fun j u hu => ?_⟩,hS⟩
      have hj:j<P.cellsOf e:=by
        rw [←hcl]
        exact (List.getElem?_eq_some_iff.1 hu).1
      have:=hcell j hj
      rw [hu,Go.Deep.add_add,hc] at this
      exact this
    obtain ⟨f,hf⟩:∃ f:Fin len→α,∀ i:Fin len,(∃ c,c.length=d.sz∧d.K w (f i) c ∧ ∀ j u,c[j]? = some u→w.cell? (a.add (i.val*d.sz+j))=some u)∧S (f i) :=
      ⟨fun i=>Classical.choose (key i.val i.isLt),fun i=>Classical.choose_spec (key i.val i.isLt)⟩
    refine ⟨List.ofFn f,⟨some a,cap,by rw [List.length_ofFn],by rw [List.length_ofFn];exact hl,rfl,?_,fun _=>⟨a,rfl,?_⟩⟩,?_,?_⟩
    · rw [List.length_ofFn]
      unfold maxLen at hm
      omega
    · intro j p hj
      rw [List.getElem?_ofFn] at hj
      split at hj
      · rename_i hlt
        obtain rfl:=Option.some.inj hj
        exact (hf ⟨j,hlt⟩).1
      · cases hj
    · rw [List.length_ofFn]
      exact Nat.le_trans (Nat.mul_le_mul_right _ (by omega)) hw1
    · intro x hx
      obtain ⟨i,rfl⟩:=List.mem_ofFn.1 hx
      exact (hf i).2

/-- The fields of a struct, from cell k on. -/
def OpensF (P : Program) (fs : List Field) (k : Nat) {α : Type} (d : Kd α) (S : α → Prop) : Prop :=
  ∀ (H : Type) (enc : TypeId × Value → H) (w : World) (m : Nat) (cs : List Value) (xs : List (DataW H × List MemPlace)),
    cs.length=k+d.sz→xs.length=fs.length →
    (∀ (i:Nat) (f:Field),fs[i]? = some f→DataW.trod enc P w 0 (fun _=>true) true m f.type ((cs.drop f.offset).take (P.cellsOf f.type))=xs[i]?) →
    (∀ n ∈ DataW.weightsEach P (fs.map (·.type)) (xs.map (·.1)),n≤140737488351232) → ∃ y:α,d.K w y (cs.drop k)∧S y

theorem opensF_last {P:Program} {f:Field} {k:Nat} {α:Type} {d:Kd α} {S:α→Prop} (ho:f.offset=k) (hc:P.cellsOf f.type=d.sz) (h:Opens P f.type d S):OpensF P [f] k d S:=by
  intro H enc w m cs xs hl hx hf hw
  match xs,hx with
  | [x], _ =>
    have h0:=hf 0 f rfl
    rw [ho,hc] at h0
    have ht:(cs.drop k).take d.sz=cs.drop k:=List.take_of_length_le (by rw [List.length_drop];omega)
    rw [ht] at h0
    exact h H enc w m _ x (by simpa using h0) (fun n hn=>hw n (by simp [DataW.weightsEach,hn]))

theorem opensF_cons {P:Program} {f:Field} {fs:List Field} {k:Nat} {α β:Type} {a:Kd α} {b:Kd β} {Sa:α→Prop} {Sb:β→Prop} (ho:f.offset=k) (hc:P.cellsOf f.type=a.sz) (h:Opens P f.type a Sa) (hr:OpensF P fs (k+a.sz) b Sb) :
    OpensF P (f :: fs) k (Kd.pair a b) (fun y=>Sa y.1∧Sb y.2):=by
  intro H enc w m cs xs hl hx hf hw
  match xs,hx with
  | x :: xr, hx =>
    have hl2:cs.length=k+(a.sz+b.sz):=hl
    have h0:=hf 0 f rfl
    rw [ho,hc] at h0
    obtain ⟨y,hy,hS⟩:=h H enc w m _ x (by simpa using h0) (fun n hn=>hw n (by simp only [List.map_cons,DataW.weightsEach,List.mem_append];exact .inl hn))
    obtain ⟨z,hz,hT⟩:=hr H enc w m cs xr (by omega) (by simpa using hx) (fun i g hg=>by simpa using hf (i+1) g (by simpa using hg)) (fun n hn=>hw n (by simp only [List.map_cons,DataW.weightsEach,List.mem_append];exact .inr hn))
    refine ⟨(y,z),⟨(cs.drop k).take a.sz,cs.drop (k+a.sz),?_,hy,hz⟩,hS,hT⟩
    rw [←List.drop_drop,List.take_append_drop]

theorem opens_struct {P:Program} {t:TypeId} {fs:Array Field} {α β:Type} {d:Kd α} {S:α→Prop} {f:β→α} {g:α→β} (ht:P.underlying t=some (.struct fs)) (hc:P.cellsOf t=d.sz) (hg:∀ y,f (g y)=y) (h:OpensF P fs.toList 0 d S) :
    Opens P t (Kd.iso d f) (fun b=>S (f b)):=by
  intro H enc w fuel cs x hx hw
  obtain ⟨xs,n,_,rfl,hl,hxs,hf⟩:=DataW.trod_struct ht hx
  obtain ⟨y,hy,hS⟩:=h H enc w n cs xs (by rw [hl,hc];omega) (by simpa using hxs) (fun i f0 hi=>hf i f0 (by simpa using hi)) (fun n hn=>hw n (by simpa [DataW.weights,ht] using hn))
  exact ⟨g y,show d.K w (f (g y)) cs by rw [hg];simpa using hy,show S (f (g y)) by rw [hg];exact hS⟩

/-- The weights of one argument out of all. -/
theorem weights_of {H:Type} {P:Program} {ts:List TypeId} {ds:List (DataW H)} (hsz:(DataW.weightsEach P ts ds).all (· ≤ reachBytes)=true) {j:Nat} {t:TypeId} {d:DataW H} (ht:ts[j]? = some t) (hd:ds[j]? = some d) :
    ∀ n ∈ d.weights P t,n≤140737488351232:=fun n hn=>by
  have:=List.all_eq_true.1 hsz n (DataW.weights_mem_each ht hd n hn)
  exact of_decide_eq_true this

theorem agg_of {P:Program} {W:World} {base:Nat} {t:TypeId} {v:Value} {fs:Array Field} (ht:P.underlying t=some (.struct fs)) (h:Value.okWide P W .any base t v):∃ cs,v = .agg cs:=by
  simp only [Value.okWide,ht] at h
  obtain ⟨cs,h,_⟩:=h
  exact ⟨cs,h⟩

/-- A struct argument, opened. -/
theorem open_agg {H:Type} {enc:TypeId×Value→H} {P:Program} {W:World} {base:Nat} {t:TypeId} {v:Value} {fs:Array Field} {x:DataW H} {p:List MemPlace} {α:Type} {d:Kd α} {S:α→Prop}
    (ho:Opens P t d S) (ht:P.underlying t=some (.struct fs)) (hv:Value.okWide P W .any base t v) (h:DataW.Trod enc P W 0 (fun _=>true) true t v x p) (hw:∀ n ∈ x.weights P t,n≤140737488351232) :
    ∃ cs y,v = .agg cs∧d.K W y cs.toList∧S y:=by
  obtain ⟨cs,rfl⟩:=agg_of ht hv
  obtain ⟨fuel,hf⟩:=h
  obtain ⟨y,hy,hS⟩:=ho H enc W fuel _ _ hf hw
  exact ⟨cs,y,rfl,hy,hS⟩

/-- A slice argument, opened. -/
theorem open_row {H:Type} {enc:TypeId×Value→H} {P:Program} {W:World} {base:Nat} {t e:TypeId} {v:Value} {x:DataW H} {p:List MemPlace} {α:Type} {d:Kd α} {S:List α→Prop}
    (ho:Opens P t (Kd.slice e d) S) (ht:P.underlying t=some (.slice e)) (hv:Value.okWide P W .any base t v) (h:DataW.Trod enc P W 0 (fun _=>true) true t v x p) (hw:∀ n ∈ x.weights P t,n≤140737488351232) :
    ∃ (A:Option Addr) (c:Nat) (xs:List α),v = .slice A xs.length c∧xs.length≤c∧d.C W A xs.length xs∧S xs:=by
  obtain ⟨a0,len,cap,rfl⟩:=Go.WideShapes.okWide_slice ht hv
  obtain ⟨fuel,hf⟩:=h
  obtain ⟨xs,⟨A,c,he,hl,hC⟩,hS⟩:=ho H enc W fuel _ _ hf hw
  have he2 : [Value.slice a0 len cap] = [.slice A xs.length c]:=by simpa [Value.cells] using he
  simp only [List.cons.injEq,and_true] at he2
  exact ⟨A,c,xs,he2,hl,hC,hS⟩

/-- A row's wrap, with the world's shape and one condition more. -/
theorem returnsInHanded_shaped_and {H:Type} {enc:TypeId×Value→H} {a:Assume} {C:Checked} {os:Os} {f:FuncId} {fn:Func} {s:ChangeSpec} {conds:List PathCond} {apart fresh handsOn again:Bool} {X:World→Array Value→Prop}
    (hX:∀ (w w':World) (args:Array Value),w.heap=w'.heap→X w args→X w' args)
    (own:ownKnob C.prog.godebug=none) (started:os.Started) (noInit:C.prog.inits.idxOf? f=none) (hfn:C.prog.funcs[f]? = some fn)
    (witness:∃ (w:World) (tape:Tape) (i:Input),w.os=os∧(w.forCall tape i).Shaped C.prog∧i.vars = []∧Input.okWide C.prog (w.forCall tape i) .any w.heap.size f i ∧
      ((s.pre enc C.prog fn conds apart (w.forCall tape i).memory i.args∧X (w.forCall tape i).memory i.args)∧sizedMet enc C.prog fn (OpenSpec.ofChange s) apart (w.forCall tape i).memory i.args)∧a.holds C.prog (lone (Frame.enter C.prog f i.args .normal) [] (w.forCall tape i)))
    (contract:∀ (W:World) (base:Nat) (args:Array Value) (ds gs:List (DataW H)) (before:List MemPlace),
      (∀ (j:Nat) t v,fn.params[j]? = some t→args[j]? = some v→Value.okWide C.prog W .any base t v) →
      DataW.Whole enc C.prog fn.params.toList s.vars apart W args.toList ds gs before →
      conds.all (PathCond.test C.prog ⟨fn.params.toList,ds,s.plain.varTypes C.prog,gs⟩)=true →
      (DataW.weightsEach C.prog (fn.params.toList++s.plain.varTypes C.prog) (ds++gs)).all (· ≤ reachBytes)=true→W.ShapedOpen C.prog→X W args →
      a.holds C.prog (lone (Frame.enter C.prog f args .normal) [] W) →
      Calls C.prog f args W fun e W' => ∃ v,e = .returned v∧s.post enc C.prog fn apart fresh handsOn again W args v W') :
    ReturnsInHanded a C os f .any (fun w args=>(s.pre enc C.prog fn conds apart w args∧X w args)∧sizedMet enc C.prog fn (OpenSpec.ofChange s) apart w args) (s.post enc C.prog fn apart fresh handsOn again):=by
  refine returnsInHanded_of_calls own started noInit witness ?_
  intro w tape i _ hsh _ hok hpre hholds
  obtain ⟨_,_,_,fn',hfn',_,_,_,_,hval⟩:=hok
  have e:fn'=fn:=Option.some.inj (hfn'.symm.trans hfn)
  subst e
  obtain ⟨⟨⟨ds,gs,before,hw,hc⟩,hx⟩,hz⟩:=hpre
  have hw':=DataW.Whole.of_heap (w':=w.forCall tape i) (by rfl) hw
  refine (contract (w.forCall tape i) w.heap.size i.args ds gs before hval hw' hc (hz.weights hw) hsh (hX _ _ _ (by rfl) hx) hholds).mono fun e W' ⟨v,he,hp⟩ => ?_
  subst he
  exact ChangeSpec.post_blind hp

/-- The places of a reading lie in the world. -/
theorem places_lt {H:Type} {enc:TypeId×Value→H} {P:Program} {W:World} {t:TypeId} {v:Value} {x:DataW H} {p:List MemPlace} (h:DataW.Trod enc P W 0 (fun _=>true) true t v x p):∀ y ∈ p,y.block<W.heap.size:=by
  obtain ⟨m,hm⟩:=h
  exact DataW.trod_lt m _ _ _ hm

end Go.Proofs.YthfpoacindblgaaDoor.Ow

