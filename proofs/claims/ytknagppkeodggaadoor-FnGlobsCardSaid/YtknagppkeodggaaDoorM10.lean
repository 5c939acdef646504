-- Printed for this claim by a small program of this session (kprint.py), which drives the kit's print program.
import Derived.Test.YtknagppkeodggaaDoorM2
import Derived.Test.YtknagppkeodggaaDoorM3
import Derived.Test.YtknagppkeodggaaDoorM4
import Derived.Test.YtknagppkeodggaaDoorM8
import Derived.Test.YtknagppkeodggaaDoorM9
import Derived.Test.YtknagppkeodggaaDoorM5
namespace Go.Proofs.YtknagppkeodggaaDoor.P
open Go.RowKit Go.Proofs.YtknagppkeodggaaDoorW.PrintWords Go.Proofs.YtknagppkeodggaaDoorW.PrintLast Go.Proofs.YtknagppkeodggaaDoorW.PrintMore
attribute [local go_sem] max2_int min2_int max_two min_two max_three min_three max_four min_four
set_option linter.unusedVariables false
set_option linter.unusedSimpArgs false

mutual
def laws_FnGlobs.j1:Nat→List Int→Option (Bool)
 | 0,_=>none
 | k+1,x0=>(spec_DrawPick.f k x0).bind fun bt629=>((impl_Pick.f k bt629.1 bt629.2).bind fun a2=>((spec_Pick.f k bt629.1 bt629.2).bind fun ax=>((laws_wTree.f k a2 ax).bind fun ay=>(if ay=true then (laws_FnGlobs.l0 k bt629.2 0 a2) else (some false)))))
def laws_FnGlobs.l0:Nat→List ByteArray→Int→List (S27)→Option (Bool)
 | 0,_,_,_=>none
 | k+1,x7,x9,aA=>if x9<(aA.length:Int) then (laws_FnGlobs.l1 k x7 x9 false 0 aA) else (some true)
def laws_FnGlobs.l1:Nat→List ByteArray→Int→Bool→Int→List (S27)→Option (Bool)
 | 0,_,_,_,_,_=>none
 | k+1,x7,x9,x10,x11,aA=>if x11<(x7.length:Int) then (if x10=true then (laws_FnGlobs.l1 k x7 x9 true (wrap64 (x11+1)) aA) else (if 0≤x11 then (if 0≤x9 then (if x9<(aA.length:Int) then ((impl_Match.f k (rdOf ByteArray.empty x7 x11) ((rd_T27 aA x9).f0)).bind fun aH=>(laws_FnGlobs.l1 k x7 x9 aH (wrap64 (x11+1)) aA)) else (none)) else (none)) else (none))) else (if x10=true then (laws_FnGlobs.l0 k x7 (wrap64 (x9+1)) aA) else (some false))
def laws_FnGlobs.j0:Nat→List Int→ByteArray→ByteArray→Bool→Bool→Option (Bool)
 | 0,_,_,_,_,_=>none
 | k+1,x0,x3,x4,x5,x44=>if x44=true then (some false) else (if x5=true then (if 2+x4.size≤9223372036854775807 then ((spec_ValidPath.f k ((⟨#[122,47]⟩:ByteArray)++x4)).bind fun aB=>(if aB=true then (if 3+x3.size≤9223372036854775807 then ((spec_ValidGlob.f k ((⟨#[42,42,47]⟩:ByteArray)++x3)).bind fun aw=>(if aw=true then ((impl_Match.f k ((⟨#[42,42,47]⟩:ByteArray)++x3) ((⟨#[122,47]⟩:ByteArray)++x4)).bind fun an=>(if an=true then (laws_FnGlobs.j1 k x0) else (some false))) else (laws_FnGlobs.j1 k x0))) else (none)) else (laws_FnGlobs.j1 k x0))) else (none)) else (laws_FnGlobs.j1 k x0))
end
def laws_FnGlobs.f (k:Nat) (l0:List Int):Option (Bool):=if (l0.length:Int)>1048576 then (some true) else ((spec_DrawMatch.f k l0).bind fun bt618=>((impl_Match.f k bt618.1 bt618.2).bind fun a4=>((spec_Match.f k bt618.1 bt618.2).bind fun aj=>(if (a4 != aj)=true then (some false) else ((spec_ValidPath.f k bt618.2).bind fun au=>(if au=true then ((impl_Match.f k bt618.2 bt618.2).bind fun ao=>(if ao=true then (if bt618.2.size+1≤9223372036854775807 then ((impl_Match.f k bt618.2 (bt618.2++(⟨#[122]⟩:ByteArray))).bind fun ai=>(if ai=true then ((spec_ValidPath.f k (bt618.2++(⟨#[122]⟩:ByteArray))).bind fun ac=>(laws_FnGlobs.j0 k l0 bt618.1 bt618.2 a4 ac)) else (laws_FnGlobs.j0 k l0 bt618.1 bt618.2 a4 false))) else (none)) else (laws_FnGlobs.j0 k l0 bt618.1 bt618.2 a4 true))) else (laws_FnGlobs.j1 k l0)))))))
theorem laws_FnGlobs.mono_l:∀ k,(∀ y0,LeO (laws_FnGlobs.j1 k y0) (laws_FnGlobs.j1 (k+1) y0))∧(∀ y0 y1 y2,LeO (laws_FnGlobs.l0 k y0 y1 y2) (laws_FnGlobs.l0 (k+1) y0 y1 y2))∧(∀ y0 y1 y2 y3 y4,LeO (laws_FnGlobs.l1 k y0 y1 y2 y3 y4) (laws_FnGlobs.l1 (k+1) y0 y1 y2 y3 y4))∧(∀ y0 y1 y2 y3 y4,LeO (laws_FnGlobs.j0 k y0 y1 y2 y3 y4) (laws_FnGlobs.j0 (k+1) y0 y1 y2 y3 y4))
 | 0=>⟨fun _ r h=>by simp [laws_FnGlobs.j1] at h,fun _ _ _ r h=>by simp [laws_FnGlobs.l0] at h,fun _ _ _ _ _ r h=>by simp [laws_FnGlobs.l1] at h,fun _ _ _ _ _ r h=>by simp [laws_FnGlobs.j0] at h⟩
 | k + 1 => by
  obtain ⟨ih0,ih1,ih2,ih3⟩:=laws_FnGlobs.mono_l k;refine ⟨?_,?_,?_,?_⟩
  ·intro y0
   unfold laws_FnGlobs.j1
   repeat' first
   | (with_reducible exact ih0 _)
   | (with_reducible exact ih1 _ _ _)
   | (with_reducible exact ih2 _ _ _ _ _)
   | (with_reducible exact ih3 _ _ _ _ _)
   | (with_reducible exact impl_Match.mono _ _ _)
   | (with_reducible exact impl_Pick.mono _ _ _)
   | (with_reducible exact laws_wTree.mono _ _ _)
   | (with_reducible exact spec_DrawMatch.mono _ _)
   | (with_reducible exact spec_DrawPick.mono _ _)
   | (with_reducible exact spec_Match.mono _ _ _)
   | (with_reducible exact spec_Pick.mono _ _ _)
   | (with_reducible exact spec_ValidGlob.mono _ _)
   | (with_reducible exact spec_ValidPath.mono _ _)
   | (with_reducible exact LeO.refl _)
   | (with_reducible exact LeO.none _)
   | (with_reducible refine LeO.ite ?_ ?_)
   | (with_reducible refine LeO.bind ?_ (fun _ => ?_))
   | exact ih0 _
   | exact ih1 _ _ _
   | exact ih2 _ _ _ _ _
   | exact ih3 _ _ _ _ _
   | exact impl_Match.mono _ _ _
   | exact impl_Pick.mono _ _ _
   | exact laws_wTree.mono _ _ _
   | exact spec_DrawMatch.mono _ _
   | exact spec_DrawPick.mono _ _
   | exact spec_Match.mono _ _ _
   | exact spec_Pick.mono _ _ _
   | exact spec_ValidGlob.mono _ _
   | exact spec_ValidPath.mono _ _
   | exact LeO.none _
   | refine LeO.ite ?_ ?_
   | refine LeO.bind ?_ (fun _ => ?_)
  ·intro y0 y1 y2
   unfold laws_FnGlobs.l0
   repeat' first
   | (with_reducible exact ih0 _)
   | (with_reducible exact ih1 _ _ _)
   | (with_reducible exact ih2 _ _ _ _ _)
   | (with_reducible exact ih3 _ _ _ _ _)
   | (with_reducible exact impl_Match.mono _ _ _)
   | (with_reducible exact impl_Pick.mono _ _ _)
   | (with_reducible exact laws_wTree.mono _ _ _)
   | (with_reducible exact spec_DrawMatch.mono _ _)
   | (with_reducible exact spec_DrawPick.mono _ _)
   | (with_reducible exact spec_Match.mono _ _ _)
   | (with_reducible exact spec_Pick.mono _ _ _)
   | (with_reducible exact spec_ValidGlob.mono _ _)
   | (with_reducible exact spec_ValidPath.mono _ _)
   | (with_reducible exact LeO.refl _)
   | (with_reducible exact LeO.none _)
   | (with_reducible refine LeO.ite ?_ ?_)
   | (with_reducible refine LeO.bind ?_ (fun _ => ?_))
   | exact ih0 _
   | exact ih1 _ _ _
   | exact ih2 _ _ _ _ _
   | exact ih3 _ _ _ _ _
   | exact impl_Match.mono _ _ _
   | exact impl_Pick.mono _ _ _
   | exact laws_wTree.mono _ _ _
   | exact spec_DrawMatch.mono _ _
   | exact spec_DrawPick.mono _ _
   | exact spec_Match.mono _ _ _
   | exact spec_Pick.mono _ _ _
   | exact spec_ValidGlob.mono _ _
   | exact spec_ValidPath.mono _ _
   | exact LeO.none _
   | refine LeO.ite ?_ ?_
   | refine LeO.bind ?_ (fun _ => ?_)
  ·intro y0 y1 y2 y3 y4
   unfold laws_FnGlobs.l1
   repeat' first
   | (with_reducible exact ih0 _)
   | (with_reducible exact ih1 _ _ _)
   | (with_reducible exact ih2 _ _ _ _ _)
   | (with_reducible exact ih3 _ _ _ _ _)
   | (with_reducible exact impl_Match.mono _ _ _)
   | (with_reducible exact impl_Pick.mono _ _ _)
   | (with_reducible exact laws_wTree.mono _ _ _)
   | (with_reducible exact spec_DrawMatch.mono _ _)
   | (with_reducible exact spec_DrawPick.mono _ _)
   | (with_reducible exact spec_Match.mono _ _ _)
   | (with_reducible exact spec_Pick.mono _ _ _)
   | (with_reducible exact spec_ValidGlob.mono _ _)
   | (with_reducible exact spec_ValidPath.mono _ _)
   | (with_reducible exact LeO.refl _)
   | (with_reducible exact LeO.none _)
   | (with_reducible refine LeO.ite ?_ ?_)
   | (with_reducible refine LeO.bind ?_ (fun _ => ?_))
   | exact ih0 _
   | exact ih1 _ _ _
   | exact ih2 _ _ _ _ _
   | exact ih3 _ _ _ _ _
   | exact impl_Match.mono _ _ _
   | exact impl_Pick.mono _ _ _
   | exact laws_wTree.mono _ _ _
   | exact spec_DrawMatch.mono _ _
   | exact spec_DrawPick.mono _ _
   | exact spec_Match.mono _ _ _
   | exact spec_Pick.mono _ _ _
   | exact spec_ValidGlob.mono _ _
   | exact spec_ValidPath.mono _ _
   | exact LeO.none _
   | refine LeO.ite ?_ ?_
   | refine LeO.bind ?_ (fun _ => ?_)
  ·intro y0 y1 y2 y3 y4
   unfold laws_FnGlobs.j0
   repeat' first
   | (with_reducible exact ih0 _)
   | (with_reducible exact ih1 _ _ _)
   | (with_reducible exact ih2 _ _ _ _ _)
   | (with_reducible exact ih3 _ _ _ _ _)
   | (with_reducible exact impl_Match.mono _ _ _)
   | (with_reducible exact impl_Pick.mono _ _ _)
   | (with_reducible exact laws_wTree.mono _ _ _)
   | (with_reducible exact spec_DrawMatch.mono _ _)
   | (with_reducible exact spec_DrawPick.mono _ _)
   | (with_reducible exact spec_Match.mono _ _ _)
   | (with_reducible exact spec_Pick.mono _ _ _)
   | (with_reducible exact spec_ValidGlob.mono _ _)
   | (with_reducible exact spec_ValidPath.mono _ _)
   | (with_reducible exact LeO.refl _)
   | (with_reducible exact LeO.none _)
   | (with_reducible refine LeO.ite ?_ ?_)
   | (with_reducible refine LeO.bind ?_ (fun _ => ?_))
   | exact ih0 _
   | exact ih1 _ _ _
   | exact ih2 _ _ _ _ _
   | exact ih3 _ _ _ _ _
   | exact impl_Match.mono _ _ _
   | exact impl_Pick.mono _ _ _
   | exact laws_wTree.mono _ _ _
   | exact spec_DrawMatch.mono _ _
   | exact spec_DrawPick.mono _ _
   | exact spec_Match.mono _ _ _
   | exact spec_Pick.mono _ _ _
   | exact spec_ValidGlob.mono _ _
   | exact spec_ValidPath.mono _ _
   | exact LeO.none _
   | refine LeO.ite ?_ ?_
   | refine LeO.bind ?_ (fun _ => ?_)
theorem laws_FnGlobs.mono:∀ a0 k,LeO (laws_FnGlobs.f k a0) (laws_FnGlobs.f (k+1) a0):=by
 intro a0 k;obtain ⟨ih0,ih1,ih2,ih3⟩:=laws_FnGlobs.mono_l k
 unfold laws_FnGlobs.f
 repeat' first
   | (with_reducible exact ih0 _)
   | (with_reducible exact ih1 _ _ _)
   | (with_reducible exact ih2 _ _ _ _ _)
   | (with_reducible exact ih3 _ _ _ _ _)
   | (with_reducible exact impl_Match.mono _ _ _)
   | (with_reducible exact impl_Pick.mono _ _ _)
   | (with_reducible exact laws_wTree.mono _ _ _)
   | (with_reducible exact spec_DrawMatch.mono _ _)
   | (with_reducible exact spec_DrawPick.mono _ _)
   | (with_reducible exact spec_Match.mono _ _ _)
   | (with_reducible exact spec_Pick.mono _ _ _)
   | (with_reducible exact spec_ValidGlob.mono _ _)
   | (with_reducible exact spec_ValidPath.mono _ _)
   | (with_reducible exact LeO.refl _)
   | (with_reducible exact LeO.none _)
   | (with_reducible refine LeO.ite ?_ ?_)
   | (with_reducible refine LeO.bind ?_ (fun _ => ?_))
   | exact ih0 _
   | exact ih1 _ _ _
   | exact ih2 _ _ _ _ _
   | exact ih3 _ _ _ _ _
   | exact impl_Match.mono _ _ _
   | exact impl_Pick.mono _ _ _
   | exact laws_wTree.mono _ _ _
   | exact spec_DrawMatch.mono _ _
   | exact spec_DrawPick.mono _ _
   | exact spec_Match.mono _ _ _
   | exact spec_Pick.mono _ _ _
   | exact spec_ValidGlob.mono _ _
   | exact spec_ValidPath.mono _ _
   | exact LeO.none _
   | refine LeO.ite ?_ ?_
   | refine LeO.bind ?_ (fun _ => ?_)
def laws_FnGlobs.T23:Bool×List (List Nat×List Nat):=(true,[([],[]),([0],[0]),([1],[1]),([1],[1]),([2,3,1],[1,2,3]),([4,1],[1,4]),([1],[1]),([6,1],[1,6]),([1],[1]),([7,8,1],[1,7,8]),([9,1],[1,9]),([10,1],[1,10]),([5,11,1,1],[1,5,11]),([1,12],[1,12]),([13,12,0,1,2,3,4,5,6,7,8,9,10,11,12,13],[0,13])])
def laws_FnGlobs.B23:List Nat:=[0,1,3,3,15,31,3,67,3,451,963,1987,4095,8191,16383]
theorem laws_FnGlobs.tab23:rtab .any (opsOf Tryd.f4 23)=laws_FnGlobs.T23:=by kernel_rfl
theorem laws_FnGlobs.bits23:waitsOk laws_FnGlobs.T23.2 laws_FnGlobs.B23=true:=by kernel_rfl
set_option maxHeartbeats 8000000 in
set_option maxRecDepth 100000 in
theorem laws_FnGlobs.calls (k : Nat) (A0 : Option Addr) (c0 : Nat) (l0 : List Int) (r : Bool) (w : World) (hg : GOK w) (hr0 : Kd.C (Kd.int .u8) w A0 l0.length l0) (hc0 : l0.length ≤ c0) (h : laws_FnGlobs.f k l0 = some r) (hrt : r = true) :
  Calls Tryd.prog 4 #[.slice A0 l0.length c0] w fun e w'=>e = .returned (.bool r)∧Below w.heap.size w w':=by
 have HG:=Aside0.mk hg;clear hg;have hu25:=Tryd.underlying25;have HR0:=Aside0.mk hr0;have HC0:=Aside0.mk hc0;clear hr0 hc0;have HB:=Aside0.mk (Below.refl w.heap.size w);have H:(if (l0.length:Int)>1048576 then (some true) else ((spec_DrawMatch.f k l0).bind fun bt618=>((impl_Match.f k bt618.1 bt618.2).bind fun a4=>((spec_Match.f k bt618.1 bt618.2).bind fun aj=>(if (a4 != aj)=true then (some false) else ((spec_ValidPath.f k bt618.2).bind fun au=>(if au=true then ((impl_Match.f k bt618.2 bt618.2).bind fun ao=>(if ao=true then (if bt618.2.size+1≤9223372036854775807 then ((impl_Match.f k bt618.2 (bt618.2++(⟨#[122]⟩:ByteArray))).bind fun ai=>(if ai=true then ((spec_ValidPath.f k (bt618.2++(⟨#[122]⟩:ByteArray))).bind fun ac=>(laws_FnGlobs.j0 k l0 bt618.1 bt618.2 a4 ac)) else (laws_FnGlobs.j0 k l0 bt618.1 bt618.2 a4 false))) else (none)) else (laws_FnGlobs.j0 k l0 bt618.1 bt618.2 a4 true))) else (laws_FnGlobs.j1 k l0))))))))=some r:=h;clear h
 by_cases c2:(l0.length:Int)>1048576
 ·rw [if_pos c2] at H
  have aU:decide (1048576<(l0.length:Int))=true:=decide_eq_true c2;have aV:decide (1048576<l0.length)=true:=decide_eq_true (by omega);clear c2;obtain rfl:=Option.some.inj H
  go_enter Tryd.func4,Tryd.ntmps4
  go_wp2
  go_ret
  exact ⟨Ye2,be HB.out⟩
 ·rw [if_neg c2] at H
  have aU:decide (1048576<(l0.length:Int))=false:=decide_eq_false c2;have aV:decide (1048576<l0.length)=false:=decide_eq_false (by omega);clear c2;replace H:=Option.bind_eq_some_iff.mp H;obtain ⟨⟨a3,a1⟩,A30,H⟩:=H;replace H:((impl_Match.f k a3 a1).bind fun a4=>((spec_Match.f k a3 a1).bind fun aj=>(if (a4 != aj)=true then (some false) else ((spec_ValidPath.f k a1).bind fun au=>(if au=true then ((impl_Match.f k a1 a1).bind fun ao=>(if ao=true then (if a1.size+1≤9223372036854775807 then ((impl_Match.f k a1 (a1++(⟨#[122]⟩:ByteArray))).bind fun ai=>(if ai=true then ((spec_ValidPath.f k (a1++(⟨#[122]⟩:ByteArray))).bind fun ac=>(laws_FnGlobs.j0 k l0 a3 a1 a4 ac)) else (laws_FnGlobs.j0 k l0 a3 a1 a4 false))) else (none)) else (laws_FnGlobs.j0 k l0 a3 a1 a4 true))) else (laws_FnGlobs.j1 k l0))))))=some r:=H;have A3:=Aside0.mk A30;clear A30;replace H:=Option.bind_eq_some_iff.mp H;obtain ⟨a4,A40,H⟩:=H;replace H:((spec_Match.f k a3 a1).bind fun aj=>(if (a4 != aj)=true then (some false) else ((spec_ValidPath.f k a1).bind fun au=>(if au=true then ((impl_Match.f k a1 a1).bind fun ao=>(if ao=true then (if a1.size+1≤9223372036854775807 then ((impl_Match.f k a1 (a1++(⟨#[122]⟩:ByteArray))).bind fun ai=>(if ai=true then ((spec_ValidPath.f k (a1++(⟨#[122]⟩:ByteArray))).bind fun ac=>(laws_FnGlobs.j0 k l0 a3 a1 a4 ac)) else (laws_FnGlobs.j0 k l0 a3 a1 a4 false))) else (none)) else (laws_FnGlobs.j0 k l0 a3 a1 a4 true))) else (laws_FnGlobs.j1 k l0)))))=some r:=H;have A4:=Aside0.mk A40;clear A40;replace H:=Option.bind_eq_some_iff.mp H;obtain ⟨aj,b2,H⟩:=H;replace H:(if (a4 != aj)=true then (some false) else ((spec_ValidPath.f k a1).bind fun au=>(if au=true then ((impl_Match.f k a1 a1).bind fun ao=>(if ao=true then (if a1.size+1≤9223372036854775807 then ((impl_Match.f k a1 (a1++(⟨#[122]⟩:ByteArray))).bind fun ai=>(if ai=true then ((spec_ValidPath.f k (a1++(⟨#[122]⟩:ByteArray))).bind fun ac=>(laws_FnGlobs.j0 k l0 a3 a1 a4 ac)) else (laws_FnGlobs.j0 k l0 a3 a1 a4 false))) else (none)) else (laws_FnGlobs.j0 k l0 a3 a1 a4 true))) else (laws_FnGlobs.j1 k l0))))=some r:=H;have A5:=Aside0.mk b2;clear b2
  by_cases c6:(a4 != aj)=true
  ·rw [if_pos c6] at H
   have aW:(a4 != aj)=true:=c6;(try (have aX:decide (a4=aj)=false:=by simpa using c6));(try (have aY:(a4==aj)=false:=by simpa using c6));(try (have c6b3:¬ (a4=aj):=by simpa using c6));clear c6;exact absurd ((Option.some.inj H).trans hrt) (by decide)
  ·rw [if_neg c6] at H
   have aW:(a4 != aj)=false:=by simpa using c6
   (try (have aX:decide (a4=aj)=true:=by simpa using c6));(try (have aY:(a4==aj)=true:=by simpa using c6));clear c6;replace H:=Option.bind_eq_some_iff.mp H;obtain ⟨au,bM,H⟩:=H;replace H:(if au=true then ((impl_Match.f k a1 a1).bind fun ao=>(if ao=true then (if a1.size+1≤9223372036854775807 then ((impl_Match.f k a1 (a1++(⟨#[122]⟩:ByteArray))).bind fun ai=>(if ai=true then ((spec_ValidPath.f k (a1++(⟨#[122]⟩:ByteArray))).bind fun ac=>(laws_FnGlobs.j0 k l0 a3 a1 a4 ac)) else (laws_FnGlobs.j0 k l0 a3 a1 a4 false))) else (none)) else (laws_FnGlobs.j0 k l0 a3 a1 a4 true))) else (laws_FnGlobs.j1 k l0))=some r:=H;have A10:=Aside0.mk bM;clear bM;have bh:=Aside0.mk H;clear H
   go_enter Tryd.func4,Tryd.ntmps4
   go_upto_if 29 with (first|((with_reducible refine gc 20 rfl ?_);refine gl (some 17) _ (#[.slice A0 l0.length c0]) Tryd.func20 ?_;(with_reducible refine (spec_DrawMatch.calls k _ _ l0 a3 a1 _ ?side1 ?side2 A3.out).mono ?_);(case side1=>exact cb HR0.out);(case side2=>exact HC0.out);rintro e w12 ⟨rfl,hb⟩;refine ⟨_,rfl,?_⟩;refine Ya1 (below_step (be HB.out) hb) ?_;clear HB;intro HB;(try clear hb);(try clear hb2);(try clear hk);(try clear hi))|((with_reducible refine gc 21 rfl ?_);refine gl (some 22) _ (#[.string a3,.string a1]) Tryd.func21 ?_;(with_reducible refine (impl_Match.calls k a3 a1 a4 _ ?sideG A4.out).mono ?_);(case sideG=>exact gk HG.out HB.out);rintro e w13 ⟨rfl,hb⟩;refine ⟨_,rfl,?_⟩;refine Ya1 (below_step (be HB.out) hb) ?_;clear HB;intro HB;(try clear hb);(try clear hb2);(try clear hk);(try clear hi))|((with_reducible refine gc 22 rfl ?_);refine gl (some 26) _ (#[.string a3,.string a1]) Tryd.func22 ?_;(with_reducible refine (spec_Match.calls k a3 a1 aj _ A5.out).mono ?_);rintro e w14 ⟨rfl,hb⟩;refine ⟨_,rfl,?_⟩;refine Ya1 (below_step (be HB.out) hb) ?_;clear HB;intro HB;(try clear hb);(try clear hb2);(try clear hk);(try clear hi))|((with_reducible refine gc 23 rfl ?_);refine gl (some 29) _ (#[.string a1]) Tryd.func23 ?_;(with_reducible refine (spec_ValidPath.calls k a1 au _ A10.out).mono ?_);rintro e w15 ⟨rfl,hb⟩;refine ⟨_,rfl,?_⟩;refine Ya1 (below_step (be HB.out) hb) ?_;clear HB;intro HB;(try clear hb);(try clear hb2);(try clear hk);(try clear hi)))
   (try simp only [Act.put,List.setIfInBounds_toArray,List.set_cons_zero,List.set_cons_succ])
   go_cut [] (fun wc => ∃ (kq:Nat),Aside0 (laws_FnGlobs.j1 kq l0=some r)∧Aside0 (kq≤k)∧Aside0 (Below w.heap.size w wc))
   case first =>
    have H:=bh.out;clear bh
    by_cases aC:au=true
    ·subst aC
     have H1:((impl_Match.f k a1 a1).bind fun ao=>(if ao=true then (if a1.size+1≤9223372036854775807 then ((impl_Match.f k a1 (a1++(⟨#[122]⟩:ByteArray))).bind fun ai=>(if ai=true then ((spec_ValidPath.f k (a1++(⟨#[122]⟩:ByteArray))).bind fun ac=>(laws_FnGlobs.j0 k l0 a3 a1 a4 ac)) else (laws_FnGlobs.j0 k l0 a3 a1 a4 false))) else (none)) else (laws_FnGlobs.j0 k l0 a3 a1 a4 true)))=some r:=by rw [if_pos rfl] at H;exact H
     clear H;have H:=H1;clear H1;have bi:=Aside0.mk H;clear H
     go_upto_region 8 with (fail)
     go_cut [44] (fun v44 wc => ∃ (kq:Nat) (b3:Bool),v44 = .bool b3∧Aside0 (laws_FnGlobs.j0 kq l0 a3 a1 a4 b3=some r)∧Aside0 (kq≤k)∧Aside0 (Below w.heap.size w wc))
     case first =>
      have H:=bi.out;clear bi;replace H:=Option.bind_eq_some_iff.mp H;obtain ⟨ao,bN,H⟩:=H;replace H:(if ao=true then (if a1.size+1≤9223372036854775807 then ((impl_Match.f k a1 (a1++(⟨#[122]⟩:ByteArray))).bind fun ai=>(if ai=true then ((spec_ValidPath.f k (a1++(⟨#[122]⟩:ByteArray))).bind fun ac=>(laws_FnGlobs.j0 k l0 a3 a1 a4 ac)) else (laws_FnGlobs.j0 k l0 a3 a1 a4 false))) else (none)) else (laws_FnGlobs.j0 k l0 a3 a1 a4 true))=some r:=H;have bj:=Aside0.mk bN;clear bN
      by_cases aD:ao=true
      ·subst aD
       have H1:(if a1.size+1≤9223372036854775807 then ((impl_Match.f k a1 (a1++(⟨#[122]⟩:ByteArray))).bind fun ai=>(if ai=true then ((spec_ValidPath.f k (a1++(⟨#[122]⟩:ByteArray))).bind fun ac=>(laws_FnGlobs.j0 k l0 a3 a1 a4 ac)) else (laws_FnGlobs.j0 k l0 a3 a1 a4 false))) else (none))=some r:=by rw [if_pos rfl] at H;exact H
       clear H;have H:=H1;clear H1
       by_cases az:a1.size+1≤9223372036854775807
       ·rw [if_pos az] at H
        have b4:=eq_true az;have b5:decide (a1.size+1≤9223372036854775807)=true:=decide_eq_true az
        try have b6:(9223372036854775807<a1.size+1)=False:=eq_false (Nat.not_lt.2 az)
        replace H:=Option.bind_eq_some_iff.mp H;obtain ⟨ai,bO,H⟩:=H;replace H:(if ai=true then ((spec_ValidPath.f k (a1++(⟨#[122]⟩:ByteArray))).bind fun ac=>(laws_FnGlobs.j0 k l0 a3 a1 a4 ac)) else (laws_FnGlobs.j0 k l0 a3 a1 a4 false))=some r:=H;have A21:=Aside0.mk bO;clear bO
        by_cases aE:ai=true
        ·subst aE
         have H1:((spec_ValidPath.f k (a1++(⟨#[122]⟩:ByteArray))).bind fun ac=>(laws_FnGlobs.j0 k l0 a3 a1 a4 ac))=some r:=by rw [if_pos rfl] at H;exact H
         clear H;have H:=H1;clear H1;replace H:=Option.bind_eq_some_iff.mp H;obtain ⟨ac,bP,H⟩:=H;replace H:(laws_FnGlobs.j0 k l0 a3 a1 a4 ac)=some r:=H;have A23:=Aside0.mk bP;clear bP;have H':=Aside0.mk H;clear H
         go_wp2_with (first|((with_reducible refine gc 21 rfl ?_);refine gl (some 32) _ (#[.string a1,.string a1]) Tryd.func21 ?_;(with_reducible refine (impl_Match.calls k a1 a1 true _ ?sideG bj.out).mono ?_);(case sideG=>exact gk HG.out HB.out);rintro e w24 ⟨rfl,hb⟩;refine ⟨_,rfl,?_⟩;refine Ya1 (below_step (be HB.out) hb) ?_;clear HB;intro HB;(try clear hb);(try clear hb2);(try clear hk);(try clear hi))|(go_at_call 21;(with_reducible refine (impl_Match.calls k a1 (a1++(⟨#[122]⟩:ByteArray)) true _ ?sideG A21.out).mono ?_);(case sideG=>exact gk HG.out HB.out);rintro e w25 ⟨rfl,hb⟩;refine Ya1 (below_step (be HB.out) hb) ?_;clear HB;intro HB;(try clear hb);(try clear hb2);(try clear hk);(try clear hi))|(go_at_call 23;(with_reducible refine (spec_ValidPath.calls k (a1++(⟨#[122]⟩:ByteArray)) ac _ A23.out).mono ?_);rintro e w26 ⟨rfl,hb⟩;refine Ya1 (below_step (be HB.out) hb) ?_;clear HB;intro HB;(try clear hb);(try clear hb2);(try clear hk);(try clear hi)))
         go_meet
         case rel=>exact ⟨_,(ac),Ye1,H',⟨by first|omega|exact Nat.le_refl _⟩,⟨be HB.out⟩⟩
        ·replace aE:=Bool.eq_false_iff.mpr aE;subst aE
         have H1:(laws_FnGlobs.j0 k l0 a3 a1 a4 false)=some r:=by rw [if_neg (show ¬(false=true) by decide)] at H;exact H
         clear H;have H:=H1;clear H1;have H':=Aside0.mk H;clear H
         go_wp2_with (first|((with_reducible refine gc 21 rfl ?_);refine gl (some 32) _ (#[.string a1,.string a1]) Tryd.func21 ?_;(with_reducible refine (impl_Match.calls k a1 a1 true _ ?sideG bj.out).mono ?_);(case sideG=>exact gk HG.out HB.out);rintro e w27 ⟨rfl,hb⟩;refine ⟨_,rfl,?_⟩;refine Ya1 (below_step (be HB.out) hb) ?_;clear HB;intro HB;(try clear hb);(try clear hb2);(try clear hk);(try clear hi))|(go_at_call 21;(with_reducible refine (impl_Match.calls k a1 (a1++(⟨#[122]⟩:ByteArray)) false _ ?sideG A21.out).mono ?_);(case sideG=>exact gk HG.out HB.out);rintro e w28 ⟨rfl,hb⟩;refine Ya1 (below_step (be HB.out) hb) ?_;clear HB;intro HB;(try clear hb);(try clear hb2);(try clear hk);(try clear hi)))
         go_meet
         case rel=>exact ⟨_,(false),Ye1,H',⟨by first|omega|exact Nat.le_refl _⟩,⟨be HB.out⟩⟩
       ·rw [if_neg az] at H
        exact absurd H (by simp)
      ·replace aD:=Bool.eq_false_iff.mpr aD;subst aD
       have H1:(laws_FnGlobs.j0 k l0 a3 a1 a4 true)=some r:=by rw [if_neg (show ¬(false=true) by decide)] at H;exact H
       clear H;have H:=H1;clear H1;have H':=Aside0.mk H;clear H
       go_wp2_with (first|((with_reducible refine gc 21 rfl ?_);refine gl (some 32) _ (#[.string a1,.string a1]) Tryd.func21 ?_;(with_reducible refine (impl_Match.calls k a1 a1 false _ ?sideG bj.out).mono ?_);(case sideG=>exact gk HG.out HB.out);rintro e w29 ⟨rfl,hb⟩;refine ⟨_,rfl,?_⟩;refine Ya1 (below_step (be HB.out) hb) ?_;clear HB;intro HB;(try clear hb);(try clear hb2);(try clear hk);(try clear hi)))
       go_meet
       case rel=>exact ⟨_,(true),Ye1,H',⟨by first|omega|exact Nat.le_refl _⟩,⟨be HB.out⟩⟩
     case rest =>
      clear bi;(try clear c1);(try clear c2);(try clear aU);(try clear aV);(try clear p2);(try clear c4);(try clear c6);(try clear aW);(try clear aX);(try clear aY);(try clear aC);(try clear aD);(try clear az);(try clear b4);(try clear b5);(try clear b6);(try clear bm);(try clear aE);(try clear bn);obtain ⟨kq,b3,rfl,HA,HJ16,HB⟩:=hcut
      cases kq with
      | zero=>exact absurd HA.out (by simp [laws_FnGlobs.j0])
      | succ a7 =>
       have H:=HA.out;clear HA;simp only [laws_FnGlobs.j0] at H
       by_cases aI:b3=true
       ·subst aI
        have H1:(some false)=some r:=by rw [if_pos rfl] at H;exact H
        clear H;have H:=H1;clear H1;exact absurd ((Option.some.inj H).trans hrt) (by decide)
       ·replace aI:=Bool.eq_false_iff.mpr aI;subst aI
        have H1:(if a4=true then (if 2+a1.size≤9223372036854775807 then ((spec_ValidPath.f a7 ((⟨#[122,47]⟩:ByteArray)++a1)).bind fun aB=>(if aB=true then (if 3+a3.size≤9223372036854775807 then ((spec_ValidGlob.f a7 ((⟨#[42,42,47]⟩:ByteArray)++a3)).bind fun aw=>(if aw=true then ((impl_Match.f a7 ((⟨#[42,42,47]⟩:ByteArray)++a3) ((⟨#[122,47]⟩:ByteArray)++a1)).bind fun an=>(if an=true then (laws_FnGlobs.j1 a7 l0) else (some false))) else (laws_FnGlobs.j1 a7 l0))) else (none)) else (laws_FnGlobs.j1 a7 l0))) else (none)) else (laws_FnGlobs.j1 a7 l0))=some r:=by rw [if_neg (show ¬(false=true) by decide)] at H;exact H
        clear H;have H:=H1;clear H1
        by_cases aJ:a4=true
        ·subst aJ
         have H1:(if 2+a1.size≤9223372036854775807 then ((spec_ValidPath.f a7 ((⟨#[122,47]⟩:ByteArray)++a1)).bind fun aB=>(if aB=true then (if 3+a3.size≤9223372036854775807 then ((spec_ValidGlob.f a7 ((⟨#[42,42,47]⟩:ByteArray)++a3)).bind fun aw=>(if aw=true then ((impl_Match.f a7 ((⟨#[42,42,47]⟩:ByteArray)++a3) ((⟨#[122,47]⟩:ByteArray)++a1)).bind fun an=>(if an=true then (laws_FnGlobs.j1 a7 l0) else (some false))) else (laws_FnGlobs.j1 a7 l0))) else (none)) else (laws_FnGlobs.j1 a7 l0))) else (none))=some r:=by rw [if_pos rfl] at H;exact H
         clear H;have H:=H1;clear H1
         by_cases aF:2+a1.size≤9223372036854775807
         ·rw [if_pos aF] at H
          have bo:=eq_true aF;have bq:decide (2+a1.size≤9223372036854775807)=true:=decide_eq_true aF
          try have bu:(9223372036854775807<2+a1.size)=False:=eq_false (Nat.not_lt.2 aF)
          replace H:=Option.bind_eq_some_iff.mp H;obtain ⟨aB,bQ,H⟩:=H;replace H:(if aB=true then (if 3+a3.size≤9223372036854775807 then ((spec_ValidGlob.f a7 ((⟨#[42,42,47]⟩:ByteArray)++a3)).bind fun aw=>(if aw=true then ((impl_Match.f a7 ((⟨#[42,42,47]⟩:ByteArray)++a3) ((⟨#[122,47]⟩:ByteArray)++a1)).bind fun an=>(if an=true then (laws_FnGlobs.j1 a7 l0) else (some false))) else (laws_FnGlobs.j1 a7 l0))) else (none)) else (laws_FnGlobs.j1 a7 l0))=some r:=H;have bv:=Aside0.mk bQ;clear bQ
          by_cases aK:aB=true
          ·subst aK
           have H1:(if 3+a3.size≤9223372036854775807 then ((spec_ValidGlob.f a7 ((⟨#[42,42,47]⟩:ByteArray)++a3)).bind fun aw=>(if aw=true then ((impl_Match.f a7 ((⟨#[42,42,47]⟩:ByteArray)++a3) ((⟨#[122,47]⟩:ByteArray)++a1)).bind fun an=>(if an=true then (laws_FnGlobs.j1 a7 l0) else (some false))) else (laws_FnGlobs.j1 a7 l0))) else (none))=some r:=by rw [if_pos rfl] at H;exact H
           clear H;have H:=H1;clear H1
           by_cases aG:3+a3.size≤9223372036854775807
           ·rw [if_pos aG] at H
            have bw:=eq_true aG;have bz:decide (3+a3.size≤9223372036854775807)=true:=decide_eq_true aG
            try have bA:(9223372036854775807<3+a3.size)=False:=eq_false (Nat.not_lt.2 aG)
            replace H:=Option.bind_eq_some_iff.mp H;obtain ⟨aw,bR,H⟩:=H;replace H:(if aw=true then ((impl_Match.f a7 ((⟨#[42,42,47]⟩:ByteArray)++a3) ((⟨#[122,47]⟩:ByteArray)++a1)).bind fun an=>(if an=true then (laws_FnGlobs.j1 a7 l0) else (some false))) else (laws_FnGlobs.j1 a7 l0))=some r:=H;have A36:=Aside0.mk bR;clear bR
            by_cases aL:aw=true
            ·subst aL
             have H1:((impl_Match.f a7 ((⟨#[42,42,47]⟩:ByteArray)++a3) ((⟨#[122,47]⟩:ByteArray)++a1)).bind fun an=>(if an=true then (laws_FnGlobs.j1 a7 l0) else (some false)))=some r:=by rw [if_pos rfl] at H;exact H
             clear H;have H:=H1;clear H1;replace H:=Option.bind_eq_some_iff.mp H;obtain ⟨an,bS,H⟩:=H;replace H:(if an=true then (laws_FnGlobs.j1 a7 l0) else (some false))=some r:=H;have A38:=Aside0.mk bS;clear bS
             by_cases aM:an=true
             ·subst aM
              have H1:(laws_FnGlobs.j1 a7 l0)=some r:=by rw [if_pos rfl] at H;exact H
              clear H;have H:=H1;clear H1;have H':=Aside0.mk H;clear H
              go_wp2_with (first|(go_at_call 23;(with_reducible refine (spec_ValidPath.calls a7 ((⟨#[122,47]⟩:ByteArray)++a1) true _ bv.out).mono ?_);rintro e w40 ⟨rfl,hb⟩;refine Ya1 (below_step (be HB.out) hb) ?_;clear HB;intro HB;(try clear hb);(try clear hb2);(try clear hk);(try clear hi))|(go_at_call 24;(with_reducible refine (spec_ValidGlob.calls a7 ((⟨#[42,42,47]⟩:ByteArray)++a3) true _ A36.out).mono ?_);rintro e w41 ⟨rfl,hb⟩;refine Ya1 (below_step (be HB.out) hb) ?_;clear HB;intro HB;(try clear hb);(try clear hb2);(try clear hk);(try clear hi))|(go_at_call 21;(with_reducible refine (impl_Match.calls a7 ((⟨#[42,42,47]⟩:ByteArray)++a3) ((⟨#[122,47]⟩:ByteArray)++a1) true _ ?sideG A38.out).mono ?_);(case sideG=>exact gk HG.out HB.out);rintro e w42 ⟨rfl,hb⟩;refine Ya1 (below_step (be HB.out) hb) ?_;clear HB;intro HB;(try clear hb);(try clear hb2);(try clear hk);(try clear hi)))
              go_meet
              case rel=>exact ⟨_,H',⟨by have:=HJ16.out;first|omega|exact Nat.le_refl _⟩,⟨be HB.out⟩⟩
             ·replace aM:=Bool.eq_false_iff.mpr aM;subst aM
              have H1:(some false)=some r:=by rw [if_neg (show ¬(false=true) by decide)] at H;exact H
              clear H;have H:=H1;clear H1;exact absurd ((Option.some.inj H).trans hrt) (by decide)
            ·replace aL:=Bool.eq_false_iff.mpr aL;subst aL
             have H1:(laws_FnGlobs.j1 a7 l0)=some r:=by rw [if_neg (show ¬(false=true) by decide)] at H;exact H
             clear H;have H:=H1;clear H1;have H':=Aside0.mk H;clear H
             go_wp2_with (first|(go_at_call 23;(with_reducible refine (spec_ValidPath.calls a7 ((⟨#[122,47]⟩:ByteArray)++a1) true _ bv.out).mono ?_);rintro e w46 ⟨rfl,hb⟩;refine Ya1 (below_step (be HB.out) hb) ?_;clear HB;intro HB;(try clear hb);(try clear hb2);(try clear hk);(try clear hi))|(go_at_call 24;(with_reducible refine (spec_ValidGlob.calls a7 ((⟨#[42,42,47]⟩:ByteArray)++a3) false _ A36.out).mono ?_);rintro e w47 ⟨rfl,hb⟩;refine Ya1 (below_step (be HB.out) hb) ?_;clear HB;intro HB;(try clear hb);(try clear hb2);(try clear hk);(try clear hi)))
             go_meet
             case rel=>exact ⟨_,H',⟨by have:=HJ16.out;first|omega|exact Nat.le_refl _⟩,⟨be HB.out⟩⟩
           ·rw [if_neg aG] at H
            exact absurd H (by simp)
          ·replace aK:=Bool.eq_false_iff.mpr aK;subst aK
           have H1:(laws_FnGlobs.j1 a7 l0)=some r:=by rw [if_neg (show ¬(false=true) by decide)] at H;exact H
           clear H;have H:=H1;clear H1;have H':=Aside0.mk H;clear H
           go_wp2_with (first|(go_at_call 23;(with_reducible refine (spec_ValidPath.calls a7 ((⟨#[122,47]⟩:ByteArray)++a1) false _ bv.out).mono ?_);rintro e w48 ⟨rfl,hb⟩;refine Ya1 (below_step (be HB.out) hb) ?_;clear HB;intro HB;(try clear hb);(try clear hb2);(try clear hk);(try clear hi)))
           go_meet
           case rel=>exact ⟨_,H',⟨by have:=HJ16.out;first|omega|exact Nat.le_refl _⟩,⟨be HB.out⟩⟩
         ·rw [if_neg aF] at H
          exact absurd H (by simp)
        ·replace aJ:=Bool.eq_false_iff.mpr aJ;subst aJ
         have H1:(laws_FnGlobs.j1 a7 l0)=some r:=by rw [if_neg (show ¬(false=true) by decide)] at H;exact H
         clear H;have H:=H1;clear H1;have H':=Aside0.mk H;clear H
         go_wp2
         go_meet
         case rel=>exact ⟨_,H',⟨by have:=HJ16.out;first|omega|exact Nat.le_refl _⟩,⟨be HB.out⟩⟩
    ·replace aC:=Bool.eq_false_iff.mpr aC;subst aC
     have H1:(laws_FnGlobs.j1 k l0)=some r:=by rw [if_neg (show ¬(false=true) by decide)] at H;exact H
     clear H;have H:=H1;clear H1;have H':=Aside0.mk H;clear H
     go_wp2
     go_meet
     case rel=>exact ⟨_,H',⟨by first|omega|exact Nat.le_refl _⟩,⟨be HB.out⟩⟩
   case rest =>
    clear bh;(try clear c1);(try clear c2);(try clear aU);(try clear aV);(try clear p2);(try clear c3);(try clear c4);(try clear c6);(try clear aW);(try clear aX);(try clear aY);(try clear aC);(try clear aD);(try clear az);(try clear b4);(try clear b5);(try clear b6);(try clear bm);(try clear aE);(try clear bn);(try clear aI);(try clear aJ);(try clear aF);(try clear bo);(try clear bq);(try clear bu);(try clear aK);(try clear aG);(try clear bw);(try clear bz);(try clear bA);(try clear aL);(try clear aM);(try clear p2);obtain ⟨kq,HA,HJ10,HB⟩:=hcut
    cases kq with
    | zero=>exact absurd HA.out (by simp [laws_FnGlobs.j1])
    | succ ak =>
     have H:=HA.out;clear HA;simp only [laws_FnGlobs.j1] at H;replace H:=Option.bind_eq_some_iff.mp H;obtain ⟨⟨ad,a8⟩,bT,H⟩:=H;replace H:((impl_Pick.f ak ad a8).bind fun a2=>((spec_Pick.f ak ad a8).bind fun ax=>((laws_wTree.f ak a2 ax).bind fun ay=>(if ay=true then (laws_FnGlobs.l0 ak a8 0 a2) else (some false)))))=some r:=H;have A49:=Aside0.mk bT;clear bT;replace H:=Option.bind_eq_some_iff.mp H;obtain ⟨a2,bU,H⟩:=H;replace H:((spec_Pick.f ak ad a8).bind fun ax=>((laws_wTree.f ak a2 ax).bind fun ay=>(if ay=true then (laws_FnGlobs.l0 ak a8 0 a2) else (some false))))=some r:=H;have b2:=Aside0.mk bU;clear bU;replace H:=Option.bind_eq_some_iff.mp H;obtain ⟨ax,bV,H⟩:=H;replace H:((laws_wTree.f ak a2 ax).bind fun ay=>(if ay=true then (laws_FnGlobs.l0 ak a8 0 a2) else (some false)))=some r:=H;have A51:=Aside0.mk bV;clear bV;replace H:=Option.bind_eq_some_iff.mp H;obtain ⟨ay,bW,H⟩:=H;replace H:(if ay=true then (laws_FnGlobs.l0 ak a8 0 a2) else (some false))=some r:=H;have A52:=Aside0.mk bW;clear bW
     by_cases aP:ay=true
     ·subst aP
      have H1:(laws_FnGlobs.l0 ak a8 0 a2)=some r:=by rw [if_pos rfl] at H;exact H
      clear H;have H:=H1;clear H1;have H':=Aside0.mk H;clear H
      try go_wp2_with (first|((with_reducible refine gc 25 rfl ?_);refine gl (some 66) _ (#[.slice A0 l0.length c0]) Tryd.func25 ?_;(with_reducible refine (spec_DrawPick.calls ak _ _ l0 ad a8 _ ?side1 ?side2 A49.out).mono ?_);(case side1=>exact cb (Kd.C_below HR0.out HB.out));(case side2=>exact HC0.out);rintro e w54 ⟨v630,v633,rfl,ho0,ho1,hb⟩;refine ⟨_,rfl,?_⟩;refine Ya3 (Kd.R_lower ho0 (below_size (be HB.out))) (Kd.R_lower ho1 (below_size (be HB.out))) (below_step (be HB.out) hb) ?_;clear HB;intro aa ab HB;(try clear hb);(try clear hb2);(try clear hk);(try clear hi);(try clear ho0);(try clear ho1))|((with_reducible refine gd 6 rfl ?_);refine bx 6 25 (#[.slice none 0 0]) ?_;intro aZ hg w55 hbox hb;refine Ya6 (Kd.R_below (kr aa.out) hb) (Kd.R_below (kr ab.out) hb) (below_step (be HB.out) hb) (hbox) (bs hg (be HB.out)) (bs hg (be HB.out)) ?_;clear aa ab HB;intro aa ab HB a5 GW635 GE635;clear hb hbox hg;obtain ⟨av,ar,cj⟩:=Kd.R_slice aa.out;subst cj;have ⟨bX,bY⟩:=Yc1 a5.out;obtain ⟨b0,aQ,ck⟩:=Kd.R_slice ab.out;subst ck)|((with_reducible refine gc 26 rfl ?_);refine gl (some 71) _ (#[.agg #[.slice av ad.length ar],.slice b0 a8.length aQ]) Tryd.func26 ?_;(with_reducible refine (impl_Pick.calls ak _ _ ad _ _ a8 a2 _ ?sideG ?side1 ?side2 ?side3 ?side4 b2.out).mono ?_);(case sideG=>exact gf HG.out HB.out);(case side1=>refine (Kd.R_reads' (e:=27) (base:=w.heap.size) (ok:=fun k_=>True) (n:=ad.length) (c:=ar) ?_).2.2;exact (rf aa a5));(case side2=>exact (Kd.R_reads' aa.out).2.1);(case side3=>refine (Kd.R_reads' (e:=9) (base:=w.heap.size) (ok:=fun k_=>True) (n:=a8.length) (c:=aQ) ?_).2.2;exact (rf ab a5));(case side4=>exact (Kd.R_reads' ab.out).2.1);rintro e w59 ⟨v637,rfl,ho0,hb⟩;refine ⟨_,rfl,?_⟩;refine Ya5 (Kd.R_elder' (rf aa a5) (Kd.R_base ho0) hb) (Kd.R_below (rf ab a5) hb) (Kd.R_lower (Kd.R_new' ho0 (Kd.R_lt (rf aa a5))) (below_size (bf HB.out))) (blk_below (g:=aZ) (o:=.cells #[.slice av ad.length ar] 25 (0,0)) (bp a5.out) hb) (below_step (bf HB.out) hb) ?_;clear aa ab a5 HB;intro aa ab ag a5 HB;(try clear hb);(try clear hb2);(try clear hk);(try clear hi);(try clear ho0))|((with_reducible refine gd 8 rfl ?_);refine bx 8 25 (#[.slice none 0 0]) ?_;intro aq hg aN hbox hb;refine Ya10 (Kd.R_below (kr aa.out) hb) (Kd.R_below (kr ab.out) hb) (Kd.R_below (kr ag.out) hb) (bb a5 hb) (below_step (bf HB.out) hb) (hbox) (bs hg (bf HB.out)) (bs hg (bf HB.out)) (bl hg a5) (br hg a5) ?_;clear aa ab ag a5 HB;intro aa ab ag a5 HB a6 GW639 GE639 b7 bB;clear hb hbox hg;obtain ⟨ah,ae,cl⟩:=Kd.R_slice ag.out;subst cl;have hnb62:=bB.out;have hnc62:=b7.out;have ⟨bZ,ca⟩:=Yc1 a6.out))
      have bC:Aside0 (Kd.R k27 27 (aN.setCell ⟨aq,0,none⟩ (.slice ah a2.length ae)) w.heap.size (fun k_=>some k_≠(.slice ah a2.length ae:Value).ownBlock) (.slice av ad.length ar) ad):=⟨by (with_reducible repeat (first|apply Kd.R_alloc|apply Kd.R_drewN|apply Kd.R_drew));exact Kd.R_mono (Kd.R_far (p:=⟨aq,0,none⟩) (Kd.R_types aa.out a6.out (by decide)) (fun _ hk=>hk.2) (.slice ah a2.length ae)) (fun _ hk=>hk.1.2)⟩
      have bD:Aside0 (Kd.R Kd.string 9 (aN.setCell ⟨aq,0,none⟩ (.slice ah a2.length ae)) w.heap.size (fun _=>True) (.slice b0 a8.length aQ) a8):=⟨by (with_reducible repeat (first|apply Kd.R_alloc|apply Kd.R_drewN|apply Kd.R_drew));exact Kd.R_mono (Kd.R_far (p:=⟨aq,0,none⟩) (Kd.R_types ab.out a6.out (by decide)) (fun _ hk=>hk.2) (.slice ah a2.length ae)) (fun _ hk=>trivial)⟩
      have bE:Aside0 (Kd.R k27 27 (aN.setCell ⟨aq,0,none⟩ (.slice ah a2.length ae)) w.heap.size (fun k_=>some k_≠(.slice av ad.length ar:Value).ownBlock) (.slice ah a2.length ae) a2):=⟨by (with_reducible repeat (first|apply Kd.R_alloc|apply Kd.R_drewN|apply Kd.R_drew));exact Kd.R_mono (Kd.R_far (p:=⟨aq,0,none⟩) (Kd.R_types ag.out a6.out (by decide)) (fun _ hk=>hk.2) (.slice ah a2.length ae)) (fun _ hk=>hk.1.2)⟩
      have bF:Aside0 ((aN.setCell ⟨aq,0,none⟩ (.slice ah a2.length ae)).heap[aZ]? = some (.cells #[.slice av ad.length ar] 25 (0,0))):=⟨bkf a5.out b7.out⟩
      have bG:Aside0 ((aN.setCell ⟨aq,0,none⟩ (.slice ah a2.length ae)).heap[aq]? = some (.cells #[.slice ah a2.length ae] 25 (0,0))):=⟨bp a6.out⟩
      have bH:Aside0 (Below w.heap.size w (aN.setCell ⟨aq,0,none⟩ (.slice ah a2.length ae))):=⟨bf HB.out⟩
      (try clear aa);(try clear ab);(try clear ag);(try clear a5);(try clear a6);(try clear HB);generalize (aN.setCell ⟨aq,0,none⟩ (.slice ah a2.length ae))=w64 at bC bD bE bF bG bH ⊢; have aa:=bC;have ab:=bD;have ag:=bE;have a5:=bF;have a6:=bG;have HB:=bH;clear bC bD bE bF bG bH;refine Ya6 (Kd.R_drew aa.out) (Kd.R_drew ab.out) (Kd.R_drew ag.out) (blk_drew a5.out) (blk_drew a6.out) (below_drew1 HB.out) ?_;clear aa ab ag a5 a6 HB;intro aa ab ag a5 a6 HB;refine start_ (n:=6) (S:=fun w'=>w'.cell? ⟨aq,0,none⟩=some (.slice ah a2.length ae)∧w'.cell? ⟨aZ,0,none⟩=some (.slice av ad.length ar)) (ds:=[]) (fb 6 0) (by kernel_rfl) rfl rfl ⟨bc a6 0,bc a5 0⟩ (fun hHeld => ?_);generalize w64.drew=w65 at aa ab ag a5 a6 HB hHeld ⊢; refine pure_ (i:=2) (N:=some 74) (v:=?_) (a':=?_) (fb 6 4) rfl rfl (by kernel_rfl) (fun _ _ _ h=>h) (Or.inl ⟨by rfl,?_⟩) ?_ ?_;rotate_left
      ·intro w';go_simp;(with_reducible rfl)
      rotate_left
      ·simp only [Act.put,List.setIfInBounds_toArray,List.set_cons_zero,List.set_cons_succ,i64_w,i32_w];rfl
      refine take_ (i:=0) (N:=some 72) (v:=?_) (a':=?_) (fb 6 5) rfl rfl (by kernel_rfl) (fun _ _ _ h=>h) (Or.inl ⟨by rfl,?_⟩) hHeld ?_ ?_;rotate_left
      ·rintro w' ⟨s0,s1⟩;go_simp;(with_reducible rfl)
      rotate_left
      ·simp only [Act.put,List.setIfInBounds_toArray,List.set_cons_zero,List.set_cons_succ,i64_w,i32_w];rfl
      refine take_ (i:=1) (N:=some 73) (v:=?_) (a':=?_) (fb 6 7) rfl rfl (by kernel_rfl) (fun _ _ _ h=>h) (Or.inl ⟨by rfl,?_⟩) hHeld ?_ ?_;rotate_left
      ·rintro w' ⟨s0,s1⟩;go_simp;(with_reducible rfl)
      rotate_left
      ·simp only [Act.put,List.setIfInBounds_toArray,List.set_cons_zero,List.set_cons_succ,i64_w,i32_w];rfl
      refine one_ (i:=3) (N:=some 75) (fb 6 15) rfl rfl (by kernel_rfl) (by decide) (fun K hK => ?_);refine gs _ (#[.agg #[.slice av ad.length ar],.slice b0 a8.length aQ]) Tryd.func27 ?_;(with_reducible refine (spec_Pick.calls ak _ _ ad _ _ a8 ax _ ?side1 ?side2 ?side3 ?side4 A51.out).mono ?_);(case side1=>repeat (first|exact (Kd.R_reads' aa.out).2.2|(with_reducible refine Kd.C_alloc ?_ _)|(with_reducible refine Kd.C_drewN ?_ _)|(with_reducible refine Kd.C_drew ?_)));(case side2=>exact (Kd.R_reads' aa.out).2.1);(case side3=>repeat (first|exact (Kd.R_reads' ab.out).2.2|(with_reducible refine Kd.C_alloc ?_ _)|(with_reducible refine Kd.C_drewN ?_ _)|(with_reducible refine Kd.C_drew ?_)));(case side4=>exact (Kd.R_reads' ab.out).2.1);rintro e w66 ⟨v641,rfl,ho0,hb⟩;refine ⟨_,rfl,?_⟩;refine Ya7 (Kd.R_elder' (kr aa.out) (Kd.R_base ho0) hb) (Kd.R_below (kr ab.out) hb) (Kd.R_elder' (kr ag.out) (Kd.R_base ho0) hb) (Kd.R_lower (Kd.R_new' (Kd.R_new' ho0 (Kd.R_lt (kr aa.out))) (Kd.R_lt (kr ag.out))) (below_size (bf HB.out))) (bb a5 hb) (bb a6 hb) (below_step (bf HB.out) hb) ?_;clear aa ab ag a5 a6 HB;intro aa ab ag aR a5 a6 HB;(try clear hb);(try clear hb2);(try clear hk);(try clear hi);(try clear ho0);obtain ⟨cm,cn,cc⟩:=Kd.R_slice aR.out;(first|subst cc|(injection cc with f1_ f2_ f3_;have f4_:=f1_.symm;have f5_:=f3_.symm;clear f1_ f2_ f3_;subst f4_;subst f5_));refine hK.out _ _ ⟨bc a6 0,bc a5 0⟩ (fun hHeld => ?_);clear hK K;refine nm 75 ?_;refine one_ (i:=4) (N:=some 76) (fb 6 31) rfl rfl (by kernel_rfl) (by decide) (fun K hK => ?_);refine gs _ (#[.agg #[.slice ah a2.length ae],.agg #[.slice cm ax.length cn]]) Tryd.func16 ?_;(with_reducible refine (laws_wTree.calls ak _ _ a2 _ _ ax true _ ?side1 ?side2 ?side3 ?side4 A52.out).mono ?_);(case side1=>repeat (first|exact (Kd.R_reads' ag.out).2.2|(with_reducible refine Kd.C_alloc ?_ _)|(with_reducible refine Kd.C_drewN ?_ _)|(with_reducible refine Kd.C_drew ?_)));(case side2=>exact (Kd.R_reads' ag.out).2.1);(case side3=>repeat (first|exact (Kd.R_reads' aR.out).2.2|(with_reducible refine Kd.C_alloc ?_ _)|(with_reducible refine Kd.C_drewN ?_ _)|(with_reducible refine Kd.C_drew ?_)));(case side4=>exact (Kd.R_reads' aR.out).2.1);rintro e w68 ⟨rfl,hb⟩;refine ⟨_,rfl,?_⟩;refine Ya7 (Kd.R_below (kr aa.out) hb) (Kd.R_below (kr ab.out) hb) (Kd.R_below (kr ag.out) hb) (Kd.R_below (kr aR.out) hb) (bb a5 hb) (bb a6 hb) (below_step (bf HB.out) hb) ?_;clear aa ab ag aR a5 a6 HB;intro aa ab ag aR a5 a6 HB;(try clear hb);(try clear hb2);(try clear hk);(try clear hi);refine hK.out _ _ ⟨bc a6 0,bc a5 0⟩ (fun hHeld => ?_);clear hK K;refine nm 76 ?_;refine pure_ (i:=5) (N:=some 77) (v:=?_) (a':=?_) (fb 6 63) rfl rfl (by kernel_rfl) (fun _ _ _ h=>h) (Or.inl ⟨by rfl,?_⟩) ?_ ?_;rotate_left
      ·intro w';go_simp;(with_reducible rfl)
      rotate_left
      ·simp only [Act.put,List.setIfInBounds_toArray,List.set_cons_zero,List.set_cons_succ,i64_w,i32_w];rfl
      refine done_ (by kernel_rfl) ?_
      try go_wp2
      go_loopg [9] ak (fun kq v9 w' => ∃ (a9:Int),v9 = .int .i64 a9∧Aside0 (laws_FnGlobs.l0 kq a8 a9 a2=some r)∧Aside0 (kq≤ak)∧Aside0 (Kd.R Kd.string 9 w' w.heap.size (fun _=>True) (.slice b0 a8.length aQ) a8)∧Aside0 (Kd.R k27 27 w' w.heap.size (fun k_=>some k_≠((.slice ah a2.length ae):Value).ownBlock) (.slice av ad.length ar) ad)∧Aside0 (Kd.R k27 27 w' w.heap.size (fun k_=>some k_≠((.slice av ad.length ar):Value).ownBlock) (.slice ah a2.length ae) a2)∧Aside0 (w'.heap[aZ]? = some (.cells #[(.slice av ad.length ar)] 25 (0,0)))∧Aside0 (w'.heap[aq]? = some (.cells #[(.slice ah a2.length ae)] 25 (0,0)))∧Aside0 (Below w.heap.size w w'))
      case atStart=>exact ⟨(0),Ye1,H',⟨Nat.le_refl _⟩,⟨kr ab.out⟩,⟨by (with_reducible repeat (first|apply Kd.R_alloc|apply Kd.R_drewN|apply Kd.R_drew));exact Kd.R_mono aa.out (fun _ hk=>hk.1)⟩,⟨by (with_reducible repeat (first|apply Kd.R_alloc|apply Kd.R_drewN|apply Kd.R_drew));exact Kd.R_mono ag.out (fun _ hk=>hk.1)⟩,⟨bk a5.out⟩,⟨bk a6.out⟩,⟨bf HB.out⟩⟩
      case round =>
       clear H';(try clear c1);(try clear c2);(try clear aU);(try clear aV);(try clear p2);(try clear c3);(try clear c4);(try clear c5);(try clear c6);(try clear aW);(try clear aX);(try clear aY);(try clear aC);(try clear aD);(try clear az);(try clear b4);(try clear b5);(try clear b6);(try clear bm);(try clear aE);(try clear bn);(try clear c25);(try clear c26);(try clear c27);(try clear aI);(try clear aJ);(try clear aF);(try clear bo);(try clear bq);(try clear bu);(try clear aK);(try clear aG);(try clear bw);(try clear bz);(try clear bA);(try clear aL);(try clear aM);(try clear aP);(try clear c62);(try clear bX);(try clear bZ);(try clear bY);(try clear ca);(try clear p2);obtain ⟨a9,rfl,HA,HK2,al,ap,am,a5,a6,HB⟩:=hrel
       cases gk with
       | zero=>exact absurd HA.out (by simp [laws_FnGlobs.l0])
       | succ k2 =>
        have H:=HA.out;clear HA;simp only [laws_FnGlobs.l0] at H
        by_cases aO:a9<(a2.length:Int)
        ·rw [if_pos aO] at H
         have cd:decide (a9<(a2.length:Int))=true:=decide_eq_true aO;clear aO;have H':=Aside0.mk H;clear H;have hnb70:=bB.out;have hnc70:=b7.out;have ⟨co,cp⟩:=Yc1 a6.out
         go_wp2
         go_loopg [10,11] k2 (fun kq v10 v11 w' => ∃ (b1:Bool) (af:Int),v10 = .bool b1∧v11 = .int .i64 af∧Aside0 (laws_FnGlobs.l1 kq a8 a9 b1 af a2=some r)∧Aside0 (kq≤k2)∧Aside0 (Kd.R Kd.string 9 w' w.heap.size (fun _=>True) (.slice b0 a8.length aQ) a8)∧Aside0 (Kd.R k27 27 w' w.heap.size (fun k_=>some k_≠((.slice ah a2.length ae):Value).ownBlock) (.slice av ad.length ar) ad)∧Aside0 (Kd.R k27 27 w' w.heap.size (fun k_=>some k_≠((.slice av ad.length ar):Value).ownBlock) (.slice ah a2.length ae) a2)∧Aside0 (w'.heap[aZ]? = some (.cells #[(.slice av ad.length ar)] 25 (0,0)))∧Aside0 (w'.heap[aq]? = some (.cells #[(.slice ah a2.length ae)] 25 (0,0)))∧Aside0 (Below w.heap.size w w'))
         case atStart=>exact ⟨(false),(0),Ye1,Ye1,H',⟨Nat.le_refl _⟩,⟨kr al.out⟩,⟨kr ap.out⟩,⟨kr am.out⟩,⟨bk a5.out⟩,⟨bk a6.out⟩,⟨bf HB.out⟩⟩
         case round =>
          clear H';(try clear c1);(try clear c2);(try clear aU);(try clear aV);(try clear p2);(try clear c3);(try clear c4);(try clear c5);(try clear c6);(try clear aW);(try clear aX);(try clear aY);(try clear c7);(try clear aC);(try clear aD);(try clear az);(try clear b4);(try clear b5);(try clear b6);(try clear bm);(try clear aE);(try clear bn);(try clear c25);(try clear c26);(try clear c27);(try clear aI);(try clear aJ);(try clear aF);(try clear bo);(try clear bq);(try clear bu);(try clear aK);(try clear aG);(try clear bw);(try clear bz);(try clear bA);(try clear aL);(try clear aM);(try clear aP);(try clear c62);(try clear aO);(try clear cd);(try clear c70);(try clear bX);(try clear bZ);(try clear co);(try clear bY);(try clear ca);(try clear cp);(try clear p2);obtain ⟨b1,af,rfl,rfl,HA,HK3,al,ap,am,a5,a6,HB⟩:=hrel
          cases gk with
          | zero=>exact absurd HA.out (by simp [laws_FnGlobs.l1])
          | succ k3 =>
           have H:=HA.out;clear HA;simp only [laws_FnGlobs.l1] at H
           by_cases aS:af<(a8.length:Int)
           ·rw [if_pos aS] at H
            have cq:decide (af<(a8.length:Int))=true:=decide_eq_true aS;clear aS
            by_cases b8:b1=true
            ·subst b8
             have H1:(laws_FnGlobs.l1 k3 a8 a9 true (wrap64 (af+1)) a2)=some r:=by rw [if_pos rfl] at H;exact H
             clear H;have H:=H1;clear H1;have H':=Aside0.mk H;clear H
             try go_wp2
             refine Ya6 (Kd.R_drew al.out) (Kd.R_drew ap.out) (Kd.R_drew am.out) (blk_drew a5.out) (blk_drew a6.out) (below_drew1 HB.out) ?_;clear al ap am a5 a6 HB;intro al ap am a5 a6 HB;refine start_ (n:=15) (S:=fun w'=>True) (ds:=[]) (fb 15 0) (by kernel_rfl) rfl rfl trivial (fun hHeld => ?_);refine with_tabW laws_FnGlobs.tab23 laws_FnGlobs.bits23 (fun HT_ HW_ => ?_);generalize wr.drew=w74 at al ap am a5 a6 HB hHeld ⊢; refine pu 0 91 (fb 15 1) HT_ ?_;refine pu 1 92 (fb 15 3) HT_ ?_;refine pn 2 93 (fb 15 7) HT_ ?_;refine pn 3 94 (fb 15 15) HT_ ?_;refine pn 4 95 (fb 15 31) HT_ ?_;refine pn 5 96 (fb 15 63) HT_ ?_;refine pn 6 97 (fb 15 127) HT_ ?_;refine pn 7 98 (fb 15 255) HT_ ?_;refine pn 8 99 (fb 15 511) HT_ ?_;refine pn 9 100 (fb 15 1023) HT_ ?_;refine pn 10 101 (fb 15 2047) HT_ ?_;refine pn 11 102 (fb 15 4095) HT_ ?_;refine pn 12 103 (fb 15 8191) HT_ ?_;refine pu 13 104 (fb 15 16383) HT_ ?_;refine pu 14 10 (fb 15 32767) HT_ ?_;refine done_ (done_of HT_.out (by kernel_rfl)) ?_
             try go_wp2
             go_roundg k3
             case measure=>have:=HJ10.out;have:=HK2.out;have:=HK3.out;omega
             case rel=>exact ⟨(true),(wrap64 (af+1)),Ye1,Ye1,H',⟨by have:=HJ10.out;have:=HK2.out;have:=HK3.out;omega⟩,⟨kr al.out⟩,⟨kr ap.out⟩,⟨kr am.out⟩,⟨bk a5.out⟩,⟨bk a6.out⟩,⟨bf HB.out⟩⟩
            ·replace b8:=Bool.eq_false_iff.mpr b8;subst b8
             have H1:(if 0≤af then (if 0≤a9 then (if a9<(a2.length:Int) then ((impl_Match.f k3 (rdOf ByteArray.empty a8 af) ((rd_T27 a2 a9).f0)).bind fun aH=>(laws_FnGlobs.l1 k3 a8 a9 aH (wrap64 (af+1)) a2)) else (none)) else (none)) else (none))=some r:=by rw [if_neg (show ¬(false=true) by decide)] at H;exact H
             clear H;have H:=H1;clear H1
             by_cases b9:0≤af
             ·rw [if_pos b9] at H
              have c75b0:decide (0≤af)=true:=decide_eq_true b9;clear b9
              by_cases ba:0≤a9
              ·rw [if_pos ba] at H
               have c76b0:decide (0≤a9)=true:=decide_eq_true ba;clear ba
               by_cases bd:a9<(a2.length:Int)
               ·rw [if_pos bd] at H
                have c77b0:decide (a9<(a2.length:Int))=true:=decide_eq_true bd;clear bd;replace H:=Option.bind_eq_some_iff.mp H;obtain ⟨aH,ce,H⟩:=H;replace H:(laws_FnGlobs.l1 k3 a8 a9 aH (wrap64 (af+1)) a2)=some r:=H;have A78:=Aside0.mk ce;clear ce;have H':=Aside0.mk H;clear H
                try go_wp2
                refine Ya6 (Kd.R_drew al.out) (Kd.R_drew ap.out) (Kd.R_drew am.out) (blk_drew a5.out) (blk_drew a6.out) (below_drew1 HB.out) ?_;clear al ap am a5 a6 HB;intro al ap am a5 a6 HB;have bI:0≤(af:Int):=oda;have bJ:af<(a8.length:Int):=oda;obtain ⟨cr,cs,cf⟩:=Kd.at_string (Kd.R_reads' al.out).2.2 af bI bJ
                cases cs
                replace bI:=eq_true bI;replace bJ:=eq_true bJ;have bK:0≤(a9:Int):=oda;have bL:a9<(a2.length:Int):=oda;obtain ⟨aT,ct,cg,ch,ci⟩:=at_T27 (Kd.R_reads' am.out).2.2 a9 bK bL
                cases ct
                replace bK:=eq_true bK;replace bL:=eq_true bL;refine start_ (n:=15) (S:=fun w'=>w'.cell? ⟨aq,0,none⟩=some (.slice (some aT) a2.length ae)∧w'.cell? (cr.add (af).toNat)=some (.string (rdOf ByteArray.empty a8 af))∧w'.cell? (aT.add ((a9).toNat*3))=some (.string ((rd_T27 a2 a9).f0))∧w'.cell? ⟨(aT.add ((a9).toNat*3)).block,(aT.add ((a9).toNat*3)).off+1,none⟩=some (.string ((rd_T27 a2 a9).f1))∧w'.cell? ⟨(aT.add ((a9).toNat*3)).block,(aT.add ((a9).toNat*3)).off+2,none⟩=some (.bool ((rd_T27 a2 a9).f2))) (ds:=[]) (fb 15 0) (by kernel_rfl) rfl rfl ⟨bc a6 0,cf,cg,ch,ci⟩ (fun hHeld => ?_);refine with_tabW laws_FnGlobs.tab23 laws_FnGlobs.bits23 (fun HT_ HW_ => ?_);generalize wr.drew=w79 at al ap am a5 a6 HB cf cg ch ci hHeld ⊢; refine pu 0 91 (fb 15 1) HT_ ?_;refine pu 1 92 (fb 15 3) HT_ ?_;refine pu 2 93 (fb 15 7) HT_ ?_;refine pu 3 94 (fb 15 15) HT_ ?_;refine pu 4 95 (fb 15 31) HT_ ?_;refine pu 6 97 (fb 15 95) HT_ ?_;refine pu 8 99 (fb 15 351) HT_ ?_;refine tk 5 96 (fb 15 383) HT_ HW_ hHeld ?_;refine tk 7 98 (fb 15 511) HT_ HW_ hHeld ?_;refine pu 9 100 (fb 15 1023) HT_ ?_;refine pu 10 101 (fb 15 2047) HT_ ?_;refine tk 11 102 (fb 15 4095) HT_ HW_ hHeld ?_;refine o1 12 (some 103) (fb 15 8191) HT_ (fun K hK => ?_);refine gs _ (#[.string (rdOf ByteArray.empty a8 af),.string ((rd_T27 a2 a9).f0)]) Tryd.func21 ?_;(with_reducible refine (impl_Match.calls k3 (rdOf ByteArray.empty a8 af) ((rd_T27 a2 a9).f0) aH _ ?sideG A78.out).mono ?_;(case sideG=>exact gf HG.out HB.out));rintro e w80 ⟨rfl,hb⟩;have HS1_:=(hb.cell (World.block_lt_of_cell? _ _ (hHeld.2.1))).trans (hHeld.2.1);have HS2_:=(hb.cell (World.block_lt_of_cell? _ _ (hHeld.2.2.1))).trans (hHeld.2.2.1);have HS3_:=(hb.cell (World.block_lt_of_cell? _ _ (hHeld.2.2.2.1))).trans (hHeld.2.2.2.1);have HS4_:=(hb.cell (World.block_lt_of_cell? _ _ (hHeld.2.2.2.2))).trans (hHeld.2.2.2.2);refine ⟨_,rfl,?_⟩;refine Ya6 (Kd.R_below (kr al.out) hb) (Kd.R_below (kr ap.out) hb) (Kd.R_below (kr am.out) hb) (bb a5 hb) (bb a6 hb) (below_step (bf HB.out) hb) ?_;clear al ap am a5 a6 HB;intro al ap am a5 a6 HB;(try clear hb);(try clear hb2);(try clear hk);(try clear hi);refine hK.out _ _ ⟨bc a6 0,HS1_,HS2_,HS3_,HS4_⟩ (fun hHeld => ?_);clear hK K;refine nm 103 ?_;refine pu 13 104 (fb 15 16383) HT_ ?_;refine pu 14 10 (fb 15 32767) HT_ ?_;refine done_ (done_of HT_.out (by kernel_rfl)) ?_
                try go_wp2
                go_roundg k3
                case measure=>have:=HJ10.out;have:=HK2.out;have:=HK3.out;omega
                case rel=>exact ⟨(aH),(wrap64 (af+1)),Ye1,Ye1,H',⟨by have:=HJ10.out;have:=HK2.out;have:=HK3.out;omega⟩,⟨kr al.out⟩,⟨kr ap.out⟩,⟨kr am.out⟩,⟨bk a5.out⟩,⟨bk a6.out⟩,⟨bf HB.out⟩⟩
               ·rw [if_neg bd] at H
                exact absurd H (by simp)
              ·rw [if_neg ba] at H
               exact absurd H (by simp)
             ·rw [if_neg b9] at H
              exact absurd H (by simp)
           ·rw [if_neg aS] at H
            have cq:decide (af<(a8.length:Int))=false:=decide_eq_false aS;clear aS
            by_cases bg:b1=true
            ·subst bg
             have H1:(laws_FnGlobs.l0 k3 a8 (wrap64 (a9+1)) a2)=some r:=by rw [if_pos rfl] at H;exact H
             clear H;have H:=H1;clear H1;have H':=Aside0.mk H;clear H
             go_wp2
             go_roundg k3
             case measure=>have:=HJ10.out;have:=HK2.out;have:=HK3.out;omega
             case rel=>exact ⟨(wrap64 (a9+1)),Ye1,H',⟨by have:=HJ10.out;have:=HK2.out;have:=HK3.out;omega⟩,⟨kr al.out⟩,⟨kr ap.out⟩,⟨kr am.out⟩,⟨bk a5.out⟩,⟨bk a6.out⟩,⟨bf HB.out⟩⟩
            ·replace bg:=Bool.eq_false_iff.mpr bg;subst bg
             have H1:(some false)=some r:=by rw [if_neg (show ¬(false=true) by decide)] at H;exact H
             clear H;have H:=H1;clear H1;exact absurd ((Option.some.inj H).trans hrt) (by decide)
        ·rw [if_neg aO] at H
         have cd:decide (a9<(a2.length:Int))=false:=decide_eq_false aO;clear aO;obtain rfl:=Option.some.inj H;have hnb82:=bB.out;have hnc82:=b7.out;have ⟨cu,cv⟩:=Yc1 a6.out
         go_wp2
         go_ret
         exact ⟨Ye2,(bf HB.out)⟩
     ·replace aP:=Bool.eq_false_iff.mpr aP;subst aP
      have H1:(some false)=some r:=by rw [if_neg (show ¬(false=true) by decide)] at H;exact H
      clear H;have H:=H1;clear H1;exact absurd ((Option.some.inj H).trans hrt) (by decide)
end Go.Proofs.YtknagppkeodggaaDoor.P
