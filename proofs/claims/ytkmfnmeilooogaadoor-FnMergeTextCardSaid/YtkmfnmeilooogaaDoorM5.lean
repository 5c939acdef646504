/- Several texts of this claim in one file: YtkmfnmeilooogaaDoorPSpecL1Open, YtkmfnmeilooogaaDoorPSpecL10Dec, YtkmfnmeilooogaaDoorPSpecL7Three, YtkmfnmeilooogaaDoorPSpecL7With, YtkmfnmeilooogaaDoorPSpecMergeText. -/
import Derived.Test.YtkmfnmeilooogaaDoorM2
import Derived.Test.YtkmfnmeilooogaaDoorM3
import Derived.Test.YtkmfnmeilooogaaDoorM4
namespace Go.Proofs.YtkmfnmeilooogaaDoor.P
open Go.RowKit Go.Proofs.YtkmfnmeilooogaaDoorW.PrintWords Go.Proofs.YtkmfnmeilooogaaDoorW.PrintLast Go.Proofs.YtkmfnmeilooogaaDoorW.PrintMore
attribute [local go_sem] max2_int min2_int max_two min_two max_three min_three max_four min_four
set_option linter.unusedVariables false
set_option linter.unusedSimpArgs false

/-- A state of type 118 at block g of W; what its slices lead to came in by w0. -/
def IsS118 (w0 W:World) (g:Nat) (f0:List Int) (f1:Int):Prop:=∃ A0 c0,W.heap[g]? = some (.cells #[.slice A0 f0.length c0,.int .i64 f1] 118 (0,0))∧w0.heap.size≤g∧Kd.C (Kd.int .u8) w0 A0 f0.length f0
theorem IsS118.grown {w0 W:World} {g:Nat} {f0:List Int} {f1:Int} {W1:World} {row:Option Nat} (h:IsS118 w0 W g f0 f1) (hw:W.grownBy W1 row) (hne:some g≠row):IsS118 w0 W1 g f0 f1:=by
 obtain ⟨A0,c0,hb,hg,hr0⟩:=h
 exact ⟨A0,c0,blk_grown hb hw hne,hg,hr0⟩
theorem IsS118.own_neN {w0 W:World} {g:Nat} {f0:List Int} {f1:Int} {α:Type} {d:Kd α} {e:Nat} {base:Nat} {ok:Nat→Prop} {v:Value} {xs:List α} (h:IsS118 w0 W g f0 f1) (ho:Kd.N d e W base ok v xs) (ht:e≠118):some g≠v.ownBlock:=by
 obtain ⟨A0,c0,hb,hg,hr0⟩:=h
 exact Kd.N_ne ho hb ht
theorem IsS118.fresh {w0 W:World} {g:Nat} {f0:List Int} {f1:Int} (h:IsS118 w0 W g f0 f1):∀ k,W.heap.size≤k→k≠g:=by
 obtain ⟨A0,c0,hb,hg,hr0⟩:=h
 exact Kd.freshB hb
theorem IsS118.kept {w0 W:World} {g:Nat} {f0:List Int} {f1:Int} {W1:World} {S:Nat→Prop} (h:IsS118 w0 W g f0 f1) (hk:Kept W W1 S) (hne:¬ S g):IsS118 w0 W1 g f0 f1:=by
 obtain ⟨A0,c0,hb,hg,hr0⟩:=h
 exact ⟨A0,c0,blk_kept hb hk hne,hg,hr0⟩
theorem IsS118.below {w0 W:World} {g:Nat} {f0:List Int} {f1:Int} {W1:World} (h:IsS118 w0 W g f0 f1) (hw:Below W.heap.size W W1):IsS118 w0 W1 g f0 f1:=h.grown (grown_of_below hw none) (by simp)
theorem IsS118.alloc {w0 W:World} {g:Nat} {f0:List Int} {f1:Int} (h:IsS118 w0 W g f0 f1) (o:Obj):IsS118 w0 (W.alloc o) g f0 f1:=h.below (below_alloc (Below.refl _ _) o)
theorem IsS118.drewN {w0 W:World} {g:Nat} {f0:List Int} {f1:Int} (h:IsS118 w0 W g f0 f1) (m:Nat):IsS118 w0 (W.drewN m) g f0 f1:=h
theorem IsS118.drew {w0 W:World} {g:Nat} {f0:List Int} {f1:Int} (h:IsS118 w0 W g f0 f1):IsS118 w0 W.drew g f0 f1:=h
theorem IsS118.at_ {w0 W:World} {g:Nat} {f0:List Int} {f1:Int} {w':World} {m:Nat} (hq:W.drewN m=w') (h:IsS118 w0 W g f0 f1):IsS118 w0 w' g f0 f1:=by subst hq;exact IsS118.drewN h m
theorem IsS118.apart {w0 W:World} {g:Nat} {f0:List Int} {f1:Int} {α:Type} {d:Kd α} {e:Nat} {base:Nat} {ok:Nat→Prop} {v:Value} {xs:List α} (h:IsS118 w0 W g f0 f1) (ho:d.R e W base ok v xs) (ht:∀ q,q ∈ e :: d.E→q≠118):d.R e W base (fun k=>ok k∧k≠g) v xs:=by
 obtain ⟨A0,c0,hb,hg,hr0⟩:=h
 exact Kd.R_types ho hb ht
theorem IsS118.own_ne {w0 W:World} {g:Nat} {f0:List Int} {f1:Int} {α:Type} {d:Kd α} {e:Nat} {base:Nat} {ok:Nat→Prop} {v:Value} {xs:List α} (h:IsS118 w0 W g f0 f1) (ho:d.R e W base ok v xs) (ht:e≠118):some g≠v.ownBlock:=by
 obtain ⟨A0,c0,hb,hg,hr0⟩:=h
 exact Kd.R_ne ho hb ht
theorem IsS118.apartQ {w0 W:World} {g:Nat} {f0:List Int} {f1:Int} {α:Type} {d:Kd α} {e:Nat} {base:Nat} {ok:Nat→Prop} {v:Value} {xs:List α} (h:IsS118 w0 W g f0 f1) (ho:d.Q e W base ok v xs) (ht:∀ q,q ∈ e :: d.E→q≠118):d.Q e W base (fun k=>ok k∧k≠g) v xs:=by
 obtain ⟨A0,c0,hb,hg,hr0⟩:=h
 exact Kd.Q_types ho hb ht
theorem IsS118.own_neQ {w0 W:World} {g:Nat} {f0:List Int} {f1:Int} {α:Type} {d:Kd α} {e:Nat} {base:Nat} {ok:Nat→Prop} {v:Value} {xs:List α} (h:IsS118 w0 W g f0 f1) (ho:d.Q e W base ok v xs) (ht:e≠118):some g≠v.ownBlock:=by
 obtain ⟨A0,c0,hb,hg,hr0⟩:=h
 exact Kd.Q_ne ho hb ht
theorem IsS118.apartS {w0 W:World} {g:Nat} {f0:List Int} {f1:Int} {α:Type} {d:Kd α} {e:Nat} {base:Nat} {ok:Nat→Prop} {v:Value} {xs:List α} (h:IsS118 w0 W g f0 f1) (ho:d.S e W base ok v xs) (ht:∀ q,q ∈ e :: d.E→q≠118):d.S e W base (fun k=>ok k∧k≠g) v xs:=by
 obtain ⟨A0,c0,hb,hg,hr0⟩:=h
 exact Kd.S_types ho hb ht
theorem IsS118.own_neS {w0 W:World} {g:Nat} {f0:List Int} {f1:Int} {α:Type} {d:Kd α} {e:Nat} {base:Nat} {ok:Nat→Prop} {v:Value} {xs:List α} (h:IsS118 w0 W g f0 f1) (ho:d.S e W base ok v xs) (ht:e≠118):some g≠v.ownBlock:=by
 obtain ⟨A0,c0,hb,hg,hr0⟩:=h
 exact Kd.S_ne ho hb ht
theorem IsS118.lt {w0 W:World} {g:Nat} {f0:List Int} {f1:Int} (h:IsS118 w0 W g f0 f1):g<W.heap.size:=by
 obtain ⟨A0,c0,hb,hg,hr0⟩:=h
 exact blk_lt hb
theorem IsS118.ge {w0 W:World} {g:Nat} {f0:List Int} {f1:Int} (h:IsS118 w0 W g f0 f1):w0.heap.size≤g:=by
 obtain ⟨A0,c0,hb,hg,hr0⟩:=h
 exact hg
theorem IsS118.ne_blk {w0 W:World} {g:Nat} {f0:List Int} {f1:Int} {a:Nat} {cs:Array Value} {t:TypeId} {fr:Nat×Nat} (h:IsS118 w0 W g f0 f1) (hb2:W.heap[a]? = some (.cells cs t fr)) (ht:t≠118):g≠a:=by
 obtain ⟨A0,c0,hb,hg,hr0⟩:=h
 rintro rfl
 rw [hb] at hb2
 injection hb2 with hb2
 injection hb2 with _ ht2
 exact ht ht2.symm
theorem IsS118.far {w0 W:World} {g:Nat} {f0:List Int} {f1:Int} {p:Addr} (h:IsS118 w0 W g f0 f1) (hne:g≠p.block) (u:Value):IsS118 w0 (W.setCell p u) g f0 f1:=by
 obtain ⟨A0,c0,hb,hg,hr0⟩:=h
 exact ⟨A0,c0,blk_far hb hne u,hg,hr0⟩
theorem cellS118_0 {W:World} {g:Nat} {A0:Option Addr} {c0:Nat} {f0:List Int} {f1:Int} (h:W.heap[g]? = some (.cells #[.slice A0 f0.length c0,.int .i64 f1] 118 (0,0))):W.cell? ⟨g,0,none⟩=some (.slice A0 f0.length c0):=(blk_cell h 0).trans rfl
theorem cellS118_1 {W:World} {g:Nat} {A0:Option Addr} {c0:Nat} {f0:List Int} {f1:Int} (h:W.heap[g]? = some (.cells #[.slice A0 f0.length c0,.int .i64 f1] 118 (0,0))):W.cell? ⟨g,1,none⟩=some (.int .i64 f1):=(blk_cell h 1).trans rfl
theorem IsS118.set_1 {w0 W:World} {g:Nat} {f0:List Int} {f1:Int} (h:IsS118 w0 W g f0 f1) (x:Int):IsS118 w0 (W.setCell ⟨g,1,none⟩ (.int .i64 x)) g f0 x:=by
 obtain ⟨A0,c0,hb,hg,hr0⟩:=h
 exact ⟨A0,c0,by simpa using blk_set hb 1 (.int .i64 x),hg,hr0⟩
theorem IsS118.new (w0 W:World) (A0:Option Addr) (c0:Nat) (f0:List Int) (f1:Int) (hB:Below w0.heap.size w0 W) (hr0:Kd.C (Kd.int .u8) w0 A0 f0.length f0):IsS118 w0 (W.alloc (.cells #[.slice A0 f0.length c0,.int .i64 f1] 118)) W.heap.size f0 f1:=⟨A0,c0,by simpa using heap_alloc_new W _,hB.size,hr0⟩

def spec_l1Open.f (l0:List Int):Option (List Int×Int):=if (l0.length:Int)>2000 then (if 2000≤(l0.length:Int) then (some (l0.take 2000,0)) else (none)) else (some (l0,0))
set_option maxHeartbeats 8000000 in
set_option maxRecDepth 100000 in
theorem spec_l1Open.calls (A0:Option Addr) (c0:Nat) (l0:List Int) (r1:List Int) (r2:Int) (w0 w:World) (hB:Below w0.heap.size w0 w) (hr0:Kd.C (Kd.int .u8) w0 A0 l0.length l0) (hc0:l0.length≤c0) (h:spec_l1Open.f l0=some (r1,r2)) :
  Calls Tryd.prog 32 #[.slice A0 l0.length c0] w fun e w' => ∃ g_:Nat,e = .returned (.pointer (some ⟨g_,0,none⟩))∧IsS118 w0 w' g_ r1 r2∧Below w0.heap.size w0 w'∧Below w.heap.size w w':=by
 have hu118:=Tryd.underlying118;have HR0:=Aside0.mk hr0;have HC0:=Aside0.mk hc0;clear hr0 hc0;have HBW:=Aside0.mk (Below.refl w.heap.size w);have HW0:=Aside0.mk hB.size;have HB:=Aside0.mk hB;clear hB;have H:(if (l0.length:Int)>2000 then (if 2000≤(l0.length:Int) then (some (l0.take 2000,0)) else (none)) else (some (l0,0)))=some (r1,r2):=h;clear h
 by_cases c2:(l0.length:Int)>2000
 ·rw [if_pos c2] at H
  have a4:decide (2000<(l0.length:Int))=true:=decide_eq_true c2;have a5:decide (2000<l0.length)=true:=decide_eq_true (by omega);clear c2
  by_cases c3:2000≤(l0.length:Int)
  ·rw [if_pos c3] at H
   have c3b0:=eq_true c3;have c3b1:decide (2000≤(l0.length:Int))=true:=decide_eq_true c3;clear c3;simp only [Option.some.injEq,Prod.mk.injEq] at H;obtain ⟨rfl,rfl⟩:=H;obtain ⟨i04,hi04,_,hsz4,_⟩:=info_parts info5;obtain ⟨hcut4,hA4,hC4⟩:=print_take_of (P:=Tryd.prog) (Value.int .u8) 0 25 5 .i64 Tryd.underlying25 hi04 hsz4 A0 c0 l0 2000 (by omega) (oda) HC0.out;have a6:=Aside0.mk (Kd.C_of_reads (h1:=fun _=>rfl) (hA4 _ (Kd.reads_of_C HR0.out)));have HC247:=Aside0.mk hC4;clear hA4 hC4 hi04 hsz4
   go_enter Tryd.func32,Tryd.ntmps32
   go_wp2_with (first|((with_reducible refine gd 10 rfl ?_);refine bx 10 118 (#[.slice A0 (l0.take 2000).length c0,.int .i64 0]) ?_;intro a0 hg w5 hbox hb;refine Ya5 (below_step HBW.out hb) (below_step (be HB.out) hb) (hbox) (bs hg (be HBW.out)) ((Nat.le_trans HW0.out (bs hg (be HBW.out)):w0.heap.size≤a0)) ?_;clear HBW HB;intro HBW HB a7 a8 a1;clear hb hbox hg))
   go_ret
   exact ⟨_,rfl,(show IsS118 w0 _ a0 (l0.take 2000) 0 from ⟨_,_,bk a7.out,a1.out,a6.out⟩),(by first|exact be1 HB.out a1.out|exact be HB.out),(by first|exact be1 HBW.out a8.out|exact be HBW.out)⟩
  ·rw [if_neg c3] at H
   exact absurd H (by simp)
 ·rw [if_neg c2] at H
  have a4:decide (2000<(l0.length:Int))=false:=decide_eq_false c2;have a5:decide (2000<l0.length)=false:=decide_eq_false (by omega);clear c2;simp only [Option.some.injEq,Prod.mk.injEq] at H;obtain ⟨rfl,rfl⟩:=H
  go_enter Tryd.func32,Tryd.ntmps32
  go_wp2_with (first|((with_reducible refine gd 10 rfl ?_);refine bx 10 118 (#[.slice A0 l0.length c0,.int .i64 0]) ?_;intro a2 hg w6 hbox hb;refine Ya5 (below_step HBW.out hb) (below_step (be HB.out) hb) (hbox) (bs hg (be HBW.out)) ((Nat.le_trans HW0.out (bs hg (be HBW.out)):w0.heap.size≤a2)) ?_;clear HBW HB;intro HBW HB a9 aa a3;clear hb hbox hg))
  go_ret
  exact ⟨_,rfl,(show IsS118 w0 _ a2 l0 0 from ⟨_,_,bk a9.out,a3.out,HR0.out⟩),(by first|exact be1 HB.out a3.out|exact be HB.out),(by first|exact be1 HBW.out aa.out|exact be HBW.out)⟩

end Go.Proofs.YtkmfnmeilooogaaDoor.P


namespace Go.Proofs.YtkmfnmeilooogaaDoor.P
open Go.RowKit Go.Proofs.YtkmfnmeilooogaaDoorW.PrintWords Go.Proofs.YtkmfnmeilooogaaDoorW.PrintLast Go.Proofs.YtkmfnmeilooogaaDoorW.PrintMore
attribute [local go_sem] max2_int min2_int max_two min_two max_three min_three max_four min_four
set_option linter.unusedVariables false
set_option linter.unusedSimpArgs false

def spec_l10Dec.f:Nat→Int→Option (ByteArray)
 | 0,_=>none
 | k+1,a0=>if a0<10 then (some (strOfNums (([(wrap64 (48+a0)) % 256]:List Int)))) else ((spec_l10Dec.f k (wrap64 (Int.tdiv a0 10))).bind fun a1=>((some (([(wrap64 (48+(Int.tmod a0 10))) % 256]:List Int):List Int)).bind fun a2=>(if a1.size+(strOfNums a2).size≤9223372036854775807 then (some (a1++(strOfNums a2))) else (none))))
theorem spec_l10Dec.mono_l:∀ k,(∀ y0,LeO (spec_l10Dec.f k y0) (spec_l10Dec.f (k+1) y0))
 | 0=>fun _ r h=>by simp [spec_l10Dec.f] at h
 | k + 1 => by
  have ih0:=spec_l10Dec.mono_l k
  ·intro y0
   unfold spec_l10Dec.f
   repeat' first
   | (with_reducible exact ih0 _)
   | (with_reducible exact LeO.refl _)
   | (with_reducible exact LeO.none _)
   | (with_reducible refine LeO.ite ?_ ?_)
   | (with_reducible refine LeO.bind ?_ (fun _ => ?_))
   | exact ih0 _
   | exact LeO.none _
   | refine LeO.ite ?_ ?_
   | refine LeO.bind ?_ (fun _ => ?_)
theorem spec_l10Dec.mono:∀ a0 k,LeO (spec_l10Dec.f k a0) (spec_l10Dec.f (k+1) a0):=by
 intro a0 k;have ih0:=spec_l10Dec.mono_l k;exact ih0 a0
def spec_l10Dec.T3:Bool×List (List Nat×List Nat):=(true,[([],[]),([0],[0]),([1],[1]),([],[]),([3],[3]),([4],[4]),([5],[5]),([6],[6]),([7],[7]),([2,8],[2,8]),([9,2,0,1,2,3,4,5,6,7,8,9],[9])])
def spec_l10Dec.B3:List Nat:=[0,1,3,0,8,24,56,120,248,511,1023]
theorem spec_l10Dec.tab3:rtab .any (opsOf Tryd.f69 3)=spec_l10Dec.T3:=by kernel_rfl
theorem spec_l10Dec.bits3:waitsOk spec_l10Dec.T3.2 spec_l10Dec.B3=true:=by kernel_rfl
set_option maxHeartbeats 8000000 in
set_option maxRecDepth 100000 in
theorem spec_l10Dec.calls (k:Nat):∀ (a0:Int) (r:ByteArray) (w:World) (h:spec_l10Dec.f k a0=some r),
  Calls Tryd.prog 69 #[.int .i64 a0] w fun e w'=>e = .returned (.string r)∧Below w.heap.size w w':=by
 induction k using Nat.strongRecOn with
 | _ k ih =>
 intro a0 r w h
 cases k with
 | zero=>exact absurd h (by simp [spec_l10Dec.f])
 | succ k =>
 simp only [spec_l10Dec.f] at h;have HB:=Aside0.mk (Below.refl w.heap.size w);have H:(if a0<10 then (some (strOfNums (([(wrap64 (48+a0)) % 256]:List Int)))) else ((spec_l10Dec.f k (wrap64 (Int.tdiv a0 10))).bind fun a1=>((some (([(wrap64 (48+(Int.tmod a0 10))) % 256]:List Int):List Int)).bind fun a2=>(if a1.size+(strOfNums a2).size≤9223372036854775807 then (some (a1++(strOfNums a2))) else (none)))))=some r:=h;clear h
 by_cases c2:a0<10
 ·rw [if_pos c2] at H
  have a9:decide (a0<10)=true:=decide_eq_true c2;clear c2
  obtain ⟨aa,a5⟩:∃ y_:List Int,y_=(([(wrap64 (48+a0)) % 256]:List Int)):=⟨_,rfl⟩
  replace H:(some (strOfNums aa))=some r:=by first|(rw [a5];with_reducible exact H)|(have H2_:=(Option.bind_some _ _).symm.trans H;rw [a5];with_reducible exact H2_)|(have H2_:=(Option.bind_some _ _).symm.trans H;with_reducible exact H2_)|with_reducible exact H|(rw [a5];exact H)|exact H
  have a8:=Aside0.mk a5;clear a5;obtain rfl:=Option.some.inj H
  go_enter Tryd.func69,Tryd.ntmps69
  go_wp2_with (first|((with_reducible refine gd 8 rfl ?_);refine Kd.R_lit (Kd.int .u8) _ 5 ?hg (N:=8) ?hd (xs:=([(wrap64 (48+a0)) % 256]:List Int)) (inner:=[.int .u8 ((wrap64 (48+a0)) % 256)]) (ok:=fun _=>True) (okp:=fun _=>True) ?hr ?hp (fun _ hk=>hk) trivial (Below.refl _ _) (Nat.le_refl _) (by simp) ?_;(case hd=>rfl);(case hg=>rfl);(case hr=>first|(go_simp;done)|(go_simp;rfl));(case hp=>exact (Reps.one (show Kd.M (Kd.int .u8) _ _ _ ((wrap64 (48+a0)) % 256) [.int .u8 ((wrap64 (48+a0)) % 256)] from rfl) (Reps.none _ _)));intro v254 w3 ho4 hb hg_ hnew_;clear hg_ hnew_;(first|rw [←a8.out] at ho4|(simp only [Int.reduceToNat] at ho4;rw [←a8.out] at ho4));refine Ya2 (Kd.R_lower ho4 (below_size (be HB.out))) (below_step (be HB.out) hb) ?_;clear HB;intro ab HB;clear hb ho4;have hcv5:=own_string (P:=Tryd.prog) Tryd.underlying25 Tryd.underlying5 Tryd.underlying9 (Kd.own_of_R ab.out)))
  go_ret
  exact ⟨Ye2,be HB.out⟩
 ·rw [if_neg c2] at H
  have a9:decide (a0<10)=false:=decide_eq_false c2;clear c2;replace H:=Option.bind_eq_some_iff.mp H;obtain ⟨a1,A60,H⟩:=H;replace H:((some (([(wrap64 (48+(Int.tmod a0 10))) % 256]:List Int):List Int)).bind fun a2=>(if a1.size+(strOfNums a2).size≤9223372036854775807 then (some (a1++(strOfNums a2))) else (none)))=some r:=H;have A6:=Aside0.mk A60;clear A60
  obtain ⟨a2,a6⟩:∃ y_:List Int,y_=(([(wrap64 (48+(Int.tmod a0 10))) % 256]:List Int)):=⟨_,rfl⟩
  replace H:(if a1.size+(strOfNums a2).size≤9223372036854775807 then (some (a1++(strOfNums a2))) else (none))=some r:=by first|(rw [a6];with_reducible exact H)|(have H2_:=(Option.bind_some _ _).symm.trans H;rw [a6];with_reducible exact H2_)|(have H2_:=(Option.bind_some _ _).symm.trans H;with_reducible exact H2_)|with_reducible exact H|(rw [a6];exact H)|exact H
  have a7:=Aside0.mk a6;clear a6
  by_cases c7:a1.size+(strOfNums a2).size≤9223372036854775807
  ·rw [if_pos c7] at H
   have c7b0:=eq_true c7;have c7b1:decide (a1.size+(strOfNums a2).size≤9223372036854775807)=true:=decide_eq_true c7
   try have c7b2:(9223372036854775807<a1.size+(strOfNums a2).size)=False:=eq_false (Nat.not_lt.2 c7)
   obtain rfl:=Option.some.inj H
   go_enter Tryd.func69,Tryd.ntmps69
   try go_wp2
   refine Ya1 (below_drew1 HB.out) ?_;clear HB;intro HB;refine start_ (n:=11) (S:=fun w'=>True) (ds:=[]) (fb 11 0) (by kernel_rfl) rfl rfl trivial (fun hHeld => ?_);refine with_tabW spec_l10Dec.tab3 spec_l10Dec.bits3 (fun HT_ HW_ => ?_);generalize w.drew=w8 at HB hHeld ⊢; refine pu 0 10 (fb 11 1) HT_ ?_;refine pu 1 11 (fb 11 3) HT_ ?_;refine pu 3 13 (fb 11 11) HT_ ?_;refine pu 4 14 (fb 11 27) HT_ ?_;refine pu 5 15 (fb 11 59) HT_ ?_;refine pu 6 16 (fb 11 123) HT_ ?_;refine join_ (σ:=Value) 2 (fb 11 511) (fun s_ => [(12,.string a1),(17,s_),(18,.string (strOfNums a2))]) (fun s_ w'=>(Kd.R (Kd.int .u8) 5 w' w.heap.size (fun _=>True) s_ a2)∧(Below w.heap.size w w')) ?_ ?_;rotate_left
   ·intro hCont;refine two_ (i:=2) (j:=7) (Ni:=some 12) (Nj:=some 17) (fb 11 127) (fb 11 251) rfl rfl rfl rfl (two_of HT_.out (by kernel_rfl)) (by decide) (by decide) (fun K hK => ?_) (fun K hK => ?_)
    ·skip
     refine gs _ (#[.int .i64 (wrap64 (Int.tdiv a0 10))]) Tryd.func69 ?_;(with_reducible refine (ih k (by omega) (wrap64 (Int.tdiv a0 10)) a1 _ A6.out).mono ?_);rintro e w9 ⟨rfl,hb⟩;refine ⟨_,rfl,?_⟩;refine Ya1 (below_step (be HB.out) hb) ?_;clear HB;intro HB;(try clear hb);(try clear hb2);(try clear hk);(try clear hi);refine hK.out _ _ trivial (fun hHeld => ?_);clear hK K;refine nm 12 ?_;refine o1 7 (some 17) (fb 11 255) HT_ (fun K hK => ?_);refine Kd.R_lit_step (Kd.int .u8) _ 5 ?hg (N:=17) ?hd (xs:=([(wrap64 (48+(Int.tmod a0 10))) % 256]:List Int)) (inner:=[.int .u8 ((wrap64 (48+(Int.tmod a0 10))) % 256)]) (ok:=fun _=>True) (okp:=fun _=>True) ?hr ?hp (fun _ hk=>hk) trivial (Below.refl _ _) (Nat.le_refl _) (by simp) ?_;(case hd=>rfl);(case hg=>rfl);(case hr=>first|(go_simp;done)|(go_simp;rfl));(case hp=>exact (Reps.one (show Kd.M (Kd.int .u8) _ _ _ ((wrap64 (48+(Int.tmod a0 10))) % 256) [.int .u8 ((wrap64 (48+(Int.tmod a0 10))) % 256)] from rfl) (Reps.none _ _)));intro a4 w10 ho11 hb hg_ hnew_;clear hg_ hnew_;(first|rw [←a7.out] at ho11|(simp only [Int.reduceToNat] at ho11;rw [←a7.out] at ho11));refine Ya2 (Kd.R_lower ho11 (below_size (be HB.out))) (below_step (be HB.out) hb) ?_;clear HB;intro a3 HB;clear hb ho11;refine hK.out _ _ trivial (fun hHeld => ?_);clear hK K;refine nm 17 ?_;refine o1 8 (some 18) (fb 11 511) HT_ (fun K hK => ?_);have hcv12:=own_string (P:=Tryd.prog) Tryd.underlying25 Tryd.underlying5 Tryd.underlying9 (Kd.own_of_R a3.out);refine value_ (w1:=?_) (v:=?_) (by rfl) rfl ?_ ?_;rotate_left 2
     ·go_simp
      constructor
      ·rfl
      ·rfl
     clear hcv12;refine hK.out _ _ trivial (fun hHeld => ?_);clear hK K;refine nm 18 ?_;exact nc (hCont (a4) _ ⟨(kr a3.out),(be HB.out)⟩)
    ·skip
     refine Kd.R_lit_step (Kd.int .u8) _ 5 ?hg (N:=17) ?hd (xs:=([(wrap64 (48+(Int.tmod a0 10))) % 256]:List Int)) (inner:=[.int .u8 ((wrap64 (48+(Int.tmod a0 10))) % 256)]) (ok:=fun _=>True) (okp:=fun _=>True) ?hr ?hp (fun _ hk=>hk) trivial (Below.refl _ _) (Nat.le_refl _) (by simp) ?_;(case hd=>rfl);(case hg=>rfl);(case hr=>first|(go_simp;done)|(go_simp;rfl));(case hp=>exact (Reps.one (show Kd.M (Kd.int .u8) _ _ _ ((wrap64 (48+(Int.tmod a0 10))) % 256) [.int .u8 ((wrap64 (48+(Int.tmod a0 10))) % 256)] from rfl) (Reps.none _ _)));intro a4 w9 ho10 hb hg_ hnew_;clear hg_ hnew_;(first|rw [←a7.out] at ho10|(simp only [Int.reduceToNat] at ho10;rw [←a7.out] at ho10));refine Ya2 (Kd.R_lower ho10 (below_size (be HB.out))) (below_step (be HB.out) hb) ?_;clear HB;intro a3 HB;clear hb ho10;refine hK.out _ _ trivial (fun hHeld => ?_);clear hK K;refine nm 17 ?_;refine two_ (i:=2) (j:=8) (Ni:=some 12) (Nj:=some 18) (fb 11 255) (fb 11 507) rfl rfl rfl rfl (two_of HT_.out (by kernel_rfl)) (by decide) (by decide) (fun K hK => ?_) (fun K hK => ?_)
     ·skip
      refine gs _ (#[.int .i64 (wrap64 (Int.tdiv a0 10))]) Tryd.func69 ?_;(with_reducible refine (ih k (by omega) (wrap64 (Int.tdiv a0 10)) a1 _ A6.out).mono ?_);rintro e w11 ⟨rfl,hb⟩;refine ⟨_,rfl,?_⟩;refine Ya2 (Kd.R_below (kr a3.out) hb) (below_step (be HB.out) hb) ?_;clear a3 HB;intro a3 HB;(try clear hb);(try clear hb2);(try clear hk);(try clear hi);refine hK.out _ _ trivial (fun hHeld => ?_);clear hK K;refine nm 12 ?_;refine o1 8 (some 18) (fb 11 511) HT_ (fun K hK => ?_);have hcv12:=own_string (P:=Tryd.prog) Tryd.underlying25 Tryd.underlying5 Tryd.underlying9 (Kd.own_of_R a3.out);refine value_ (w1:=?_) (v:=?_) (by rfl) rfl ?_ ?_;rotate_left 2
      ·go_simp
       constructor
       ·rfl
       ·rfl
      clear hcv12;refine hK.out _ _ trivial (fun hHeld => ?_);clear hK K;refine nm 18 ?_;exact nc (hCont (a4) _ ⟨(kr a3.out),(be HB.out)⟩)
     ·skip
      have hcv11:=own_string (P:=Tryd.prog) Tryd.underlying25 Tryd.underlying5 Tryd.underlying9 (Kd.own_of_R a3.out);refine value_ (w1:=?_) (v:=?_) (by rfl) rfl ?_ ?_;rotate_left 2
      ·go_simp
       constructor
       ·rfl
       ·rfl
      clear hcv11;refine hK.out _ _ trivial (fun hHeld => ?_);clear hK K;refine nm 18 ?_;refine o1 2 (some 12) (fb 11 511) HT_ (fun K hK => ?_);refine gs _ (#[.int .i64 (wrap64 (Int.tdiv a0 10))]) Tryd.func69 ?_;(with_reducible refine (ih k (by omega) (wrap64 (Int.tdiv a0 10)) a1 _ A6.out).mono ?_);rintro e w12 ⟨rfl,hb⟩;refine ⟨_,rfl,?_⟩;refine Ya2 (Kd.R_below (kr a3.out) hb) (below_step (be HB.out) hb) ?_;clear a3 HB;intro a3 HB;(try clear hb);(try clear hb2);(try clear hk);(try clear hi);refine hK.out _ _ trivial (fun hHeld => ?_);clear hK K;refine nm 12 ?_;exact nc (hCont (a4) _ ⟨(kr a3.out),(be HB.out)⟩)
   rintro a4 w13 ⟨h0_,h1_⟩
   have n0_:Aside0 (Kd.R (Kd.int .u8) 5 w13 w.heap.size (fun _=>True) a4 a2):=⟨h0_⟩
   have n1_:Aside0 (Below w.heap.size w w13):=⟨h1_⟩
   clear HB;clear h0_ h1_;have a3:=n0_;have HB:=n1_;clear n0_ n1_;have hHeld:=trivial;refine norm_ (a':=?_) ?_ ?_;rotate_left
   ·simp only [putAll,Act.put,List.setIfInBounds_toArray,List.set_cons_zero,List.set_cons_succ];rfl
   refine pu 9 19 (fb 11 1023) HT_ ?_;refine pu 10 2 (fb 11 2047) HT_ ?_;refine done_ (done_of HT_.out (by kernel_rfl)) ?_
   try go_wp2
   go_ret
   exact ⟨Ye2,be HB.out⟩
  ·rw [if_neg c7] at H
   exact absurd H (by simp)

end Go.Proofs.YtkmfnmeilooogaaDoor.P


namespace Go.Proofs.YtkmfnmeilooogaaDoor.P
open Go.RowKit Go.Proofs.YtkmfnmeilooogaaDoorW.PrintWords Go.Proofs.YtkmfnmeilooogaaDoorW.PrintLast Go.Proofs.YtkmfnmeilooogaaDoorW.PrintMore
attribute [local go_sem] max2_int min2_int max_two min_two max_three min_three max_four min_four
set_option linter.unusedVariables false
set_option linter.unusedSimpArgs false

def spec_l7Three.f (k:Nat) (l0:List ByteArray) (l1:List ByteArray) (l2:List ByteArray):Option (ByteArray×Bool):=(spec_l7Text.f k l0).bind fun a5=>((spec_l7Text.f k l1).bind fun a3=>((spec_l7Text.f k l2).bind fun a4=>(if a3.toList=a5.toList then (some (a4,true)) else (if a4.toList=a5.toList then (some (a3,true)) else (if a4.toList=a3.toList then (some (a3,true)) else (some ((⟨#[]⟩:ByteArray),false)))))))
theorem spec_l7Three.mono:∀ a0 a1 a2 k,LeO (spec_l7Three.f k a0 a1 a2) (spec_l7Three.f (k+1) a0 a1 a2):=by
 intro a0 a1 a2 k
 unfold spec_l7Three.f
 repeat' first
   | (with_reducible exact spec_l7Text.mono _ _)
   | (with_reducible exact LeO.refl _)
   | (with_reducible exact LeO.none _)
   | (with_reducible refine LeO.ite ?_ ?_)
   | (with_reducible refine LeO.bind ?_ (fun _ => ?_))
   | exact spec_l7Text.mono _ _
   | exact LeO.none _
   | refine LeO.ite ?_ ?_
   | refine LeO.bind ?_ (fun _ => ?_)
set_option maxHeartbeats 8000000 in
set_option maxRecDepth 100000 in
theorem spec_l7Three.calls (k:Nat) (A0:Option Addr) (c0:Nat) (l0:List ByteArray) (A1:Option Addr) (c1:Nat) (l1:List ByteArray) (A2:Option Addr) (c2:Nat) (l2:List ByteArray) (r1:ByteArray) (r2:Bool) (w:World) (hr0:Kd.C Kd.string w A0 l0.length l0) (hc0:l0.length≤c0) (hr1:Kd.C Kd.string w A1 l1.length l1) (hc1:l1.length≤c1) (hr2:Kd.C Kd.string w A2 l2.length l2) (hc2:l2.length≤c2) (h:spec_l7Three.f k l0 l1 l2=some (r1,r2)) :
  Calls Tryd.prog 27 #[.slice A0 l0.length c0,.slice A1 l1.length c1,.slice A2 l2.length c2] w fun e w'=>e = .returned (.tuple #[.string r1,.bool r2])∧Below w.heap.size w w':=by
 have a8:=Aside0.mk hr0;have a9:=Aside0.mk hc0;clear hr0 hc0;have aa:=Aside0.mk hr1;have ab:=Aside0.mk hc1;clear hr1 hc1;have ac:=Aside0.mk hr2;have ad:=Aside0.mk hc2;clear hr2 hc2;have HB:=Aside0.mk (Below.refl w.heap.size w);have H:((spec_l7Text.f k l0).bind fun a5=>((spec_l7Text.f k l1).bind fun a3=>((spec_l7Text.f k l2).bind fun a4=>(if a3.toList=a5.toList then (some (a4,true)) else (if a4.toList=a5.toList then (some (a3,true)) else (if a4.toList=a3.toList then (some (a3,true)) else (some ((⟨#[]⟩:ByteArray),false))))))))=some (r1,r2):=h;clear h;replace H:=Option.bind_eq_some_iff.mp H;obtain ⟨a5,A40,H⟩:=H;replace H:((spec_l7Text.f k l1).bind fun a3=>((spec_l7Text.f k l2).bind fun a4=>(if a3.toList=a5.toList then (some (a4,true)) else (if a4.toList=a5.toList then (some (a3,true)) else (if a4.toList=a3.toList then (some (a3,true)) else (some ((⟨#[]⟩:ByteArray),false)))))))=some (r1,r2):=H;have A4:=Aside0.mk A40;clear A40;replace H:=Option.bind_eq_some_iff.mp H;obtain ⟨a3,A50,H⟩:=H;replace H:((spec_l7Text.f k l2).bind fun a4=>(if a3.toList=a5.toList then (some (a4,true)) else (if a4.toList=a5.toList then (some (a3,true)) else (if a4.toList=a3.toList then (some (a3,true)) else (some ((⟨#[]⟩:ByteArray),false))))))=some (r1,r2):=H;have A5:=Aside0.mk A50;clear A50;replace H:=Option.bind_eq_some_iff.mp H;obtain ⟨a4,A60,H⟩:=H;replace H:(if a3.toList=a5.toList then (some (a4,true)) else (if a4.toList=a5.toList then (some (a3,true)) else (if a4.toList=a3.toList then (some (a3,true)) else (some ((⟨#[]⟩:ByteArray),false)))))=some (r1,r2):=H;have A6:=Aside0.mk A60;clear A60
 by_cases c7:a3.toList=a5.toList
 ·rw [if_pos c7] at H
  have ae:(a3.toList==a5.toList)=true:=beq_iff_eq.mpr c7;have af:(a3.toList != a5.toList)=false:=bne_eq_false_iff_eq.mpr c7;clear c7;simp only [Option.some.injEq,Prod.mk.injEq] at H;obtain ⟨rfl,rfl⟩:=H
  go_enter Tryd.func27,Tryd.ntmps27
  go_wp2_with (first|((with_reducible refine gc 63 rfl ?_);refine gl (some 12) _ (#[.slice A0 l0.length c0]) Tryd.func63 ?_;(with_reducible refine (spec_l7Text.calls k _ _ l0 a5 _ ?side1 ?side2 A4.out).mono ?_);(case side1=>exact cb a8.out);(case side2=>exact a9.out);rintro e w8 ⟨rfl,hb⟩;refine ⟨_,rfl,?_⟩;refine Ya1 (below_step (be HB.out) hb) ?_;clear HB;intro HB;(try clear hb);(try clear hb2);(try clear hk);(try clear hi))|((with_reducible refine gc 63 rfl ?_);refine gl (some 14) _ (#[.slice A1 l1.length c1]) Tryd.func63 ?_;(with_reducible refine (spec_l7Text.calls k _ _ l1 a3 _ ?side1 ?side2 A5.out).mono ?_);(case side1=>exact cb (Kd.C_below aa.out HB.out));(case side2=>exact ab.out);rintro e w9 ⟨rfl,hb⟩;refine ⟨_,rfl,?_⟩;refine Ya1 (below_step (be HB.out) hb) ?_;clear HB;intro HB;(try clear hb);(try clear hb2);(try clear hk);(try clear hi))|((with_reducible refine gc 63 rfl ?_);refine gl (some 16) _ (#[.slice A2 l2.length c2]) Tryd.func63 ?_;(with_reducible refine (spec_l7Text.calls k _ _ l2 a4 _ ?side1 ?side2 A6.out).mono ?_);(case side1=>exact cb (Kd.C_below ac.out HB.out));(case side2=>exact ad.out);rintro e w10 ⟨rfl,hb⟩;refine ⟨_,rfl,?_⟩;refine Ya1 (below_step (be HB.out) hb) ?_;clear HB;intro HB;(try clear hb);(try clear hb2);(try clear hk);(try clear hi)))
  go_ret2
  exact ⟨Ye2,be HB.out⟩
 ·rw [if_neg c7] at H
  have ae:(a3.toList==a5.toList)=false:=beq_eq_false_iff_ne.mpr c7;have af:(a3.toList != a5.toList)=true:=bne_iff_ne.mpr c7
  by_cases a6:a4.toList=a5.toList
  ·rw [if_pos a6] at H
   have ag:(a4.toList==a5.toList)=true:=beq_iff_eq.mpr a6;have ah:(a4.toList != a5.toList)=false:=bne_eq_false_iff_eq.mpr a6;clear a6;simp only [Option.some.injEq,Prod.mk.injEq] at H;obtain ⟨rfl,rfl⟩:=H
   go_enter Tryd.func27,Tryd.ntmps27
   go_wp2_with (first|((with_reducible refine gc 63 rfl ?_);refine gl (some 12) _ (#[.slice A0 l0.length c0]) Tryd.func63 ?_;(with_reducible refine (spec_l7Text.calls k _ _ l0 a5 _ ?side1 ?side2 A4.out).mono ?_);(case side1=>exact cb a8.out);(case side2=>exact a9.out);rintro e w12 ⟨rfl,hb⟩;refine ⟨_,rfl,?_⟩;refine Ya1 (below_step (be HB.out) hb) ?_;clear HB;intro HB;(try clear hb);(try clear hb2);(try clear hk);(try clear hi))|((with_reducible refine gc 63 rfl ?_);refine gl (some 14) _ (#[.slice A1 l1.length c1]) Tryd.func63 ?_;(with_reducible refine (spec_l7Text.calls k _ _ l1 a3 _ ?side1 ?side2 A5.out).mono ?_);(case side1=>exact cb (Kd.C_below aa.out HB.out));(case side2=>exact ab.out);rintro e w13 ⟨rfl,hb⟩;refine ⟨_,rfl,?_⟩;refine Ya1 (below_step (be HB.out) hb) ?_;clear HB;intro HB;(try clear hb);(try clear hb2);(try clear hk);(try clear hi))|((with_reducible refine gc 63 rfl ?_);refine gl (some 16) _ (#[.slice A2 l2.length c2]) Tryd.func63 ?_;(with_reducible refine (spec_l7Text.calls k _ _ l2 a4 _ ?side1 ?side2 A6.out).mono ?_);(case side1=>exact cb (Kd.C_below ac.out HB.out));(case side2=>exact ad.out);rintro e w14 ⟨rfl,hb⟩;refine ⟨_,rfl,?_⟩;refine Ya1 (below_step (be HB.out) hb) ?_;clear HB;intro HB;(try clear hb);(try clear hb2);(try clear hk);(try clear hi)))
   go_ret2
   exact ⟨Ye2,be HB.out⟩
  ·rw [if_neg a6] at H
   have ag:(a4.toList==a5.toList)=false:=beq_eq_false_iff_ne.mpr a6;have ah:(a4.toList != a5.toList)=true:=bne_iff_ne.mpr a6
   by_cases a7:a4.toList=a3.toList
   ·rw [if_pos a7] at H
    have ai:(a4.toList==a3.toList)=true:=beq_iff_eq.mpr a7;have aj:(a4.toList != a3.toList)=false:=bne_eq_false_iff_eq.mpr a7;clear a7;simp only [Option.some.injEq,Prod.mk.injEq] at H;obtain ⟨rfl,rfl⟩:=H
    go_enter Tryd.func27,Tryd.ntmps27
    go_wp2_with (first|((with_reducible refine gc 63 rfl ?_);refine gl (some 12) _ (#[.slice A0 l0.length c0]) Tryd.func63 ?_;(with_reducible refine (spec_l7Text.calls k _ _ l0 a5 _ ?side1 ?side2 A4.out).mono ?_);(case side1=>exact cb a8.out);(case side2=>exact a9.out);rintro e w16 ⟨rfl,hb⟩;refine ⟨_,rfl,?_⟩;refine Ya1 (below_step (be HB.out) hb) ?_;clear HB;intro HB;(try clear hb);(try clear hb2);(try clear hk);(try clear hi))|((with_reducible refine gc 63 rfl ?_);refine gl (some 14) _ (#[.slice A1 l1.length c1]) Tryd.func63 ?_;(with_reducible refine (spec_l7Text.calls k _ _ l1 a3 _ ?side1 ?side2 A5.out).mono ?_);(case side1=>exact cb (Kd.C_below aa.out HB.out));(case side2=>exact ab.out);rintro e w17 ⟨rfl,hb⟩;refine ⟨_,rfl,?_⟩;refine Ya1 (below_step (be HB.out) hb) ?_;clear HB;intro HB;(try clear hb);(try clear hb2);(try clear hk);(try clear hi))|((with_reducible refine gc 63 rfl ?_);refine gl (some 16) _ (#[.slice A2 l2.length c2]) Tryd.func63 ?_;(with_reducible refine (spec_l7Text.calls k _ _ l2 a4 _ ?side1 ?side2 A6.out).mono ?_);(case side1=>exact cb (Kd.C_below ac.out HB.out));(case side2=>exact ad.out);rintro e w18 ⟨rfl,hb⟩;refine ⟨_,rfl,?_⟩;refine Ya1 (below_step (be HB.out) hb) ?_;clear HB;intro HB;(try clear hb);(try clear hb2);(try clear hk);(try clear hi)))
    go_ret2
    exact ⟨Ye2,be HB.out⟩
   ·rw [if_neg a7] at H
    have ai:(a4.toList==a3.toList)=false:=beq_eq_false_iff_ne.mpr a7;have aj:(a4.toList != a3.toList)=true:=bne_iff_ne.mpr a7;simp only [Option.some.injEq,Prod.mk.injEq] at H;obtain ⟨rfl,rfl⟩:=H
    go_enter Tryd.func27,Tryd.ntmps27
    go_wp2_with (first|((with_reducible refine gc 63 rfl ?_);refine gl (some 12) _ (#[.slice A0 l0.length c0]) Tryd.func63 ?_;(with_reducible refine (spec_l7Text.calls k _ _ l0 a5 _ ?side1 ?side2 A4.out).mono ?_);(case side1=>exact cb a8.out);(case side2=>exact a9.out);rintro e w19 ⟨rfl,hb⟩;refine ⟨_,rfl,?_⟩;refine Ya1 (below_step (be HB.out) hb) ?_;clear HB;intro HB;(try clear hb);(try clear hb2);(try clear hk);(try clear hi))|((with_reducible refine gc 63 rfl ?_);refine gl (some 14) _ (#[.slice A1 l1.length c1]) Tryd.func63 ?_;(with_reducible refine (spec_l7Text.calls k _ _ l1 a3 _ ?side1 ?side2 A5.out).mono ?_);(case side1=>exact cb (Kd.C_below aa.out HB.out));(case side2=>exact ab.out);rintro e w20 ⟨rfl,hb⟩;refine ⟨_,rfl,?_⟩;refine Ya1 (below_step (be HB.out) hb) ?_;clear HB;intro HB;(try clear hb);(try clear hb2);(try clear hk);(try clear hi))|((with_reducible refine gc 63 rfl ?_);refine gl (some 16) _ (#[.slice A2 l2.length c2]) Tryd.func63 ?_;(with_reducible refine (spec_l7Text.calls k _ _ l2 a4 _ ?side1 ?side2 A6.out).mono ?_);(case side1=>exact cb (Kd.C_below ac.out HB.out));(case side2=>exact ad.out);rintro e w21 ⟨rfl,hb⟩;refine ⟨_,rfl,?_⟩;refine Ya1 (below_step (be HB.out) hb) ?_;clear HB;intro HB;(try clear hb);(try clear hb2);(try clear hk);(try clear hi)))
    go_ret2
    exact ⟨Ye2,be HB.out⟩

end Go.Proofs.YtkmfnmeilooogaaDoor.P


namespace Go.Proofs.YtkmfnmeilooogaaDoor.P
open Go.RowKit Go.Proofs.YtkmfnmeilooogaaDoorW.PrintWords Go.Proofs.YtkmfnmeilooogaaDoorW.PrintLast Go.Proofs.YtkmfnmeilooogaaDoorW.PrintMore
attribute [local go_sem] max2_int min2_int max_two min_two max_three min_three max_four min_four
set_option linter.unusedVariables false
set_option linter.unusedSimpArgs false

def spec_l7With.l0:Nat→List (S63)→Int→Int→Option (Int)
 | 0,_,_,_=>none
 | k+1,x0,x1,x5=>if x5<(x0.length:Int) then (if 0≤x5 then (if ((rd_T63 x0 x5).f0)=x1 then (some ((rd_T63 x0 x5).f1)) else (spec_l7With.l0 k x0 x1 (wrap64 (x5+1)))) else (none)) else (some (-1))
def spec_l7With.f (k:Nat) (l0:List (S63)) (a1:Int):Option (Int):=spec_l7With.l0 k l0 a1 0
theorem spec_l7With.mono_l:∀ k,(∀ y0 y1 y2,LeO (spec_l7With.l0 k y0 y1 y2) (spec_l7With.l0 (k+1) y0 y1 y2))
 | 0=>fun _ _ _ r h=>by simp [spec_l7With.l0] at h
 | k + 1 => by
  have ih0:=spec_l7With.mono_l k
  ·intro y0 y1 y2
   unfold spec_l7With.l0
   repeat' first
   | (with_reducible exact ih0 _ _ _)
   | (with_reducible exact LeO.refl _)
   | (with_reducible exact LeO.none _)
   | (with_reducible refine LeO.ite ?_ ?_)
   | (with_reducible refine LeO.bind ?_ (fun _ => ?_))
   | exact ih0 _ _ _
   | exact LeO.none _
   | refine LeO.ite ?_ ?_
   | refine LeO.bind ?_ (fun _ => ?_)
theorem spec_l7With.mono:∀ a0 a1 k,LeO (spec_l7With.f k a0 a1) (spec_l7With.f (k+1) a0 a1):=by
 intro a0 a1 k;have ih0:=spec_l7With.mono_l k
 unfold spec_l7With.f
 repeat' first
   | (with_reducible exact ih0 _ _ _)
   | (with_reducible exact LeO.refl _)
   | (with_reducible exact LeO.none _)
   | (with_reducible refine LeO.ite ?_ ?_)
   | (with_reducible refine LeO.bind ?_ (fun _ => ?_))
   | exact ih0 _ _ _
   | exact LeO.none _
   | refine LeO.ite ?_ ?_
   | refine LeO.bind ?_ (fun _ => ?_)
set_option maxHeartbeats 8000000 in
set_option maxRecDepth 100000 in
theorem spec_l7With.calls (k:Nat) (A0:Option Addr) (c0:Nat) (l0:List (S63)) (a1:Int) (r:Int) (w:World) (hr0:Kd.C k63 w A0 l0.length l0) (hc0:l0.length≤c0) (h:spec_l7With.f k l0 a1=some r) :
  Calls Tryd.prog 26 #[.slice A0 l0.length c0,.int .i64 a1] w fun e w'=>e = .returned (.int .i64 r)∧Drawn0 w w':=by
 have a5:=Aside0.mk hr0;have HC0:=Aside0.mk hc0;clear hr0 hc0;have H:(spec_l7With.l0 k l0 a1 0)=some r:=h;clear h;have H':=Aside0.mk H;clear H
 go_enter Tryd.func26,Tryd.ntmps26
 go_wp2
 go_loopg [5] k (fun kq v5 w' => ∃ (a2:Int),v5 = .int .i64 a2∧Aside0 (spec_l7With.l0 kq l0 a1 a2=some r)∧Aside0 (kq≤k)∧Drawn0 w w')
 case atStart=>exact ⟨(0),Ye1,H',⟨Nat.le_refl _⟩,dz⟩
 case round =>
  clear H';(try clear c2);(try clear p2);obtain ⟨a2,rfl,HA,HK1,⟨m1,rfl⟩⟩:=hrel
  cases gk with
  | zero=>exact absurd HA.out (by simp [spec_l7With.l0])
  | succ k1 =>
   have H:=HA.out;clear HA;simp only [spec_l7With.l0] at H
   by_cases c3:a2<(l0.length:Int)
   ·rw [if_pos c3] at H
    have aa:decide (a2<(l0.length:Int))=true:=decide_eq_true c3;clear c3
    by_cases c4:0≤a2
    ·rw [if_pos c4] at H
     have c4b0:decide (0≤a2)=true:=decide_eq_true c4;clear c4
     by_cases c5:((rd_T63 l0 a2).f0)=a1
     ·rw [if_pos c5] at H
      have ab:(((rd_T63 l0 a2).f0)==a1)=true:=beq_iff_eq.mpr c5;have ac:(((rd_T63 l0 a2).f0) != a1)=false:=bne_eq_false_iff_eq.mpr c5;clear c5;obtain rfl:=Option.some.inj H;have a3:0≤(a2:Int):=oda;have a4:a2<(l0.length:Int):=oda;obtain ⟨a9,a6,ad,ae⟩:=at_T63 a5.out a2 a3 a4
      cases a6
      replace a3:=eq_true a3;replace a4:=eq_true a4;have a7:0≤(a2:Int):=oda;have a8:a2<(l0.length:Int):=oda;obtain ⟨af,ag,ah,ai⟩:=at_T63 a5.out a2 a7 a8
      obtain rfl:a9=af:=(by injection ag)
      replace a7:=eq_true a7;replace a8:=eq_true a8
      go_wp2
      go_ret
      exact ⟨Ye1,dz⟩
     ·rw [if_neg c5] at H
      have ab:(((rd_T63 l0 a2).f0)==a1)=false:=beq_eq_false_iff_ne.mpr c5;have ac:(((rd_T63 l0 a2).f0) != a1)=true:=bne_iff_ne.mpr c5;have H':=Aside0.mk H;clear H;have a3:0≤(a2:Int):=oda;have a4:a2<(l0.length:Int):=oda;obtain ⟨a9,a6,ad,ae⟩:=at_T63 a5.out a2 a3 a4
      cases a6
      replace a3:=eq_true a3;replace a4:=eq_true a4
      go_wp2
      go_roundg k1
      case measure=>have:=HK1.out;omega
      case rel=>exact ⟨(wrap64 (a2+1)),Ye1,H',⟨by have:=HK1.out;omega⟩,dz⟩
    ·rw [if_neg c4] at H
     exact absurd H (by simp)
   ·rw [if_neg c3] at H
    have aa:decide (a2<(l0.length:Int))=false:=decide_eq_false c3;clear c3;obtain rfl:=Option.some.inj H
    go_wp2
    go_ret
    exact ⟨Ye1,dz⟩

end Go.Proofs.YtkmfnmeilooogaaDoor.P


namespace Go.Proofs.YtkmfnmeilooogaaDoor.P
open Go.RowKit Go.Proofs.YtkmfnmeilooogaaDoorW.PrintWords Go.Proofs.YtkmfnmeilooogaaDoorW.PrintLast Go.Proofs.YtkmfnmeilooogaaDoorW.PrintMore
attribute [local go_sem] max2_int min2_int max_two min_two max_three min_three max_four min_four
set_option linter.unusedVariables false
set_option linter.unusedSimpArgs false

mutual
def spec_MergeText.j0:Nat→ByteArray→ByteArray→ByteArray→Bool→Option (ByteArray×Bool)
 | 0,_,_,_,_=>none
 | k+1,x0,x1,x2,x34=>if x34=true then (some ((⟨#[]⟩:ByteArray),false)) else ((spec_Lines.f k x0).bind fun a4=>((spec_Lines.f k x1).bind fun a6=>((spec_Lines.f k x2).bind fun a5=>((spec_Common.f k a4 a6).bind fun af=>((spec_Common.f k a4 a5).bind fun ad=>(spec_MergeText.l0 k a4 a6 a5 af ad (⟨#[]⟩:ByteArray) 0 0 0 0))))))
def spec_MergeText.l0:Nat→List ByteArray→List ByteArray→List ByteArray→List (S63)→List (S63)→ByteArray→Int→Int→Int→Int→Option (ByteArray×Bool)
 | 0,_,_,_,_,_,_,_,_,_,_=>none
 | k+1,x8,x9,x10,x11,x12,x13,x14,x15,x16,x17=>if x17≤(x8.length:Int) then (if x17<(x8.length:Int) then ((spec_l7With.f k x11 x17).bind fun aK=>((spec_l7With.f k x12 x17).bind fun aH=>(spec_MergeText.j2 k x8 x9 x10 x11 x12 x13 x14 x15 x16 x17 aK aH))) else (spec_MergeText.j2 k x8 x9 x10 x11 x12 x13 x14 x15 x16 x17 (x9.length:Int) (x10.length:Int))) else (some (x13,true))
def spec_MergeText.j2:Nat→List ByteArray→List ByteArray→List ByteArray→List (S63)→List (S63)→ByteArray→Int→Int→Int→Int→Int→Int→Option (ByteArray×Bool)
 | 0,_,_,_,_,_,_,_,_,_,_,_,_=>none
 | k+1,x8,x9,x10,x11,x12,x13,x14,x15,x16,x17,x18,x19=>if x18<0 then (spec_MergeText.j3 k x8 x9 x10 x11 x12 x13 x14 x15 x16 x17 x18 x19 true) else (spec_MergeText.j3 k x8 x9 x10 x11 x12 x13 x14 x15 x16 x17 x18 x19 (decide (x19<0)))
def spec_MergeText.j3:Nat→List ByteArray→List ByteArray→List ByteArray→List (S63)→List (S63)→ByteArray→Int→Int→Int→Int→Int→Int→Bool→Option (ByteArray×Bool)
 | 0,_,_,_,_,_,_,_,_,_,_,_,_,_=>none
 | k+1,x8,x9,x10,x11,x12,x13,x14,x15,x16,x17,x18,x19,x72=>if x72=true then (spec_MergeText.l0 k x8 x9 x10 x11 x12 x13 x14 x15 x16 (wrap64 (x17+1))) else (if 0≤x14 then (if x14≤x17 then (if x17≤(x8.length:Int) then (if 0≤x15 then (if x15≤x18 then (if x18≤(x9.length:Int) then (if 0≤x16 then (if x16≤x19 then (if x19≤(x10.length:Int) then ((spec_l7Three.f k ((x8.take (x17:Int).toNat).drop (x14:Int).toNat) ((x9.take (x18:Int).toNat).drop (x15:Int).toNat) ((x10.take (x19:Int).toNat).drop (x16:Int).toNat)).bind fun bt231=>(if bt231.2=true then (if x13.size+bt231.1.size≤9223372036854775807 then (if x17<(x8.length:Int) then (if 0≤x17 then (if (x13++bt231.1).size+(rdOf ByteArray.empty x8 x17).size≤9223372036854775807 then (spec_MergeText.l0 k x8 x9 x10 x11 x12 ((x13++bt231.1)++(rdOf ByteArray.empty x8 x17)) (wrap64 (x17+1)) (wrap64 (x18+1)) (wrap64 (x19+1)) (wrap64 (x17+1))) else (none)) else (none)) else (spec_MergeText.l0 k x8 x9 x10 x11 x12 (x13++bt231.1) (wrap64 (x17+1)) (wrap64 (x18+1)) (wrap64 (x19+1)) (wrap64 (x17+1)))) else (none)) else (some ((⟨#[]⟩:ByteArray),false)))) else (none)) else (none)) else (none)) else (none)) else (none)) else (none)) else (none)) else (none)) else (none))
end
def spec_MergeText.f (k:Nat) (a0:ByteArray) (a1:ByteArray) (a2:ByteArray):Option (ByteArray×Bool):=if (a0.size:Int)>1500 then (spec_MergeText.j0 k a0 a1 a2 true) else (if (a1.size:Int)>1500 then (spec_MergeText.j0 k a0 a1 a2 true) else (spec_MergeText.j0 k a0 a1 a2 (decide ((a2.size:Int)>1500))))
theorem spec_MergeText.mono_l:∀ k,(∀ y0 y1 y2 y3,LeO (spec_MergeText.j0 k y0 y1 y2 y3) (spec_MergeText.j0 (k+1) y0 y1 y2 y3))∧(∀ y0 y1 y2 y3 y4 y5 y6 y7 y8 y9,LeO (spec_MergeText.l0 k y0 y1 y2 y3 y4 y5 y6 y7 y8 y9) (spec_MergeText.l0 (k+1) y0 y1 y2 y3 y4 y5 y6 y7 y8 y9))∧(∀ y0 y1 y2 y3 y4 y5 y6 y7 y8 y9 y10 y11,LeO (spec_MergeText.j2 k y0 y1 y2 y3 y4 y5 y6 y7 y8 y9 y10 y11) (spec_MergeText.j2 (k+1) y0 y1 y2 y3 y4 y5 y6 y7 y8 y9 y10 y11))∧(∀ y0 y1 y2 y3 y4 y5 y6 y7 y8 y9 y10 y11 y12,LeO (spec_MergeText.j3 k y0 y1 y2 y3 y4 y5 y6 y7 y8 y9 y10 y11 y12) (spec_MergeText.j3 (k+1) y0 y1 y2 y3 y4 y5 y6 y7 y8 y9 y10 y11 y12))
 | 0=>⟨fun _ _ _ _ r h=>by simp [spec_MergeText.j0] at h,fun _ _ _ _ _ _ _ _ _ _ r h=>by simp [spec_MergeText.l0] at h,fun _ _ _ _ _ _ _ _ _ _ _ _ r h=>by simp [spec_MergeText.j2] at h,fun _ _ _ _ _ _ _ _ _ _ _ _ _ r h=>by simp [spec_MergeText.j3] at h⟩
 | k + 1 => by
  obtain ⟨ih0,ih1,ih2,ih3⟩:=spec_MergeText.mono_l k;refine ⟨?_,?_,?_,?_⟩
  ·intro y0 y1 y2 y3
   unfold spec_MergeText.j0
   repeat' first
   | (with_reducible exact ih0 _ _ _ _)
   | (with_reducible exact ih1 _ _ _ _ _ _ _ _ _ _)
   | (with_reducible exact ih2 _ _ _ _ _ _ _ _ _ _ _ _)
   | (with_reducible exact ih3 _ _ _ _ _ _ _ _ _ _ _ _ _)
   | (with_reducible exact spec_Common.mono _ _ _)
   | (with_reducible exact spec_Lines.mono _ _)
   | (with_reducible exact spec_l7Three.mono _ _ _ _)
   | (with_reducible exact spec_l7With.mono _ _ _)
   | (with_reducible exact LeO.refl _)
   | (with_reducible exact LeO.none _)
   | (with_reducible refine LeO.ite ?_ ?_)
   | (with_reducible refine LeO.bind ?_ (fun _ => ?_))
   | exact ih0 _ _ _ _
   | exact ih1 _ _ _ _ _ _ _ _ _ _
   | exact ih2 _ _ _ _ _ _ _ _ _ _ _ _
   | exact ih3 _ _ _ _ _ _ _ _ _ _ _ _ _
   | exact spec_Common.mono _ _ _
   | exact spec_Lines.mono _ _
   | exact spec_l7Three.mono _ _ _ _
   | exact spec_l7With.mono _ _ _
   | exact LeO.none _
   | refine LeO.ite ?_ ?_
   | refine LeO.bind ?_ (fun _ => ?_)
  ·intro y0 y1 y2 y3 y4 y5 y6 y7 y8 y9
   unfold spec_MergeText.l0
   repeat' first
   | (with_reducible exact ih0 _ _ _ _)
   | (with_reducible exact ih1 _ _ _ _ _ _ _ _ _ _)
   | (with_reducible exact ih2 _ _ _ _ _ _ _ _ _ _ _ _)
   | (with_reducible exact ih3 _ _ _ _ _ _ _ _ _ _ _ _ _)
   | (with_reducible exact spec_Common.mono _ _ _)
   | (with_reducible exact spec_Lines.mono _ _)
   | (with_reducible exact spec_l7Three.mono _ _ _ _)
   | (with_reducible exact spec_l7With.mono _ _ _)
   | (with_reducible exact LeO.refl _)
   | (with_reducible exact LeO.none _)
   | (with_reducible refine LeO.ite ?_ ?_)
   | (with_reducible refine LeO.bind ?_ (fun _ => ?_))
   | exact ih0 _ _ _ _
   | exact ih1 _ _ _ _ _ _ _ _ _ _
   | exact ih2 _ _ _ _ _ _ _ _ _ _ _ _
   | exact ih3 _ _ _ _ _ _ _ _ _ _ _ _ _
   | exact spec_Common.mono _ _ _
   | exact spec_Lines.mono _ _
   | exact spec_l7Three.mono _ _ _ _
   | exact spec_l7With.mono _ _ _
   | exact LeO.none _
   | refine LeO.ite ?_ ?_
   | refine LeO.bind ?_ (fun _ => ?_)
  ·intro y0 y1 y2 y3 y4 y5 y6 y7 y8 y9 y10 y11
   unfold spec_MergeText.j2
   repeat' first
   | (with_reducible exact ih0 _ _ _ _)
   | (with_reducible exact ih1 _ _ _ _ _ _ _ _ _ _)
   | (with_reducible exact ih2 _ _ _ _ _ _ _ _ _ _ _ _)
   | (with_reducible exact ih3 _ _ _ _ _ _ _ _ _ _ _ _ _)
   | (with_reducible exact spec_Common.mono _ _ _)
   | (with_reducible exact spec_Lines.mono _ _)
   | (with_reducible exact spec_l7Three.mono _ _ _ _)
   | (with_reducible exact spec_l7With.mono _ _ _)
   | (with_reducible exact LeO.refl _)
   | (with_reducible exact LeO.none _)
   | (with_reducible refine LeO.ite ?_ ?_)
   | (with_reducible refine LeO.bind ?_ (fun _ => ?_))
   | exact ih0 _ _ _ _
   | exact ih1 _ _ _ _ _ _ _ _ _ _
   | exact ih2 _ _ _ _ _ _ _ _ _ _ _ _
   | exact ih3 _ _ _ _ _ _ _ _ _ _ _ _ _
   | exact spec_Common.mono _ _ _
   | exact spec_Lines.mono _ _
   | exact spec_l7Three.mono _ _ _ _
   | exact spec_l7With.mono _ _ _
   | exact LeO.none _
   | refine LeO.ite ?_ ?_
   | refine LeO.bind ?_ (fun _ => ?_)
  ·intro y0 y1 y2 y3 y4 y5 y6 y7 y8 y9 y10 y11 y12
   unfold spec_MergeText.j3
   repeat' first
   | (with_reducible exact ih0 _ _ _ _)
   | (with_reducible exact ih1 _ _ _ _ _ _ _ _ _ _)
   | (with_reducible exact ih2 _ _ _ _ _ _ _ _ _ _ _ _)
   | (with_reducible exact ih3 _ _ _ _ _ _ _ _ _ _ _ _ _)
   | (with_reducible exact spec_Common.mono _ _ _)
   | (with_reducible exact spec_Lines.mono _ _)
   | (with_reducible exact spec_l7Three.mono _ _ _ _)
   | (with_reducible exact spec_l7With.mono _ _ _)
   | (with_reducible exact LeO.refl _)
   | (with_reducible exact LeO.none _)
   | (with_reducible refine LeO.ite ?_ ?_)
   | (with_reducible refine LeO.bind ?_ (fun _ => ?_))
   | exact ih0 _ _ _ _
   | exact ih1 _ _ _ _ _ _ _ _ _ _
   | exact ih2 _ _ _ _ _ _ _ _ _ _ _ _
   | exact ih3 _ _ _ _ _ _ _ _ _ _ _ _ _
   | exact spec_Common.mono _ _ _
   | exact spec_Lines.mono _ _
   | exact spec_l7Three.mono _ _ _ _
   | exact spec_l7With.mono _ _ _
   | exact LeO.none _
   | refine LeO.ite ?_ ?_
   | refine LeO.bind ?_ (fun _ => ?_)
theorem spec_MergeText.mono:∀ a0 a1 a2 k,LeO (spec_MergeText.f k a0 a1 a2) (spec_MergeText.f (k+1) a0 a1 a2):=by
 intro a0 a1 a2 k;obtain ⟨ih0,ih1,ih2,ih3⟩:=spec_MergeText.mono_l k
 unfold spec_MergeText.f
 repeat' first
   | (with_reducible exact ih0 _ _ _ _)
   | (with_reducible exact ih1 _ _ _ _ _ _ _ _ _ _)
   | (with_reducible exact ih2 _ _ _ _ _ _ _ _ _ _ _ _)
   | (with_reducible exact ih3 _ _ _ _ _ _ _ _ _ _ _ _ _)
   | (with_reducible exact spec_Common.mono _ _ _)
   | (with_reducible exact spec_Lines.mono _ _)
   | (with_reducible exact spec_l7Three.mono _ _ _ _)
   | (with_reducible exact spec_l7With.mono _ _ _)
   | (with_reducible exact LeO.refl _)
   | (with_reducible exact LeO.none _)
   | (with_reducible refine LeO.ite ?_ ?_)
   | (with_reducible refine LeO.bind ?_ (fun _ => ?_))
   | exact ih0 _ _ _ _
   | exact ih1 _ _ _ _ _ _ _ _ _ _
   | exact ih2 _ _ _ _ _ _ _ _ _ _ _ _
   | exact ih3 _ _ _ _ _ _ _ _ _ _ _ _ _
   | exact spec_Common.mono _ _ _
   | exact spec_Lines.mono _ _
   | exact spec_l7Three.mono _ _ _ _
   | exact spec_l7With.mono _ _ _
   | exact LeO.none _
   | refine LeO.ite ?_ ?_
   | refine LeO.bind ?_ (fun _ => ?_)
def spec_MergeText.T21:Bool×List (List Nat×List Nat):=(true,[([],[]),([],[]),([],[]),([0,1,2],[0,1,2]),([],[]),([],[]),([],[]),([4,5,6],[4,5,6]),([],[]),([],[]),([],[]),([8,9,10],[8,9,10]),([3,7,11],[3,7,11]),([12],[12]),([13],[13]),([13],[13]),([14,12,0,1,2,3,4,5,6,7,8,9,10,11,12,13,14],[14]),([15,16,0,1,2,3,4,5,6,7,8,9,10,11,12,13,14,15,16],[15])])
def spec_MergeText.B21:List Nat:=[0,0,0,7,0,0,0,112,0,0,0,1792,4095,8191,16383,16383,32767,131071]
theorem spec_MergeText.tab21:rtab .any (opsOf Tryd.f8 21)=spec_MergeText.T21:=by kernel_rfl
theorem spec_MergeText.bits21:waitsOk spec_MergeText.T21.2 spec_MergeText.B21=true:=by kernel_rfl
set_option maxHeartbeats 8000000 in
set_option maxRecDepth 100000 in
theorem spec_MergeText.calls (k : Nat) (a0 : ByteArray) (a1 : ByteArray) (a2 : ByteArray) (r1 : ByteArray) (r2 : Bool) (w : World) (h : spec_MergeText.f k a0 a1 a2 = some (r1, r2)) :
  Calls Tryd.prog 8 #[.string a0,.string a1,.string a2] w fun e w'=>e = .returned (.tuple #[.string r1,.bool r2])∧Below w.heap.size w w':=by
 have HB:=Aside0.mk (Below.refl w.heap.size w);have H:(if (a0.size:Int)>1500 then (spec_MergeText.j0 k a0 a1 a2 true) else (if (a1.size:Int)>1500 then (spec_MergeText.j0 k a0 a1 a2 true) else (spec_MergeText.j0 k a0 a1 a2 (decide ((a2.size:Int)>1500)))))=some (r1,r2):=h;clear h;have bD:=Aside0.mk H;clear H
 go_enter Tryd.func8,Tryd.ntmps8
 go_upto_region 1 with (fail)
 go_cut [34] (fun v34 wc => ∃ (kq:Nat) (bh:Bool),v34 = .bool bh∧Aside0 (spec_MergeText.j0 kq a0 a1 a2 bh=some (r1,r2))∧Aside0 (kq≤k)∧Aside0 (Below w.heap.size w wc))
 case first =>
  have H:=bD.out;clear bD
  by_cases c5:(a0.size:Int)>1500
  ·rw [if_pos c5] at H
   have aE:decide (1500<(a0.size:Int))=true:=decide_eq_true c5;have aS:decide (1500<a0.size)=true:=decide_eq_true (by omega);clear c5;(first|rw [aE]|(simp only [i64_w,i32_w];rw [aE])|skip);have H':=Aside0.mk H;clear H
   go_wp2
   go_meet
   case rel=>exact ⟨_,(true),Ye1,H',⟨by first|omega|exact Nat.le_refl _⟩,⟨be HB.out⟩⟩
  ·rw [if_neg c5] at H
   have aE:decide (1500<(a0.size:Int))=false:=decide_eq_false c5;have aS:decide (1500<a0.size)=false:=decide_eq_false (by omega);clear c5;(first|rw [aE]|(simp only [i64_w,i32_w];rw [aE])|skip)
   by_cases c6:(a1.size:Int)>1500
   ·rw [if_pos c6] at H
    have aT:decide (1500<(a1.size:Int))=true:=decide_eq_true c6;have aU:decide (1500<a1.size)=true:=decide_eq_true (by omega);clear c6;have H':=Aside0.mk H;clear H
    go_wp2
    go_meet
    case rel=>exact ⟨_,(true),Ye1,H',⟨by first|omega|exact Nat.le_refl _⟩,⟨be HB.out⟩⟩
   ·rw [if_neg c6] at H
    have aT:decide (1500<(a1.size:Int))=false:=decide_eq_false c6;have aU:decide (1500<a1.size)=false:=decide_eq_false (by omega);clear c6;have H':=Aside0.mk H;clear H
    go_wp2
    go_meet
    case rel=>exact ⟨_,(decide ((a2.size:Int)>1500)),Ye1,H',⟨by first|omega|exact Nat.le_refl _⟩,⟨be HB.out⟩⟩
 case rest =>
  clear bD;(try clear p2);(try clear c5);(try clear aE);(try clear aS);(try clear c6);(try clear aT);(try clear aU);obtain ⟨kq,bh,rfl,HA,HJ3,HB⟩:=hcut
  cases kq with
  | zero=>exact absurd HA.out (by simp [spec_MergeText.j0])
  | succ ak =>
   have H:=HA.out;clear HA;simp only [spec_MergeText.j0] at H
   by_cases c7:bh=true
   ·subst c7
    have H1:(some ((⟨#[]⟩:ByteArray),false))=some (r1,r2):=by rw [if_pos rfl] at H;exact H
    clear H;have H:=H1;clear H1;simp only [Option.some.injEq,Prod.mk.injEq] at H;obtain ⟨rfl,rfl⟩:=H
    go_wp2
    go_ret2
    exact ⟨Ye2,be HB.out⟩
   ·replace c7 := Bool.eq_false_iff.mpr c7; subst c7
    have H1:((spec_Lines.f ak a0).bind fun a4=>((spec_Lines.f ak a1).bind fun a6=>((spec_Lines.f ak a2).bind fun a5=>((spec_Common.f ak a4 a6).bind fun af=>((spec_Common.f ak a4 a5).bind fun ad=>(spec_MergeText.l0 ak a4 a6 a5 af ad (⟨#[]⟩:ByteArray) 0 0 0 0))))))=some (r1,r2):=by rw [if_neg (show ¬(false=true) by decide)] at H;exact H
    clear H;have H:=H1;clear H1;replace H:=Option.bind_eq_some_iff.mp H;obtain ⟨a4,A80,H⟩:=H;replace H:((spec_Lines.f ak a1).bind fun a6=>((spec_Lines.f ak a2).bind fun a5=>((spec_Common.f ak a4 a6).bind fun af=>((spec_Common.f ak a4 a5).bind fun ad=>(spec_MergeText.l0 ak a4 a6 a5 af ad (⟨#[]⟩:ByteArray) 0 0 0 0)))))=some (r1,r2):=H;have A8:=Aside0.mk A80;clear A80;replace H:=Option.bind_eq_some_iff.mp H;obtain ⟨a6,A90,H⟩:=H;replace H:((spec_Lines.f ak a2).bind fun a5=>((spec_Common.f ak a4 a6).bind fun af=>((spec_Common.f ak a4 a5).bind fun ad=>(spec_MergeText.l0 ak a4 a6 a5 af ad (⟨#[]⟩:ByteArray) 0 0 0 0))))=some (r1,r2):=H;have A9:=Aside0.mk A90;clear A90;replace H:=Option.bind_eq_some_iff.mp H;obtain ⟨a5,bK,H⟩:=H;replace H:((spec_Common.f ak a4 a6).bind fun af=>((spec_Common.f ak a4 a5).bind fun ad=>(spec_MergeText.l0 ak a4 a6 a5 af ad (⟨#[]⟩:ByteArray) 0 0 0 0)))=some (r1,r2):=H;have A10:=Aside0.mk bK;clear bK;replace H:=Option.bind_eq_some_iff.mp H;obtain ⟨af,bL,H⟩:=H;replace H:((spec_Common.f ak a4 a5).bind fun ad=>(spec_MergeText.l0 ak a4 a6 a5 af ad (⟨#[]⟩:ByteArray) 0 0 0 0))=some (r1,r2):=H;have A11:=Aside0.mk bL;clear bL;replace H:=Option.bind_eq_some_iff.mp H;obtain ⟨ad,bM,H⟩:=H;replace H:(spec_MergeText.l0 ak a4 a6 a5 af ad (⟨#[]⟩:ByteArray) 0 0 0 0)=some (r1,r2):=H;have A12:=Aside0.mk bM;clear bM;have H':=Aside0.mk H;clear H
    go_wp2_with (first|((with_reducible refine gc 24 rfl ?_);refine gl (some 36) _ (#[.string a0]) Tryd.func24 ?_;(with_reducible refine (spec_Lines.calls ak a0 a4 _ A8.out).mono ?_);rintro e w13 ⟨v203,rfl,ho0,hb⟩;refine ⟨_,rfl,?_⟩;refine Ya2 (Kd.R_lower ho0 (below_size (be HB.out))) (below_step (be HB.out) hb) ?_;clear HB;intro aA HB;(try clear hb);(try clear hb2);(try clear hk);(try clear hi);(try clear ho0))|((with_reducible refine gc 24 rfl ?_);refine gl (some 38) _ (#[.string a1]) Tryd.func24 ?_;(with_reducible refine (spec_Lines.calls ak a1 a6 _ A9.out).mono ?_);rintro e w14 ⟨v206,rfl,ho0,hb⟩;refine ⟨_,rfl,?_⟩;refine Ya3 (Kd.R_elder' (kr aA.out) (Kd.R_base ho0) hb) (Kd.R_lower (Kd.R_new' ho0 (Kd.R_lt (kr aA.out))) (below_size (be HB.out))) (below_step (be HB.out) hb) ?_;clear aA HB;intro aA aC HB;(try clear hb);(try clear hb2);(try clear hk);(try clear hi);(try clear ho0))|((with_reducible refine gc 24 rfl ?_);refine gl (some 40) _ (#[.string a2]) Tryd.func24 ?_;(with_reducible refine (spec_Lines.calls ak a2 a5 _ A10.out).mono ?_);rintro e w15 ⟨v209,rfl,ho0,hb⟩;refine ⟨_,rfl,?_⟩;refine Ya4 (Kd.R_elder' (kr aA.out) (Kd.R_base ho0) hb) (Kd.R_elder' (kr aC.out) (Kd.R_base ho0) hb) (Kd.R_lower (Kd.R_new' (Kd.R_new' ho0 (Kd.R_lt (kr aA.out))) (Kd.R_lt (kr aC.out))) (below_size (be HB.out))) (below_step (be HB.out) hb) ?_;clear aA aC HB;intro aA aC aD HB;(try clear hb);(try clear hb2);(try clear hk);(try clear hi);(try clear ho0);obtain ⟨ap,al,bR⟩:=Kd.R_slice aA.out;subst bR;obtain ⟨ax,am,bS⟩:=Kd.R_slice aC.out;subst bS)|((with_reducible refine gc 25 rfl ?_);refine gl (some 43) _ (#[.slice ap a4.length al,.slice ax a6.length am]) Tryd.func25 ?_;(with_reducible refine (spec_Common.calls ak _ _ a4 _ _ a6 af _ ?side1 ?side2 ?side3 ?side4 A11.out).mono ?_);(case side1=>repeat (first|exact (Kd.R_reads' aA.out).2.2|(with_reducible refine Kd.C_alloc ?_ _)|(with_reducible refine Kd.C_drewN ?_ _)|(with_reducible refine Kd.C_drew ?_)));(case side2=>exact (Kd.R_reads' aA.out).2.1);(case side3=>repeat (first|exact (Kd.R_reads' aC.out).2.2|(with_reducible refine Kd.C_alloc ?_ _)|(with_reducible refine Kd.C_drewN ?_ _)|(with_reducible refine Kd.C_drew ?_)));(case side4=>exact (Kd.R_reads' aC.out).2.1);rintro e w18 ⟨aL,rfl,ho0,hb⟩;refine ⟨_,rfl,?_⟩;refine Ya5 (Kd.R_below (kr aA.out) hb) (Kd.R_below (kr aC.out) hb) (Kd.R_below (kr aD.out) hb) (Kd.R_lower ho0 (below_size (be HB.out))) (below_step (be HB.out) hb) ?_;clear aA aC aD HB;intro aA aC aD aV HB;(try clear hb);(try clear hb2);(try clear hk);(try clear hi);(try clear ho0);obtain ⟨ay,an,bT⟩:=Kd.R_slice aD.out;subst bT)|((with_reducible refine gc 25 rfl ?_);refine gl (some 46) _ (#[.slice ap a4.length al,.slice ay a5.length an]) Tryd.func25 ?_;(with_reducible refine (spec_Common.calls ak _ _ a4 _ _ a5 ad _ ?side1 ?side2 ?side3 ?side4 A12.out).mono ?_);(case side1=>repeat (first|exact (Kd.R_reads' aA.out).2.2|(with_reducible refine Kd.C_alloc ?_ _)|(with_reducible refine Kd.C_drewN ?_ _)|(with_reducible refine Kd.C_drew ?_)));(case side2=>exact (Kd.R_reads' aA.out).2.1);(case side3=>repeat (first|exact (Kd.R_reads' aD.out).2.2|(with_reducible refine Kd.C_alloc ?_ _)|(with_reducible refine Kd.C_drewN ?_ _)|(with_reducible refine Kd.C_drew ?_)));(case side4=>exact (Kd.R_reads' aD.out).2.1);rintro e w20 ⟨aM,rfl,ho0,hb⟩;refine ⟨_,rfl,?_⟩;refine Ya6 (Kd.R_below (kr aA.out) hb) (Kd.R_below (kr aC.out) hb) (Kd.R_below (kr aD.out) hb) (Kd.R_elder' (kr aV.out) (Kd.R_base ho0) hb) (Kd.R_lower (Kd.R_new' ho0 (Kd.R_lt (kr aV.out))) (below_size (be HB.out))) (below_step (be HB.out) hb) ?_;clear aA aC aD aV HB;intro aA aC aD aV bU HB;(try clear hb);(try clear hb2);(try clear hk);(try clear hi);(try clear ho0)))
    go_loopg [13,14,15,16,17] ak (fun kq v13 v14 v15 v16 v17 w' => ∃ (ac:ByteArray) (ab:Int) (aa:Int) (a9:Int) (a3:Int),v13 = .string ac∧v14 = .int .i64 ab∧v15 = .int .i64 aa∧v16 = .int .i64 a9∧v17 = .int .i64 a3∧Aside0 (spec_MergeText.l0 kq a4 a6 a5 af ad ac ab aa a9 a3=some (r1,r2))∧Aside0 (kq≤ak)∧Aside0 (Kd.R Kd.string 9 w' w.heap.size (fun k_=>some k_≠((.slice ax a6.length am):Value).ownBlock∧some k_≠((.slice ay a5.length an):Value).ownBlock) (.slice ap a4.length al) a4)∧Aside0 (Kd.R Kd.string 9 w' w.heap.size (fun k_=>some k_≠((.slice ap a4.length al):Value).ownBlock∧some k_≠((.slice ay a5.length an):Value).ownBlock) (.slice ax a6.length am) a6)∧Aside0 (Kd.R Kd.string 9 w' w.heap.size (fun k_=>some k_≠((.slice ap a4.length al):Value).ownBlock∧some k_≠((.slice ax a6.length am):Value).ownBlock) (.slice ay a5.length an) a5)∧Aside0 (Kd.R k63 63 w' w.heap.size (fun k_=>some k_≠(aM:Value).ownBlock) aL af)∧Aside0 (Kd.R k63 63 w' w.heap.size (fun k_=>some k_≠(aL:Value).ownBlock) aM ad)∧Aside0 (Below w.heap.size w w'))
    case atStart=>exact ⟨((⟨#[]⟩:ByteArray)),(0),(0),(0),(0),Ye1,Ye1,Ye1,Ye1,Ye1,H',⟨Nat.le_refl _⟩,⟨by (with_reducible repeat (first|apply Kd.R_alloc|apply Kd.R_drewN|apply Kd.R_drew));exact Kd.R_mono aA.out (fun _ hk=>⟨hk.1.2,hk.2⟩)⟩,⟨by (with_reducible repeat (first|apply Kd.R_alloc|apply Kd.R_drewN|apply Kd.R_drew));exact Kd.R_mono aC.out (fun _ hk=>⟨hk.1.2,hk.2⟩)⟩,⟨by (with_reducible repeat (first|apply Kd.R_alloc|apply Kd.R_drewN|apply Kd.R_drew));exact Kd.R_mono aD.out (fun _ hk=>⟨hk.1.2,hk.2⟩)⟩,⟨by (with_reducible repeat (first|apply Kd.R_alloc|apply Kd.R_drewN|apply Kd.R_drew));exact Kd.R_mono aV.out (fun _ hk=>hk.2)⟩,⟨by (with_reducible repeat (first|apply Kd.R_alloc|apply Kd.R_drewN|apply Kd.R_drew));exact Kd.R_mono bU.out (fun _ hk=>hk.2)⟩,⟨be HB.out⟩⟩
    case round =>
     clear H';(try clear c2);(try clear p2);(try clear c5);(try clear aE);(try clear aS);(try clear c6);(try clear aT);(try clear aU);(try clear c7);(try clear c8);(try clear p2);obtain ⟨ac,ab,aa,a9,a3,rfl,rfl,rfl,rfl,rfl,HA,HK2,ae,ag,ah,ai,aj,HB⟩:=hrel
     cases gk with
     | zero=>exact absurd HA.out (by simp [spec_MergeText.l0])
     | succ k2 =>
      have H:=HA.out;clear HA;simp only [spec_MergeText.l0] at H
      by_cases aF:a3≤(a4.length:Int)
      ·rw [if_pos aF] at H
       have bE:decide (a3≤(a4.length:Int))=true:=decide_eq_true aF;clear aF;have bF:=Aside0.mk H;clear H
       go_upto_if 60 with (fail)
       go_cut [18,19] (fun v18 v19 wc => ∃ (kq:Nat) (a8:Int) (a7:Int),v18 = .int .i64 a8∧v19 = .int .i64 a7∧Aside0 (spec_MergeText.j2 kq a4 a6 a5 af ad ac ab aa a9 a3 a8 a7=some (r1,r2))∧Aside0 (kq≤k2)∧Aside0 (Kd.R Kd.string 9 wc w.heap.size (fun k_=>some k_≠((.slice ax a6.length am):Value).ownBlock∧some k_≠((.slice ay a5.length an):Value).ownBlock) (.slice ap a4.length al) a4)∧Aside0 (Kd.R Kd.string 9 wc w.heap.size (fun k_=>some k_≠((.slice ap a4.length al):Value).ownBlock∧some k_≠((.slice ay a5.length an):Value).ownBlock) (.slice ax a6.length am) a6)∧Aside0 (Kd.R Kd.string 9 wc w.heap.size (fun k_=>some k_≠((.slice ap a4.length al):Value).ownBlock∧some k_≠((.slice ax a6.length am):Value).ownBlock) (.slice ay a5.length an) a5)∧Aside0 (Kd.R k63 63 wc w.heap.size (fun k_=>some k_≠(aM:Value).ownBlock) aL af)∧Aside0 (Kd.R k63 63 wc w.heap.size (fun k_=>some k_≠(aL:Value).ownBlock) aM ad)∧Aside0 (Below w.heap.size w wc))
       case first =>
        have H:=bF.out;clear bF
        by_cases aG:a3<(a4.length:Int)
        ·rw [if_pos aG] at H
         have aI:decide (a3<(a4.length:Int))=true:=decide_eq_true aG;clear aG;(first|rw [aI]|(simp only [i64_w,i32_w];rw [aI])|skip);replace H:=Option.bind_eq_some_iff.mp H;obtain ⟨aK,bN,H⟩:=H;replace H:((spec_l7With.f k2 ad a3).bind fun aH=>(spec_MergeText.j2 k2 a4 a6 a5 af ad ac ab aa a9 a3 aK aH))=some (r1,r2):=H;have A24:=Aside0.mk bN;clear bN;replace H:=Option.bind_eq_some_iff.mp H;obtain ⟨aH,bO,H⟩:=H;replace H:(spec_MergeText.j2 k2 a4 a6 a5 af ad ac ab aa a9 a3 aK aH)=some (r1,r2):=H;have A25:=Aside0.mk bO;clear bO;have H':=Aside0.mk H;clear H;obtain ⟨bV,bW,bX⟩:=Kd.R_slice ai.out;subst bX
         go_wp2_with (first|((with_reducible refine gc 26 rfl ?_);refine gl (some 63) _ (#[.slice bV af.length bW,.int .i64 a3]) Tryd.func26 ?_;(with_reducible refine (spec_l7With.calls k2 _ _ af a3 aK _ ?side1 ?side2 A24.out).mono ?_);(case side1=>repeat (first|exact (Kd.R_reads' ai.out).2.2|(with_reducible refine Kd.C_alloc ?_ _)|(with_reducible refine Kd.C_drewN ?_ _)|(with_reducible refine Kd.C_drew ?_)));(case side2=>exact (Kd.R_reads' ai.out).2.1);rintro e w' ⟨rfl,⟨nd,rfl⟩⟩;refine ⟨_,rfl,?_⟩;obtain ⟨bY,bZ,ca⟩:=Kd.R_slice aj.out;subst ca)|((with_reducible refine gc 26 rfl ?_);refine gl (some 66) _ (#[.slice bY ad.length bZ,.int .i64 a3]) Tryd.func26 ?_;(with_reducible refine (spec_l7With.calls k2 _ _ ad a3 aH _ ?side1 ?side2 A25.out).mono ?_);(case side1=>repeat (first|exact (Kd.R_reads' aj.out).2.2|(with_reducible refine Kd.C_alloc ?_ _)|(with_reducible refine Kd.C_drewN ?_ _)|(with_reducible refine Kd.C_drew ?_)));(case side2=>exact (Kd.R_reads' aj.out).2.1);rintro e w' ⟨rfl,⟨nd,rfl⟩⟩;refine ⟨_,rfl,?_⟩))
         go_meet
         case rel=>exact ⟨_,(aK),(aH),Ye1,Ye1,H',⟨by have:=HJ3.out;have:=HK2.out;first|omega|exact Nat.le_refl _⟩,⟨kr ae.out⟩,⟨kr ag.out⟩,⟨kr ah.out⟩,⟨kr ai.out⟩,⟨kr aj.out⟩,⟨be HB.out⟩⟩
        ·rw [if_neg aG] at H
         have aI:decide (a3<(a4.length:Int))=false:=decide_eq_false aG;clear aG;(first|rw [aI]|(simp only [i64_w,i32_w];rw [aI])|skip);have H':=Aside0.mk H;clear H
         go_wp2
         go_meet
         case rel=>exact ⟨_,((a6.length:Int)),((a5.length:Int)),Ye1,Ye1,H',⟨by have:=HJ3.out;have:=HK2.out;first|omega|exact Nat.le_refl _⟩,⟨kr ae.out⟩,⟨kr ag.out⟩,⟨kr ah.out⟩,⟨kr ai.out⟩,⟨kr aj.out⟩,⟨be HB.out⟩⟩
       case rest =>
        clear bF;(try clear c2);(try clear p2);(try clear c5);(try clear aE);(try clear aS);(try clear c6);(try clear aT);(try clear aU);(try clear c7);(try clear c8);(try clear aF);(try clear bE);(try clear aG);(try clear aI);(try clear c24);(try clear c25);(try clear c26);(try clear p2);obtain ⟨kq,a8,a7,rfl,rfl,HA,HJ21,ae,ag,ah,ai,aj,HB⟩:=hcut
        cases kq with
        | zero=>exact absurd HA.out (by simp [spec_MergeText.j2])
        | succ cc =>
         have H:=HA.out;clear HA;simp only [spec_MergeText.j2] at H;have bG:=Aside0.mk H;clear H
         go_upto_region 20 with (fail)
         go_cut [72] (fun v72 wc => ∃ (kq:Nat) (bi:Bool),v72 = .bool bi∧Aside0 (spec_MergeText.j3 kq a4 a6 a5 af ad ac ab aa a9 a3 a8 a7 bi=some (r1,r2))∧Aside0 (kq≤cc)∧Aside0 (Kd.R Kd.string 9 wc w.heap.size (fun k_=>some k_≠((.slice ax a6.length am):Value).ownBlock∧some k_≠((.slice ay a5.length an):Value).ownBlock) (.slice ap a4.length al) a4)∧Aside0 (Kd.R Kd.string 9 wc w.heap.size (fun k_=>some k_≠((.slice ap a4.length al):Value).ownBlock∧some k_≠((.slice ay a5.length an):Value).ownBlock) (.slice ax a6.length am) a6)∧Aside0 (Kd.R Kd.string 9 wc w.heap.size (fun k_=>some k_≠((.slice ap a4.length al):Value).ownBlock∧some k_≠((.slice ax a6.length am):Value).ownBlock) (.slice ay a5.length an) a5)∧Aside0 (Kd.R k63 63 wc w.heap.size (fun k_=>some k_≠(aM:Value).ownBlock) aL af)∧Aside0 (Kd.R k63 63 wc w.heap.size (fun k_=>some k_≠(aL:Value).ownBlock) aM ad)∧Aside0 (Below w.heap.size w wc))
         case first =>
          have H:=bG.out;clear bG
          by_cases aJ:a8<0
          ·rw [if_pos aJ] at H
           have aN:decide (a8<0)=true:=decide_eq_true aJ;clear aJ;(first|rw [aN]|(simp only [i64_w,i32_w];rw [aN])|skip);have H':=Aside0.mk H;clear H
           go_wp2
           go_meet
           case rel=>exact ⟨_,(true),Ye1,H',⟨by have:=HJ3.out;have:=HK2.out;have:=HJ21.out;first|omega|exact Nat.le_refl _⟩,⟨kr ae.out⟩,⟨kr ag.out⟩,⟨kr ah.out⟩,⟨kr ai.out⟩,⟨kr aj.out⟩,⟨be HB.out⟩⟩
          ·rw [if_neg aJ] at H
           have aN:decide (a8<0)=false:=decide_eq_false aJ;clear aJ;(first|rw [aN]|(simp only [i64_w,i32_w];rw [aN])|skip);have H':=Aside0.mk H;clear H
           go_wp2
           go_meet
           case rel=>exact ⟨_,(decide (a7<0)),Ye1,H',⟨by have:=HJ3.out;have:=HK2.out;have:=HJ21.out;first|omega|exact Nat.le_refl _⟩,⟨kr ae.out⟩,⟨kr ag.out⟩,⟨kr ah.out⟩,⟨kr ai.out⟩,⟨kr aj.out⟩,⟨be HB.out⟩⟩
         case rest =>
          clear bG;(try clear c2);(try clear p2);(try clear c5);(try clear aE);(try clear aS);(try clear c6);(try clear aT);(try clear aU);(try clear c7);(try clear c8);(try clear aF);(try clear bE);(try clear aG);(try clear aI);(try clear c24);(try clear c25);(try clear c26);(try clear aJ);(try clear aN);(try clear p2);obtain ⟨kq,bi,rfl,HA,HJ27,ae,ag,ah,ai,aj,HB⟩:=hcut
          cases kq with
          | zero=>exact absurd HA.out (by simp [spec_MergeText.j3])
          | succ aq =>
           have H:=HA.out;clear HA;simp only [spec_MergeText.j3] at H
           by_cases bj:bi=true
           ·subst bj
            have H1:(spec_MergeText.l0 aq a4 a6 a5 af ad ac ab aa a9 (wrap64 (a3+1)))=some (r1,r2):=by rw [if_pos rfl] at H;exact H
            clear H;have H:=H1;clear H1;have H':=Aside0.mk H;clear H
            go_wp2
            go_roundg aq
            case measure=>have:=HJ3.out;have:=HK2.out;have:=HJ21.out;have:=HJ27.out;omega
            case rel=>exact ⟨(ac),(ab),(aa),(a9),(wrap64 (a3+1)),Ye1,Ye1,Ye1,Ye1,Ye1,H',⟨by have:=HJ3.out;have:=HK2.out;have:=HJ21.out;have:=HJ27.out;omega⟩,⟨kr ae.out⟩,⟨kr ag.out⟩,⟨kr ah.out⟩,⟨kr ai.out⟩,⟨kr aj.out⟩,⟨be HB.out⟩⟩
           ·replace bj := Bool.eq_false_iff.mpr bj; subst bj
            have H1:(if 0≤ab then (if ab≤a3 then (if a3≤(a4.length:Int) then (if 0≤aa then (if aa≤a8 then (if a8≤(a6.length:Int) then (if 0≤a9 then (if a9≤a7 then (if a7≤(a5.length:Int) then ((spec_l7Three.f aq ((a4.take (a3:Int).toNat).drop (ab:Int).toNat) ((a6.take (a8:Int).toNat).drop (aa:Int).toNat) ((a5.take (a7:Int).toNat).drop (a9:Int).toNat)).bind fun bt231=>(if bt231.2=true then (if ac.size+bt231.1.size≤9223372036854775807 then (if a3<(a4.length:Int) then (if 0≤a3 then (if (ac++bt231.1).size+(rdOf ByteArray.empty a4 a3).size≤9223372036854775807 then (spec_MergeText.l0 aq a4 a6 a5 af ad ((ac++bt231.1)++(rdOf ByteArray.empty a4 a3)) (wrap64 (a3+1)) (wrap64 (a8+1)) (wrap64 (a7+1)) (wrap64 (a3+1))) else (none)) else (none)) else (spec_MergeText.l0 aq a4 a6 a5 af ad (ac++bt231.1) (wrap64 (a3+1)) (wrap64 (a8+1)) (wrap64 (a7+1)) (wrap64 (a3+1)))) else (none)) else (some ((⟨#[]⟩:ByteArray),false)))) else (none)) else (none)) else (none)) else (none)) else (none)) else (none)) else (none)) else (none)) else (none))=some (r1,r2):=by rw [if_neg (show ¬(false=true) by decide)] at H;exact H
            clear H;have H:=H1;clear H1
            by_cases aW:0≤ab
            ·rw [if_pos aW] at H
             have c31b0:=eq_true aW;have c31b1:decide (0≤ab)=true:=decide_eq_true aW;clear aW
             by_cases aX:ab≤a3
             ·rw [if_pos aX] at H
              have c32b0:=eq_true aX;have c32b1:decide (ab≤a3)=true:=decide_eq_true aX;clear aX
              by_cases aY:a3≤(a4.length:Int)
              ·rw [if_pos aY] at H
               have c33b0:=eq_true aY;have c33b1:decide (a3≤(a4.length:Int))=true:=decide_eq_true aY;clear aY
               obtain ⟨ao,aZ⟩:∃ y_:List ByteArray,y_=((a4.take (a3:Int).toNat).drop (ab:Int).toNat):=⟨_,rfl⟩
               replace H:(if 0≤aa then (if aa≤a8 then (if a8≤(a6.length:Int) then (if 0≤a9 then (if a9≤a7 then (if a7≤(a5.length:Int) then ((spec_l7Three.f aq ao ((a6.take (a8:Int).toNat).drop (aa:Int).toNat) ((a5.take (a7:Int).toNat).drop (a9:Int).toNat)).bind fun bt231=>(if bt231.2=true then (if ac.size+bt231.1.size≤9223372036854775807 then (if a3<(a4.length:Int) then (if 0≤a3 then (if (ac++bt231.1).size+(rdOf ByteArray.empty a4 a3).size≤9223372036854775807 then (spec_MergeText.l0 aq a4 a6 a5 af ad ((ac++bt231.1)++(rdOf ByteArray.empty a4 a3)) (wrap64 (a3+1)) (wrap64 (a8+1)) (wrap64 (a7+1)) (wrap64 (a3+1))) else (none)) else (none)) else (spec_MergeText.l0 aq a4 a6 a5 af ad (ac++bt231.1) (wrap64 (a3+1)) (wrap64 (a8+1)) (wrap64 (a7+1)) (wrap64 (a3+1)))) else (none)) else (some ((⟨#[]⟩:ByteArray),false)))) else (none)) else (none)) else (none)) else (none)) else (none)) else (none))=some (r1,r2):=by first|(rw [aZ];with_reducible exact H)|(have H2_:=(Option.bind_some _ _).symm.trans H;rw [aZ];with_reducible exact H2_)|(have H2_:=(Option.bind_some _ _).symm.trans H;with_reducible exact H2_)|with_reducible exact H|(rw [aZ];exact H)|exact H
               have aO:=Aside0.mk aZ;clear aZ
               by_cases b0:0≤aa
               ·rw [if_pos b0] at H
                have c34b0:=eq_true b0;have c34b1:decide (0≤aa)=true:=decide_eq_true b0;clear b0
                by_cases b1:aa≤a8
                ·rw [if_pos b1] at H
                 have c35b0:=eq_true b1;have c35b1:decide (aa≤a8)=true:=decide_eq_true b1;clear b1
                 by_cases b2:a8≤(a6.length:Int)
                 ·rw [if_pos b2] at H
                  have c36b0:=eq_true b2;have c36b1:decide (a8≤(a6.length:Int))=true:=decide_eq_true b2;clear b2
                  obtain ⟨ar,b3⟩:∃ y_:List ByteArray,y_=((a6.take (a8:Int).toNat).drop (aa:Int).toNat):=⟨_,rfl⟩
                  replace H:(if 0≤a9 then (if a9≤a7 then (if a7≤(a5.length:Int) then ((spec_l7Three.f aq ao ar ((a5.take (a7:Int).toNat).drop (a9:Int).toNat)).bind fun bt231=>(if bt231.2=true then (if ac.size+bt231.1.size≤9223372036854775807 then (if a3<(a4.length:Int) then (if 0≤a3 then (if (ac++bt231.1).size+(rdOf ByteArray.empty a4 a3).size≤9223372036854775807 then (spec_MergeText.l0 aq a4 a6 a5 af ad ((ac++bt231.1)++(rdOf ByteArray.empty a4 a3)) (wrap64 (a3+1)) (wrap64 (a8+1)) (wrap64 (a7+1)) (wrap64 (a3+1))) else (none)) else (none)) else (spec_MergeText.l0 aq a4 a6 a5 af ad (ac++bt231.1) (wrap64 (a3+1)) (wrap64 (a8+1)) (wrap64 (a7+1)) (wrap64 (a3+1)))) else (none)) else (some ((⟨#[]⟩:ByteArray),false)))) else (none)) else (none)) else (none))=some (r1,r2):=by first|(rw [b3];with_reducible exact H)|(have H2_:=(Option.bind_some _ _).symm.trans H;rw [b3];with_reducible exact H2_)|(have H2_:=(Option.bind_some _ _).symm.trans H;with_reducible exact H2_)|with_reducible exact H|(rw [b3];exact H)|exact H
                  have aP:=Aside0.mk b3;clear b3
                  by_cases b4:0≤a9
                  ·rw [if_pos b4] at H
                   have c37b0:=eq_true b4;have c37b1:decide (0≤a9)=true:=decide_eq_true b4;clear b4
                   by_cases b5:a9≤a7
                   ·rw [if_pos b5] at H
                    have c38b0:=eq_true b5;have c38b1:decide (a9≤a7)=true:=decide_eq_true b5;clear b5
                    by_cases b6:a7≤(a5.length:Int)
                    ·rw [if_pos b6] at H
                     have c39b0:=eq_true b6;have c39b1:decide (a7≤(a5.length:Int))=true:=decide_eq_true b6;clear b6
                     obtain ⟨az,b7⟩:∃ y_:List ByteArray,y_=((a5.take (a7:Int).toNat).drop (a9:Int).toNat):=⟨_,rfl⟩
                     replace H:((spec_l7Three.f aq ao ar az).bind fun bt231=>(if bt231.2=true then (if ac.size+bt231.1.size≤9223372036854775807 then (if a3<(a4.length:Int) then (if 0≤a3 then (if (ac++bt231.1).size+(rdOf ByteArray.empty a4 a3).size≤9223372036854775807 then (spec_MergeText.l0 aq a4 a6 a5 af ad ((ac++bt231.1)++(rdOf ByteArray.empty a4 a3)) (wrap64 (a3+1)) (wrap64 (a8+1)) (wrap64 (a7+1)) (wrap64 (a3+1))) else (none)) else (none)) else (spec_MergeText.l0 aq a4 a6 a5 af ad (ac++bt231.1) (wrap64 (a3+1)) (wrap64 (a8+1)) (wrap64 (a7+1)) (wrap64 (a3+1)))) else (none)) else (some ((⟨#[]⟩:ByteArray),false))))=some (r1,r2):=by first|(rw [b7];with_reducible exact H)|(have H2_:=(Option.bind_some _ _).symm.trans H;rw [b7];with_reducible exact H2_)|(have H2_:=(Option.bind_some _ _).symm.trans H;with_reducible exact H2_)|with_reducible exact H|(rw [b7];exact H)|exact H
                     have aQ:=Aside0.mk b7;clear b7;replace H:=Option.bind_eq_some_iff.mp H;obtain ⟨⟨aB,bP⟩,bQ,H⟩:=H;replace H:(if bP=true then (if ac.size+aB.size≤9223372036854775807 then (if a3<(a4.length:Int) then (if 0≤a3 then (if (ac++aB).size+(rdOf ByteArray.empty a4 a3).size≤9223372036854775807 then (spec_MergeText.l0 aq a4 a6 a5 af ad ((ac++aB)++(rdOf ByteArray.empty a4 a3)) (wrap64 (a3+1)) (wrap64 (a8+1)) (wrap64 (a7+1)) (wrap64 (a3+1))) else (none)) else (none)) else (spec_MergeText.l0 aq a4 a6 a5 af ad (ac++aB) (wrap64 (a3+1)) (wrap64 (a8+1)) (wrap64 (a7+1)) (wrap64 (a3+1)))) else (none)) else (some ((⟨#[]⟩:ByteArray),false)))=some (r1,r2):=H;have bH:=Aside0.mk bQ;clear bQ
                     by_cases bm:bP=true
                     ·subst bm
                      have H1:(if ac.size+aB.size≤9223372036854775807 then (if a3<(a4.length:Int) then (if 0≤a3 then (if (ac++aB).size+(rdOf ByteArray.empty a4 a3).size≤9223372036854775807 then (spec_MergeText.l0 aq a4 a6 a5 af ad ((ac++aB)++(rdOf ByteArray.empty a4 a3)) (wrap64 (a3+1)) (wrap64 (a8+1)) (wrap64 (a7+1)) (wrap64 (a3+1))) else (none)) else (none)) else (spec_MergeText.l0 aq a4 a6 a5 af ad (ac++aB) (wrap64 (a3+1)) (wrap64 (a8+1)) (wrap64 (a7+1)) (wrap64 (a3+1)))) else (none))=some (r1,r2):=by rw [if_pos rfl] at H;exact H
                      clear H;have H:=H1;clear H1
                      by_cases b8:ac.size+aB.size≤9223372036854775807
                      ·rw [if_pos b8] at H
                       have c42b0:=eq_true b8;have c42b1:decide (ac.size+aB.size≤9223372036854775807)=true:=decide_eq_true b8
                       try have c42b2:(9223372036854775807<ac.size+aB.size)=False:=eq_false (Nat.not_lt.2 b8)
                       by_cases aR:a3<(a4.length:Int)
                       ·rw [if_pos aR] at H
                        have cd:decide (a3<(a4.length:Int))=true:=decide_eq_true aR;clear aR
                        by_cases bn:0≤a3
                        ·rw [if_pos bn] at H
                         have c44b0:decide (0≤a3)=true:=decide_eq_true bn;clear bn
                         by_cases b9:(ac++aB).size+(rdOf ByteArray.empty a4 a3).size≤9223372036854775807
                         ·rw [if_pos b9] at H
                          have c45b0:=eq_true b9;have c45b1:decide ((ac++aB).size+(rdOf ByteArray.empty a4 a3).size≤9223372036854775807)=true:=decide_eq_true b9
                          try have c45b2:(9223372036854775807<(ac++aB).size+(rdOf ByteArray.empty a4 a3).size)=False:=eq_false (Nat.not_lt.2 b9)
                          have H':=Aside0.mk H;clear H
                          try go_wp2
                          refine Ya6 (Kd.R_drew ae.out) (Kd.R_drew ag.out) (Kd.R_drew ah.out) (Kd.R_drew ai.out) (Kd.R_drew aj.out) (below_drew1 HB.out) ?_;clear ae ag ah ai aj HB;intro ae ag ah ai aj HB;have q47:(a3:Int)≤((a4.length:Int):Int):=oda;obtain ⟨i047,hi047,_,hsz47,_⟩:=info_parts info9;have hroom47:a4.length≤al:=(Kd.R_reads' ae.out).2.1;have hC47:Kd.C Kd.string _ ap a4.length a4:=(Kd.R_reads' ae.out).2.2;have ql47:(ab:Int)≤(a3:Int):=oda;have ce:(0:Int)≤(ab:Int):=oda;have hcut47:=cut_mid (P:=Tryd.prog) 29 9 .i64 .i64 Tryd.underlying29 hi047 1 hsz47 ap a4.length al ab a3 ce ql47 q47 hroom47;have hr47:=Kd.C_mid (lo:=(ab:Int).toNat) (hi:=(a3:Int).toNat) (c:=al) hC47 (by omega) (by omega) hroom47
                          obtain ⟨A47,hA47⟩:∃ A1,A1=(if al=(ab:Int).toNat then ap else (ap:Option Addr).map (·.add ((ab:Int).toNat*1))):=⟨_,rfl⟩
                          obtain ⟨c47,hc47⟩:∃ c1,c1=al - (ab:Int).toNat:=⟨_,rfl⟩
                          have bo:ao.length=(a3:Int).toNat - (ab:Int).toNat:=(by rw [aO.out,List.length_drop,List.length_take] <;> omega)
                          rw [show ((a4).take (a3:Int).toNat).drop (ab:Int).toNat=ao from aO.out.symm] at hr47
                          replace hr47:Kd.C Kd.string _ A47 ao.length ao:=(by rw [hA47];exact hr47)
                          rw [←bo,←hA47,←hc47] at hcut47
                          have au:=Aside0.mk hr47;have ba:=Aside0.mk (show ao.length≤c47 from by rw [bo,hc47];exact Nat.sub_le_sub_right (Nat.le_trans (by omega) hroom47) _);clear hr47 hC47 hroom47 hi047 hsz47 hc47;have KY47:=Aside0.mk bo;have KA47:=Aside0.mk hA47;clear bo hA47;have KL47:=Aside0.mk (show (a3:Int).toNat≤a4.length from by omega);have KM47:=Aside0.mk (show (ab:Int).toNat≤(a3:Int).toNat from by omega);replace q47:=eq_true q47;have q48:(a8:Int)≤((a6.length:Int):Int):=oda;obtain ⟨i048,hi048,_,hsz48,_⟩:=info_parts info9;have hroom48:a6.length≤am:=(Kd.R_reads' ag.out).2.1;have hC48:Kd.C Kd.string _ ax a6.length a6:=(Kd.R_reads' ag.out).2.2;have ql48:(aa:Int)≤(a8:Int):=oda;have cf:(0:Int)≤(aa:Int):=oda;have hcut48:=cut_mid (P:=Tryd.prog) 29 9 .i64 .i64 Tryd.underlying29 hi048 1 hsz48 ax a6.length am aa a8 cf ql48 q48 hroom48;have hr48:=Kd.C_mid (lo:=(aa:Int).toNat) (hi:=(a8:Int).toNat) (c:=am) hC48 (by omega) (by omega) hroom48
                          obtain ⟨A48,hA48⟩:∃ A1,A1=(if am=(aa:Int).toNat then ax else (ax:Option Addr).map (·.add ((aa:Int).toNat*1))):=⟨_,rfl⟩
                          obtain ⟨c48,hc48⟩:∃ c1,c1=am - (aa:Int).toNat:=⟨_,rfl⟩
                          have bq:ar.length=(a8:Int).toNat - (aa:Int).toNat:=(by rw [aP.out,List.length_drop,List.length_take] <;> omega)
                          rw [show ((a6).take (a8:Int).toNat).drop (aa:Int).toNat=ar from aP.out.symm] at hr48
                          replace hr48:Kd.C Kd.string _ A48 ar.length ar:=(by rw [hA48];exact hr48)
                          rw [←bq,←hA48,←hc48] at hcut48
                          have av:=Aside0.mk hr48;have bd:=Aside0.mk (show ar.length≤c48 from by rw [bq,hc48];exact Nat.sub_le_sub_right (Nat.le_trans (by omega) hroom48) _);clear hr48 hC48 hroom48 hi048 hsz48 hc48;have KY48:=Aside0.mk bq;have KA48:=Aside0.mk hA48;clear bq hA48;have KL48:=Aside0.mk (show (a8:Int).toNat≤a6.length from by omega);have KM48:=Aside0.mk (show (aa:Int).toNat≤(a8:Int).toNat from by omega);replace q48:=eq_true q48;have q49:(a7:Int)≤((a5.length:Int):Int):=oda;obtain ⟨i049,hi049,_,hsz49,_⟩:=info_parts info9;have hroom49:a5.length≤an:=(Kd.R_reads' ah.out).2.1;have hC49:Kd.C Kd.string _ ay a5.length a5:=(Kd.R_reads' ah.out).2.2;have ql49:(a9:Int)≤(a7:Int):=oda;have cg:(0:Int)≤(a9:Int):=oda;have hcut49:=cut_mid (P:=Tryd.prog) 29 9 .i64 .i64 Tryd.underlying29 hi049 1 hsz49 ay a5.length an a9 a7 cg ql49 q49 hroom49;have hr49:=Kd.C_mid (lo:=(a9:Int).toNat) (hi:=(a7:Int).toNat) (c:=an) hC49 (by omega) (by omega) hroom49
                          obtain ⟨A49,hA49⟩:∃ A1,A1=(if an=(a9:Int).toNat then ay else (ay:Option Addr).map (·.add ((a9:Int).toNat*1))):=⟨_,rfl⟩
                          obtain ⟨c49,hc49⟩:∃ c1,c1=an - (a9:Int).toNat:=⟨_,rfl⟩
                          have bu:az.length=(a7:Int).toNat - (a9:Int).toNat:=(by rw [aQ.out,List.length_drop,List.length_take] <;> omega)
                          rw [show ((a5).take (a7:Int).toNat).drop (a9:Int).toNat=az from aQ.out.symm] at hr49
                          replace hr49:Kd.C Kd.string _ A49 az.length az:=(by rw [hA49];exact hr49)
                          rw [←bu,←hA49,←hc49] at hcut49
                          have aw:=Aside0.mk hr49;have bg:=Aside0.mk (show az.length≤c49 from by rw [bu,hc49];exact Nat.sub_le_sub_right (Nat.le_trans (by omega) hroom49) _);clear hr49 hC49 hroom49 hi049 hsz49 hc49;have KY49:=Aside0.mk bu;have KA49:=Aside0.mk hA49;clear bu hA49;have KL49:=Aside0.mk (show (a7:Int).toNat≤a5.length from by omega);have KM49:=Aside0.mk (show (a9:Int).toNat≤(a7:Int).toNat from by omega);replace q49:=eq_true q49;refine start_ (n:=18) (S:=fun w'=>True) (ds:=[]) (fb 18 0) (by kernel_rfl) rfl rfl trivial (fun hHeld => ?_);refine with_tabW spec_MergeText.tab21 spec_MergeText.bits21 (fun HT_ HW_ => ?_);generalize wc.drew=w46 at ae ag ah ai aj HB au av aw hHeld ⊢; refine pu 0 74 (fb 18 1) HT_ ?_;refine pu 1 75 (fb 18 3) HT_ ?_;refine pu 2 76 (fb 18 7) HT_ ?_;refine pu 3 77 (fb 18 15) HT_ ?_;refine pu 4 78 (fb 18 31) HT_ ?_;refine pu 5 79 (fb 18 63) HT_ ?_;refine pu 6 80 (fb 18 127) HT_ ?_;refine pu 7 81 (fb 18 255) HT_ ?_;refine pu 8 82 (fb 18 511) HT_ ?_;refine pu 9 83 (fb 18 1023) HT_ ?_;refine pu 10 84 (fb 18 2047) HT_ ?_;refine pu 11 85 (fb 18 4095) HT_ ?_;refine o1 12 (some 86) (fb 18 8191) HT_ (fun K hK => ?_);refine gs _ (#[.slice A47 ao.length c47,.slice A48 ar.length c48,.slice A49 az.length c49]) Tryd.func27 ?_;(with_reducible refine (spec_l7Three.calls aq _ _ ao _ _ ar _ _ az aB true _ ?side1 ?side2 ?side3 ?side4 ?side5 ?side6 bH.out).mono ?_);(case side1=>repeat (first|exact (by repeat (first|(with_reducible exact au.out)|(with_reducible refine Kd.C_alloc ?_ _)|(with_reducible refine Kd.C_drewN ?_ _)|(with_reducible refine Kd.C_drew ?_)|exact au.out))|(with_reducible refine Kd.C_alloc ?_ _)|(with_reducible refine Kd.C_drewN ?_ _)|(with_reducible refine Kd.C_drew ?_)));(case side2=>exact ba.out);(case side3=>repeat (first|exact (by repeat (first|(with_reducible exact av.out)|(with_reducible refine Kd.C_alloc ?_ _)|(with_reducible refine Kd.C_drewN ?_ _)|(with_reducible refine Kd.C_drew ?_)|exact av.out))|(with_reducible refine Kd.C_alloc ?_ _)|(with_reducible refine Kd.C_drewN ?_ _)|(with_reducible refine Kd.C_drew ?_)));(case side4=>exact bd.out);(case side5=>repeat (first|exact (by repeat (first|(with_reducible exact aw.out)|(with_reducible refine Kd.C_alloc ?_ _)|(with_reducible refine Kd.C_drewN ?_ _)|(with_reducible refine Kd.C_drew ?_)|exact aw.out))|(with_reducible refine Kd.C_alloc ?_ _)|(with_reducible refine Kd.C_drewN ?_ _)|(with_reducible refine Kd.C_drew ?_)));(case side6=>exact bg.out);rintro e w50 ⟨rfl,hb⟩;refine ⟨_,rfl,?_⟩;refine Ya9 (Kd.R_below (kr ae.out) hb) (Kd.R_below (kr ag.out) hb) (Kd.R_below (kr ah.out) hb) (Kd.R_below (kr ai.out) hb) (Kd.R_below (kr aj.out) hb) (Kd.C_below (by repeat (first|(with_reducible exact au.out)|(with_reducible refine Kd.C_alloc ?_ _)|(with_reducible refine Kd.C_drewN ?_ _)|(with_reducible refine Kd.C_drew ?_)|exact au.out)) hb) (Kd.C_below (by repeat (first|(with_reducible exact av.out)|(with_reducible refine Kd.C_alloc ?_ _)|(with_reducible refine Kd.C_drewN ?_ _)|(with_reducible refine Kd.C_drew ?_)|exact av.out)) hb) (Kd.C_below (by repeat (first|(with_reducible exact aw.out)|(with_reducible refine Kd.C_alloc ?_ _)|(with_reducible refine Kd.C_drewN ?_ _)|(with_reducible refine Kd.C_drew ?_)|exact aw.out)) hb) (below_step (be HB.out) hb) ?_;clear ae ag ah ai aj au av aw HB;intro ae ag ah ai aj au av aw HB;(try clear hb);(try clear hb2);(try clear hk);(try clear hi);refine hK.out _ _ trivial (fun hHeld => ?_);clear hK K;refine nm 86 ?_;refine pu 13 73 (fb 18 16383) HT_ ?_;refine pu 14 87 (fb 18 32767) HT_ ?_;refine pu 15 88 (fb 18 65535) HT_ ?_;refine pu 16 20 (fb 18 131071) HT_ ?_;refine pu 17 21 (fb 18 262143) HT_ ?_;refine done_ (done_of HT_.out (by kernel_rfl)) ?_;have bI:0≤(a3:Int):=oda;have bJ:a3<(a4.length:Int):=oda;obtain ⟨ad233,ch,co⟩:=Kd.at_string (Kd.R_reads' ae.out).2.2 a3 bI bJ
                          cases ch
                          replace bI:=eq_true bI;replace bJ:=eq_true bJ
                          try go_wp2
                          go_roundg aq
                          case measure=>have:=HJ3.out;have:=HK2.out;have:=HJ21.out;have:=HJ27.out;omega
                          case rel=>exact ⟨((ac++aB)++(rdOf ByteArray.empty a4 a3)),(wrap64 (a3+1)),(wrap64 (a8+1)),(wrap64 (a7+1)),(wrap64 (a3+1)),Ye1,Ye1,Ye1,Ye1,Ye1,H',⟨by have:=HJ3.out;have:=HK2.out;have:=HJ21.out;have:=HJ27.out;omega⟩,⟨kr ae.out⟩,⟨kr ag.out⟩,⟨kr ah.out⟩,⟨kr ai.out⟩,⟨kr aj.out⟩,⟨be HB.out⟩⟩
                         ·rw [if_neg b9] at H
                          exact absurd H (by simp)
                        ·rw [if_neg bn] at H
                         exact absurd H (by simp)
                       ·rw [if_neg aR] at H
                        have cd:decide (a3<(a4.length:Int))=false:=decide_eq_false aR;clear aR;have H':=Aside0.mk H;clear H
                        try go_wp2
                        refine Ya6 (Kd.R_drew ae.out) (Kd.R_drew ag.out) (Kd.R_drew ah.out) (Kd.R_drew ai.out) (Kd.R_drew aj.out) (below_drew1 HB.out) ?_;clear ae ag ah ai aj HB;intro ae ag ah ai aj HB;have q52:(a3:Int)≤((a4.length:Int):Int):=oda;obtain ⟨i052,hi052,_,hsz52,_⟩:=info_parts info9;have hroom52:a4.length≤al:=(Kd.R_reads' ae.out).2.1;have hC52:Kd.C Kd.string _ ap a4.length a4:=(Kd.R_reads' ae.out).2.2;have ql52:(ab:Int)≤(a3:Int):=oda;have ci:(0:Int)≤(ab:Int):=oda;have hcut52:=cut_mid (P:=Tryd.prog) 29 9 .i64 .i64 Tryd.underlying29 hi052 1 hsz52 ap a4.length al ab a3 ci ql52 q52 hroom52;have hr52:=Kd.C_mid (lo:=(ab:Int).toNat) (hi:=(a3:Int).toNat) (c:=al) hC52 (by omega) (by omega) hroom52
                        obtain ⟨A52,hA52⟩:∃ A1,A1=(if al=(ab:Int).toNat then ap else (ap:Option Addr).map (·.add ((ab:Int).toNat*1))):=⟨_,rfl⟩
                        obtain ⟨c52,hc52⟩:∃ c1,c1=al - (ab:Int).toNat:=⟨_,rfl⟩
                        have bv:ao.length=(a3:Int).toNat - (ab:Int).toNat:=(by rw [aO.out,List.length_drop,List.length_take] <;> omega)
                        rw [show ((a4).take (a3:Int).toNat).drop (ab:Int).toNat=ao from aO.out.symm] at hr52
                        replace hr52:Kd.C Kd.string _ A52 ao.length ao:=(by rw [hA52];exact hr52)
                        rw [←bv,←hA52,←hc52] at hcut52
                        have au:=Aside0.mk hr52;have ba:=Aside0.mk (show ao.length≤c52 from by rw [bv,hc52];exact Nat.sub_le_sub_right (Nat.le_trans (by omega) hroom52) _);clear hr52 hC52 hroom52 hi052 hsz52 hc52;have KY52:=Aside0.mk bv;have KA52:=Aside0.mk hA52;clear bv hA52;have KL52:=Aside0.mk (show (a3:Int).toNat≤a4.length from by omega);have KM52:=Aside0.mk (show (ab:Int).toNat≤(a3:Int).toNat from by omega);replace q52:=eq_true q52;have q53:(a8:Int)≤((a6.length:Int):Int):=oda;obtain ⟨i053,hi053,_,hsz53,_⟩:=info_parts info9;have hroom53:a6.length≤am:=(Kd.R_reads' ag.out).2.1;have hC53:Kd.C Kd.string _ ax a6.length a6:=(Kd.R_reads' ag.out).2.2;have ql53:(aa:Int)≤(a8:Int):=oda;have cj:(0:Int)≤(aa:Int):=oda;have hcut53:=cut_mid (P:=Tryd.prog) 29 9 .i64 .i64 Tryd.underlying29 hi053 1 hsz53 ax a6.length am aa a8 cj ql53 q53 hroom53;have hr53:=Kd.C_mid (lo:=(aa:Int).toNat) (hi:=(a8:Int).toNat) (c:=am) hC53 (by omega) (by omega) hroom53
                        obtain ⟨A53,hA53⟩:∃ A1,A1=(if am=(aa:Int).toNat then ax else (ax:Option Addr).map (·.add ((aa:Int).toNat*1))):=⟨_,rfl⟩
                        obtain ⟨c53,hc53⟩:∃ c1,c1=am - (aa:Int).toNat:=⟨_,rfl⟩
                        have bw:ar.length=(a8:Int).toNat - (aa:Int).toNat:=(by rw [aP.out,List.length_drop,List.length_take] <;> omega)
                        rw [show ((a6).take (a8:Int).toNat).drop (aa:Int).toNat=ar from aP.out.symm] at hr53
                        replace hr53:Kd.C Kd.string _ A53 ar.length ar:=(by rw [hA53];exact hr53)
                        rw [←bw,←hA53,←hc53] at hcut53
                        have av:=Aside0.mk hr53;have bd:=Aside0.mk (show ar.length≤c53 from by rw [bw,hc53];exact Nat.sub_le_sub_right (Nat.le_trans (by omega) hroom53) _);clear hr53 hC53 hroom53 hi053 hsz53 hc53;have KY53:=Aside0.mk bw;have KA53:=Aside0.mk hA53;clear bw hA53;have KL53:=Aside0.mk (show (a8:Int).toNat≤a6.length from by omega);have KM53:=Aside0.mk (show (aa:Int).toNat≤(a8:Int).toNat from by omega);replace q53:=eq_true q53;have q54:(a7:Int)≤((a5.length:Int):Int):=oda;obtain ⟨i054,hi054,_,hsz54,_⟩:=info_parts info9;have hroom54:a5.length≤an:=(Kd.R_reads' ah.out).2.1;have hC54:Kd.C Kd.string _ ay a5.length a5:=(Kd.R_reads' ah.out).2.2;have ql54:(a9:Int)≤(a7:Int):=oda;have ck:(0:Int)≤(a9:Int):=oda;have hcut54:=cut_mid (P:=Tryd.prog) 29 9 .i64 .i64 Tryd.underlying29 hi054 1 hsz54 ay a5.length an a9 a7 ck ql54 q54 hroom54;have hr54:=Kd.C_mid (lo:=(a9:Int).toNat) (hi:=(a7:Int).toNat) (c:=an) hC54 (by omega) (by omega) hroom54
                        obtain ⟨A54,hA54⟩:∃ A1,A1=(if an=(a9:Int).toNat then ay else (ay:Option Addr).map (·.add ((a9:Int).toNat*1))):=⟨_,rfl⟩
                        obtain ⟨c54,hc54⟩:∃ c1,c1=an - (a9:Int).toNat:=⟨_,rfl⟩
                        have bz:az.length=(a7:Int).toNat - (a9:Int).toNat:=(by rw [aQ.out,List.length_drop,List.length_take] <;> omega)
                        rw [show ((a5).take (a7:Int).toNat).drop (a9:Int).toNat=az from aQ.out.symm] at hr54
                        replace hr54:Kd.C Kd.string _ A54 az.length az:=(by rw [hA54];exact hr54)
                        rw [←bz,←hA54,←hc54] at hcut54
                        have aw:=Aside0.mk hr54;have bg:=Aside0.mk (show az.length≤c54 from by rw [bz,hc54];exact Nat.sub_le_sub_right (Nat.le_trans (by omega) hroom54) _);clear hr54 hC54 hroom54 hi054 hsz54 hc54;have KY54:=Aside0.mk bz;have KA54:=Aside0.mk hA54;clear bz hA54;have KL54:=Aside0.mk (show (a7:Int).toNat≤a5.length from by omega);have KM54:=Aside0.mk (show (a9:Int).toNat≤(a7:Int).toNat from by omega);replace q54:=eq_true q54;refine start_ (n:=18) (S:=fun w'=>True) (ds:=[]) (fb 18 0) (by kernel_rfl) rfl rfl trivial (fun hHeld => ?_);refine with_tabW spec_MergeText.tab21 spec_MergeText.bits21 (fun HT_ HW_ => ?_);generalize wc.drew=w51 at ae ag ah ai aj HB au av aw hHeld ⊢; refine pu 0 74 (fb 18 1) HT_ ?_;refine pu 1 75 (fb 18 3) HT_ ?_;refine pu 2 76 (fb 18 7) HT_ ?_;refine pu 3 77 (fb 18 15) HT_ ?_;refine pu 4 78 (fb 18 31) HT_ ?_;refine pu 5 79 (fb 18 63) HT_ ?_;refine pu 6 80 (fb 18 127) HT_ ?_;refine pu 7 81 (fb 18 255) HT_ ?_;refine pu 8 82 (fb 18 511) HT_ ?_;refine pu 9 83 (fb 18 1023) HT_ ?_;refine pu 10 84 (fb 18 2047) HT_ ?_;refine pu 11 85 (fb 18 4095) HT_ ?_;refine o1 12 (some 86) (fb 18 8191) HT_ (fun K hK => ?_);refine gs _ (#[.slice A52 ao.length c52,.slice A53 ar.length c53,.slice A54 az.length c54]) Tryd.func27 ?_;(with_reducible refine (spec_l7Three.calls aq _ _ ao _ _ ar _ _ az aB true _ ?side1 ?side2 ?side3 ?side4 ?side5 ?side6 bH.out).mono ?_);(case side1=>repeat (first|exact (by repeat (first|(with_reducible exact au.out)|(with_reducible refine Kd.C_alloc ?_ _)|(with_reducible refine Kd.C_drewN ?_ _)|(with_reducible refine Kd.C_drew ?_)|exact au.out))|(with_reducible refine Kd.C_alloc ?_ _)|(with_reducible refine Kd.C_drewN ?_ _)|(with_reducible refine Kd.C_drew ?_)));(case side2=>exact ba.out);(case side3=>repeat (first|exact (by repeat (first|(with_reducible exact av.out)|(with_reducible refine Kd.C_alloc ?_ _)|(with_reducible refine Kd.C_drewN ?_ _)|(with_reducible refine Kd.C_drew ?_)|exact av.out))|(with_reducible refine Kd.C_alloc ?_ _)|(with_reducible refine Kd.C_drewN ?_ _)|(with_reducible refine Kd.C_drew ?_)));(case side4=>exact bd.out);(case side5=>repeat (first|exact (by repeat (first|(with_reducible exact aw.out)|(with_reducible refine Kd.C_alloc ?_ _)|(with_reducible refine Kd.C_drewN ?_ _)|(with_reducible refine Kd.C_drew ?_)|exact aw.out))|(with_reducible refine Kd.C_alloc ?_ _)|(with_reducible refine Kd.C_drewN ?_ _)|(with_reducible refine Kd.C_drew ?_)));(case side6=>exact bg.out);rintro e w55 ⟨rfl,hb⟩;refine ⟨_,rfl,?_⟩;refine Ya9 (Kd.R_below (kr ae.out) hb) (Kd.R_below (kr ag.out) hb) (Kd.R_below (kr ah.out) hb) (Kd.R_below (kr ai.out) hb) (Kd.R_below (kr aj.out) hb) (Kd.C_below (by repeat (first|(with_reducible exact au.out)|(with_reducible refine Kd.C_alloc ?_ _)|(with_reducible refine Kd.C_drewN ?_ _)|(with_reducible refine Kd.C_drew ?_)|exact au.out)) hb) (Kd.C_below (by repeat (first|(with_reducible exact av.out)|(with_reducible refine Kd.C_alloc ?_ _)|(with_reducible refine Kd.C_drewN ?_ _)|(with_reducible refine Kd.C_drew ?_)|exact av.out)) hb) (Kd.C_below (by repeat (first|(with_reducible exact aw.out)|(with_reducible refine Kd.C_alloc ?_ _)|(with_reducible refine Kd.C_drewN ?_ _)|(with_reducible refine Kd.C_drew ?_)|exact aw.out)) hb) (below_step (be HB.out) hb) ?_;clear ae ag ah ai aj au av aw HB;intro ae ag ah ai aj au av aw HB;(try clear hb);(try clear hb2);(try clear hk);(try clear hi);refine hK.out _ _ trivial (fun hHeld => ?_);clear hK K;refine nm 86 ?_;refine pu 13 73 (fb 18 16383) HT_ ?_;refine pu 14 87 (fb 18 32767) HT_ ?_;refine pu 15 88 (fb 18 65535) HT_ ?_;refine pu 16 20 (fb 18 131071) HT_ ?_;refine pu 17 21 (fb 18 262143) HT_ ?_;refine done_ (done_of HT_.out (by kernel_rfl)) ?_
                        try go_wp2
                        go_roundg aq
                        case measure=>have:=HJ3.out;have:=HK2.out;have:=HJ21.out;have:=HJ27.out;omega
                        case rel=>exact ⟨(ac++aB),(wrap64 (a3+1)),(wrap64 (a8+1)),(wrap64 (a7+1)),(wrap64 (a3+1)),Ye1,Ye1,Ye1,Ye1,Ye1,H',⟨by have:=HJ3.out;have:=HK2.out;have:=HJ21.out;have:=HJ27.out;omega⟩,⟨kr ae.out⟩,⟨kr ag.out⟩,⟨kr ah.out⟩,⟨kr ai.out⟩,⟨kr aj.out⟩,⟨be HB.out⟩⟩
                      ·rw [if_neg b8] at H
                       exact absurd H (by simp)
                     ·replace bm:=Bool.eq_false_iff.mpr bm;subst bm
                      have H1:(some ((⟨#[]⟩:ByteArray),false))=some (r1,r2):=by rw [if_neg (show ¬(false=true) by decide)] at H;exact H
                      clear H;have H:=H1;clear H1;simp only [Option.some.injEq,Prod.mk.injEq] at H;obtain ⟨rfl,rfl⟩:=H
                      try go_wp2
                      refine Ya6 (Kd.R_drew ae.out) (Kd.R_drew ag.out) (Kd.R_drew ah.out) (Kd.R_drew ai.out) (Kd.R_drew aj.out) (below_drew1 HB.out) ?_;clear ae ag ah ai aj HB;intro ae ag ah ai aj HB;have q57:(a3:Int)≤((a4.length:Int):Int):=oda;obtain ⟨i057,hi057,_,hsz57,_⟩:=info_parts info9;have hroom57:a4.length≤al:=(Kd.R_reads' ae.out).2.1;have hC57:Kd.C Kd.string _ ap a4.length a4:=(Kd.R_reads' ae.out).2.2;have ql57:(ab:Int)≤(a3:Int):=oda;have cl:(0:Int)≤(ab:Int):=oda;have hcut57:=cut_mid (P:=Tryd.prog) 29 9 .i64 .i64 Tryd.underlying29 hi057 1 hsz57 ap a4.length al ab a3 cl ql57 q57 hroom57;have hr57:=Kd.C_mid (lo:=(ab:Int).toNat) (hi:=(a3:Int).toNat) (c:=al) hC57 (by omega) (by omega) hroom57
                      obtain ⟨A57,hA57⟩:∃ A1,A1=(if al=(ab:Int).toNat then ap else (ap:Option Addr).map (·.add ((ab:Int).toNat*1))):=⟨_,rfl⟩
                      obtain ⟨c57,hc57⟩:∃ c1,c1=al - (ab:Int).toNat:=⟨_,rfl⟩
                      have bA:ao.length=(a3:Int).toNat - (ab:Int).toNat:=(by rw [aO.out,List.length_drop,List.length_take] <;> omega)
                      rw [show ((a4).take (a3:Int).toNat).drop (ab:Int).toNat=ao from aO.out.symm] at hr57
                      replace hr57:Kd.C Kd.string _ A57 ao.length ao:=(by rw [hA57];exact hr57)
                      rw [←bA,←hA57,←hc57] at hcut57
                      have au:=Aside0.mk hr57;have ba:=Aside0.mk (show ao.length≤c57 from by rw [bA,hc57];exact Nat.sub_le_sub_right (Nat.le_trans (by omega) hroom57) _);clear hr57 hC57 hroom57 hi057 hsz57 hc57;have KY57:=Aside0.mk bA;have KA57:=Aside0.mk hA57;clear bA hA57;have KL57:=Aside0.mk (show (a3:Int).toNat≤a4.length from by omega);have KM57:=Aside0.mk (show (ab:Int).toNat≤(a3:Int).toNat from by omega);replace q57:=eq_true q57;have q58:(a8:Int)≤((a6.length:Int):Int):=oda;obtain ⟨i058,hi058,_,hsz58,_⟩:=info_parts info9;have hroom58:a6.length≤am:=(Kd.R_reads' ag.out).2.1;have hC58:Kd.C Kd.string _ ax a6.length a6:=(Kd.R_reads' ag.out).2.2;have ql58:(aa:Int)≤(a8:Int):=oda;have cm:(0:Int)≤(aa:Int):=oda;have hcut58:=cut_mid (P:=Tryd.prog) 29 9 .i64 .i64 Tryd.underlying29 hi058 1 hsz58 ax a6.length am aa a8 cm ql58 q58 hroom58;have hr58:=Kd.C_mid (lo:=(aa:Int).toNat) (hi:=(a8:Int).toNat) (c:=am) hC58 (by omega) (by omega) hroom58
                      obtain ⟨A58,hA58⟩:∃ A1,A1=(if am=(aa:Int).toNat then ax else (ax:Option Addr).map (·.add ((aa:Int).toNat*1))):=⟨_,rfl⟩
                      obtain ⟨c58,hc58⟩:∃ c1,c1=am - (aa:Int).toNat:=⟨_,rfl⟩
                      have bB:ar.length=(a8:Int).toNat - (aa:Int).toNat:=(by rw [aP.out,List.length_drop,List.length_take] <;> omega)
                      rw [show ((a6).take (a8:Int).toNat).drop (aa:Int).toNat=ar from aP.out.symm] at hr58
                      replace hr58:Kd.C Kd.string _ A58 ar.length ar:=(by rw [hA58];exact hr58)
                      rw [←bB,←hA58,←hc58] at hcut58
                      have av:=Aside0.mk hr58;have bd:=Aside0.mk (show ar.length≤c58 from by rw [bB,hc58];exact Nat.sub_le_sub_right (Nat.le_trans (by omega) hroom58) _);clear hr58 hC58 hroom58 hi058 hsz58 hc58;have KY58:=Aside0.mk bB;have KA58:=Aside0.mk hA58;clear bB hA58;have KL58:=Aside0.mk (show (a8:Int).toNat≤a6.length from by omega);have KM58:=Aside0.mk (show (aa:Int).toNat≤(a8:Int).toNat from by omega);replace q58:=eq_true q58;have q59:(a7:Int)≤((a5.length:Int):Int):=oda;obtain ⟨i059,hi059,_,hsz59,_⟩:=info_parts info9;have hroom59:a5.length≤an:=(Kd.R_reads' ah.out).2.1;have hC59:Kd.C Kd.string _ ay a5.length a5:=(Kd.R_reads' ah.out).2.2;have ql59:(a9:Int)≤(a7:Int):=oda;have cn:(0:Int)≤(a9:Int):=oda;have hcut59:=cut_mid (P:=Tryd.prog) 29 9 .i64 .i64 Tryd.underlying29 hi059 1 hsz59 ay a5.length an a9 a7 cn ql59 q59 hroom59;have hr59:=Kd.C_mid (lo:=(a9:Int).toNat) (hi:=(a7:Int).toNat) (c:=an) hC59 (by omega) (by omega) hroom59
                      obtain ⟨A59,hA59⟩:∃ A1,A1=(if an=(a9:Int).toNat then ay else (ay:Option Addr).map (·.add ((a9:Int).toNat*1))):=⟨_,rfl⟩
                      obtain ⟨c59,hc59⟩:∃ c1,c1=an - (a9:Int).toNat:=⟨_,rfl⟩
                      have bC:az.length=(a7:Int).toNat - (a9:Int).toNat:=(by rw [aQ.out,List.length_drop,List.length_take] <;> omega)
                      rw [show ((a5).take (a7:Int).toNat).drop (a9:Int).toNat=az from aQ.out.symm] at hr59
                      replace hr59:Kd.C Kd.string _ A59 az.length az:=(by rw [hA59];exact hr59)
                      rw [←bC,←hA59,←hc59] at hcut59
                      have aw:=Aside0.mk hr59;have bg:=Aside0.mk (show az.length≤c59 from by rw [bC,hc59];exact Nat.sub_le_sub_right (Nat.le_trans (by omega) hroom59) _);clear hr59 hC59 hroom59 hi059 hsz59 hc59;have KY59:=Aside0.mk bC;have KA59:=Aside0.mk hA59;clear bC hA59;have KL59:=Aside0.mk (show (a7:Int).toNat≤a5.length from by omega);have KM59:=Aside0.mk (show (a9:Int).toNat≤(a7:Int).toNat from by omega);replace q59:=eq_true q59;refine start_ (n:=18) (S:=fun w'=>True) (ds:=[]) (fb 18 0) (by kernel_rfl) rfl rfl trivial (fun hHeld => ?_);refine with_tabW spec_MergeText.tab21 spec_MergeText.bits21 (fun HT_ HW_ => ?_);generalize wc.drew=w56 at ae ag ah ai aj HB au av aw hHeld ⊢; refine pu 0 74 (fb 18 1) HT_ ?_;refine pu 1 75 (fb 18 3) HT_ ?_;refine pu 2 76 (fb 18 7) HT_ ?_;refine pu 3 77 (fb 18 15) HT_ ?_;refine pu 4 78 (fb 18 31) HT_ ?_;refine pu 5 79 (fb 18 63) HT_ ?_;refine pu 6 80 (fb 18 127) HT_ ?_;refine pu 7 81 (fb 18 255) HT_ ?_;refine pu 8 82 (fb 18 511) HT_ ?_;refine pu 9 83 (fb 18 1023) HT_ ?_;refine pu 10 84 (fb 18 2047) HT_ ?_;refine pu 11 85 (fb 18 4095) HT_ ?_;refine o1 12 (some 86) (fb 18 8191) HT_ (fun K hK => ?_);refine gs _ (#[.slice A57 ao.length c57,.slice A58 ar.length c58,.slice A59 az.length c59]) Tryd.func27 ?_;(with_reducible refine (spec_l7Three.calls aq _ _ ao _ _ ar _ _ az aB false _ ?side1 ?side2 ?side3 ?side4 ?side5 ?side6 bH.out).mono ?_);(case side1=>repeat (first|exact (by repeat (first|(with_reducible exact au.out)|(with_reducible refine Kd.C_alloc ?_ _)|(with_reducible refine Kd.C_drewN ?_ _)|(with_reducible refine Kd.C_drew ?_)|exact au.out))|(with_reducible refine Kd.C_alloc ?_ _)|(with_reducible refine Kd.C_drewN ?_ _)|(with_reducible refine Kd.C_drew ?_)));(case side2=>exact ba.out);(case side3=>repeat (first|exact (by repeat (first|(with_reducible exact av.out)|(with_reducible refine Kd.C_alloc ?_ _)|(with_reducible refine Kd.C_drewN ?_ _)|(with_reducible refine Kd.C_drew ?_)|exact av.out))|(with_reducible refine Kd.C_alloc ?_ _)|(with_reducible refine Kd.C_drewN ?_ _)|(with_reducible refine Kd.C_drew ?_)));(case side4=>exact bd.out);(case side5=>repeat (first|exact (by repeat (first|(with_reducible exact aw.out)|(with_reducible refine Kd.C_alloc ?_ _)|(with_reducible refine Kd.C_drewN ?_ _)|(with_reducible refine Kd.C_drew ?_)|exact aw.out))|(with_reducible refine Kd.C_alloc ?_ _)|(with_reducible refine Kd.C_drewN ?_ _)|(with_reducible refine Kd.C_drew ?_)));(case side6=>exact bg.out);rintro e w60 ⟨rfl,hb⟩;refine ⟨_,rfl,?_⟩;refine Ya9 (Kd.R_below (kr ae.out) hb) (Kd.R_below (kr ag.out) hb) (Kd.R_below (kr ah.out) hb) (Kd.R_below (kr ai.out) hb) (Kd.R_below (kr aj.out) hb) (Kd.C_below (by repeat (first|(with_reducible exact au.out)|(with_reducible refine Kd.C_alloc ?_ _)|(with_reducible refine Kd.C_drewN ?_ _)|(with_reducible refine Kd.C_drew ?_)|exact au.out)) hb) (Kd.C_below (by repeat (first|(with_reducible exact av.out)|(with_reducible refine Kd.C_alloc ?_ _)|(with_reducible refine Kd.C_drewN ?_ _)|(with_reducible refine Kd.C_drew ?_)|exact av.out)) hb) (Kd.C_below (by repeat (first|(with_reducible exact aw.out)|(with_reducible refine Kd.C_alloc ?_ _)|(with_reducible refine Kd.C_drewN ?_ _)|(with_reducible refine Kd.C_drew ?_)|exact aw.out)) hb) (below_step (be HB.out) hb) ?_;clear ae ag ah ai aj au av aw HB;intro ae ag ah ai aj au av aw HB;(try clear hb);(try clear hb2);(try clear hk);(try clear hi);refine hK.out _ _ trivial (fun hHeld => ?_);clear hK K;refine nm 86 ?_;refine pu 13 73 (fb 18 16383) HT_ ?_;refine pu 14 87 (fb 18 32767) HT_ ?_;refine pu 15 88 (fb 18 65535) HT_ ?_;refine pu 16 20 (fb 18 131071) HT_ ?_;refine pu 17 21 (fb 18 262143) HT_ ?_;refine done_ (done_of HT_.out (by kernel_rfl)) ?_
                      try go_wp2
                      go_ret2
                      exact ⟨Ye2,be HB.out⟩
                    ·rw [if_neg b6] at H
                     exact absurd H (by simp)
                   ·rw [if_neg b5] at H
                    exact absurd H (by simp)
                  ·rw [if_neg b4] at H
                   exact absurd H (by simp)
                 ·rw [if_neg b2] at H
                  exact absurd H (by simp)
                ·rw [if_neg b1] at H
                 exact absurd H (by simp)
               ·rw [if_neg b0] at H
                exact absurd H (by simp)
              ·rw [if_neg aY] at H
               exact absurd H (by simp)
             ·rw [if_neg aX] at H
              exact absurd H (by simp)
            ·rw [if_neg aW] at H
             exact absurd H (by simp)
      ·rw [if_neg aF] at H
       have bE:decide (a3≤(a4.length:Int))=false:=decide_eq_false aF;clear aF;simp only [Option.some.injEq,Prod.mk.injEq] at H;obtain ⟨rfl,rfl⟩:=H
       go_wp2
       go_ret2
       exact ⟨Ye2,be HB.out⟩

end Go.Proofs.YtkmfnmeilooogaaDoor.P

