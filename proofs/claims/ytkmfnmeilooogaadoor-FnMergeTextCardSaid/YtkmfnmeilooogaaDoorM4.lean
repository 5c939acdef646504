/- Several texts of this claim in one file: YtkmfnmeilooogaaDoorPImplCommon, YtkmfnmeilooogaaDoorPStringsSplitAfter, YtkmfnmeilooogaaDoorPImplLines, YtkmfnmeilooogaaDoorPStringsJoin, YtkmfnmeilooogaaDoorPSlicesEqualStringString, YtkmfnmeilooogaaDoorPSpecL7First, YtkmfnmeilooogaaDoorPSpecL7Table, YtkmfnmeilooogaaDoorPSpecCommon, YtkmfnmeilooogaaDoorPSpecLines, YtkmfnmeilooogaaDoorPSpecL7Text, YtkmfnmeilooogaaDoorPSpecL4Parts, YtkmfnmeilooogaaDoorPStringsSplit, YtkmfnmeilooogaaDoorPSpecL1Many. -/
import Derived.Test.YtkmfnmeilooogaaDoorM2
import Derived.Test.YtkmfnmeilooogaaDoorM3
import Derived.Deep.QuietTactic
import Derived.Lib.SplitLaws
import Derived.Lib.Join
namespace Go.Proofs.YtkmfnmeilooogaaDoor.P
open Go.RowKit Go.Proofs.YtkmfnmeilooogaaDoorW.PrintWords Go.Proofs.YtkmfnmeilooogaaDoorW.PrintLast Go.Proofs.YtkmfnmeilooogaaDoorW.PrintMore
attribute [local go_sem] max2_int min2_int max_two min_two max_three min_three max_four min_four
set_option linter.unusedVariables false
set_option linter.unusedSimpArgs false

/- Walked by hand. -/
open Go.Proofs.YtkmfnmeilooogaaDoor.Pure
def impl_Common.f (l0 l1:List ByteArray):Option (List S63):=if l0.length>1500∨l1.length>1500 then some [] else some ((pairs l0 l1 (lc l0 l1 0 0) 0 0).map fun p=>⟨(p.1:Int),(p.2:Int)⟩)
/-- The table's cell (a, b), where all behind (I, J) is done. -/
def impl_Common.T (l0 l1:List ByteArray) (I J:Int) (a b:Nat):Int:=if I<a∨(I=a∧J<b) then (lc l0 l1 a b:Int) else 0
/-- The table lies at Br. -/
def impl_Common.Tab (m n:Nat) (t:Nat→Nat→Int) (Br:Nat) (w:World):Prop:=∃ cs,w.heap[Br]? = some (.cells cs 106 (0,0)) ∧ ∀ a b,a≤n→b≤m→cs[a*(m+1)+b]? = some (.int .i16 (t a b))
theorem impl_Common.Tab.cell {m n Br:Nat} {t:Nat→Nat→Int} {w:World} (h:impl_Common.Tab m n t Br w) {a b:Nat} (ha:a≤n) (hb:b≤m):w.cell? ⟨Br,a*(m+1)+b,none⟩=some (.int .i16 (t a b))∧w.frozen? ⟨Br,a*(m+1)+b,none⟩=false:=by
 obtain ⟨cs,h1,h2⟩:=h
 exact ⟨(blk_cell h1 _).trans (h2 a b ha hb),blk_frozen h1 _⟩
theorem impl_Common.Tab.lt {m n Br:Nat} {t:Nat→Nat→Int} {w:World} (h:impl_Common.Tab m n t Br w):Br<w.heap.size:=by
 obtain ⟨cs,h1,_⟩:=h
 exact blk_lt h1
theorem impl_Common.place {m a b a' b':Nat} (hb:b≤m) (hb':b'≤m) (h:a*(m+1)+b=a'*(m+1)+b'):a=a'∧b=b':=by
 have h1:(a*(m+1)+b) / (m+1)=(a'*(m+1)+b') / (m+1):=by rw [h]
 have h2:(a*(m+1)+b) % (m+1)=(a'*(m+1)+b') % (m+1):=by rw [h]
 have e1:∀ x y:Nat,y≤m→(x*(m+1)+y) / (m+1)=x:=fun x y hy=>by
  rw [Nat.mul_comm,Nat.mul_add_div (by omega),Nat.div_eq_of_lt (by omega),Nat.add_zero]
 have e2:∀ x y:Nat,y≤m→(x*(m+1)+y) % (m+1)=y:=fun x y hy=>by
  rw [Nat.mul_comm,Nat.mul_add_mod,Nat.mod_eq_of_lt (by omega)]
 rw [e1 _ _ hb,e1 _ _ hb'] at h1
 rw [e2 _ _ hb,e2 _ _ hb'] at h2
 exact ⟨h1,h2⟩
theorem impl_Common.Tab.put {m n Br:Nat} {t t':Nat→Nat→Int} {w:World} (h:impl_Common.Tab m n t Br w) {a b:Nat} (ha:a≤n) (hb:b≤m) (v:Int) (ht:∀ x y,x≤n→y≤m→t' x y=if x=a∧y=b then v else t x y):impl_Common.Tab m n t' Br (w.setCell ⟨Br,a*(m+1)+b,none⟩ (.int .i16 v)):=by
 obtain ⟨cs,h1,h2⟩:=h
 refine ⟨cs.setIfInBounds (a*(m+1)+b) (.int .i16 v),blk_put h1 _ _ rfl,fun x y hx hy => ?_⟩
 have hlt:=(Array.getElem?_eq_some_iff.1 (h2 a b ha hb)).1
 rw [ht x y hx hy]
 by_cases e:x=a∧y=b
 ·obtain ⟨rfl,rfl⟩:=e
  rw [if_pos ⟨rfl,rfl⟩,Array.getElem?_setIfInBounds_self_of_lt hlt]
 ·rw [if_neg e,Array.getElem?_setIfInBounds_ne (fun q=>e (impl_Common.place hy hb q.symm))]
  exact h2 x y hx hy
theorem impl_Common.Tab.move {m n Br:Nat} {t:Nat→Nat→Int} {w w1:World} (h:impl_Common.Tab m n t Br w) (hw:w1.heap[Br]? = w.heap[Br]?):impl_Common.Tab m n t Br w1:=by
 obtain ⟨cs,h1,h2⟩:=h
 exact ⟨cs,hw.trans h1,h2⟩
set_option maxHeartbeats 1000000 in
set_option maxRecDepth 100000 in
theorem impl_Common.at_calls (m i j N cap P Bt Bm Br:Nat) (x y:Int) (hx:x=(i:Int)) (hy:y=(j:Int)) (W:World) (hi:i≤1500) (hm:m≤1500) (hj:j≤m) (hP:P=i*(m+1)+j) (hN:N≤10000000) (hlt:P<N) (ht:W.cell? ⟨Bt,0,none⟩=some (.slice (some ⟨Br,0,none⟩) N cap)) (hb:W.cell? ⟨Bm,0,none⟩=some (.int .i64 (m:Int))) :
  Calls Tryd.prog 65 #[.int .i64 x,.int .i64 y,.pointer (some ⟨Bt,0,none⟩),.pointer (some ⟨Bm,0,none⟩)] W fun e w'=>e = .returned (.pointer (some ⟨Br,P,none⟩))∧w'=W:=by
 subst hx
 subst hy
 have h0:((i*(m+1):Nat):Int)=(i:Int)*((m:Int)+1):=by rw [Int.natCast_mul];rfl
 have e1:wrap64 ((m:Int)+1)=(m:Int)+1:=by unfold wrap64;omega
 have e2:wrap64 ((i:Int)*((m:Int)+1))=(i:Int)*((m:Int)+1):=by
  rw [←h0]
  unfold wrap64
  omega
 have e3:wrap64 ((i:Int)*((m:Int)+1)+(j:Int))=(P:Int):=by
  rw [←h0]
  unfold wrap64
  omega
 have c1:decide ((P:Int)<(N:Int))=true:=decide_eq_true (by omega)
 have c2:decide (P<N)=true:=decide_eq_true hlt
 clear h0 hi hm hP hN
 go_enter Tryd.func65,Tryd.ntmps65
 go_wp2
 go_ret
 exact ⟨rfl,rfl⟩
theorem impl_Common.Tab.new {m n N:Nat} {W:World} {base:Nat} {ok:Nat→Prop} {v:Value} (h:Kd.R (Kd.int .i16) 106 W base ok v (List.replicate N 0)) (hN:N=(n+1)*(m+1)):∃ g cap,v = .slice (some ⟨g,0,none⟩) N cap∧base≤g∧g<W.heap.size∧impl_Common.Tab m n (fun _ _=>0) g W:=by
 have hp:0<(List.replicate N (0:Int)).length:=by
  rw [List.length_replicate,hN]
  exact Nat.mul_pos (by omega) (by omega)
 obtain ⟨g,cap,rfl,hb,hl,cells,hc⟩:=Kd.R_form h hp
 rw [List.length_replicate] at h
 refine ⟨g,cap,by rw [List.length_replicate],hb,hl,cells,hc,fun a b ha hb => ?_⟩
 have hlt:a*(m+1)+b<N:=by
  rw [hN]
  have:a*(m+1)≤n*(m+1):=Nat.mul_le_mul_right _ ha
  rw [Nat.add_mul,Nat.one_mul]
  omega
 have:=(Kd.R_celln (0:Int) h ((a*(m+1)+b:Nat):Int) (by omega) (by omega)).1
 rw [Int.toNat_natCast] at this
 have e:=(blk_cell hc (a*(m+1)+b)).symm.trans this
 rw [e]
 unfold rdOf
 rw [Int.toNat_natCast,List.getD_eq_getElem?_getD,List.getElem?_replicate,if_pos hlt]
 rfl
/-- What is told of the world all along: the three blocks and what was there. -/
structure impl_Common.At (w:World) (n m N cap Bt Bm Br:Nat) (t:Nat→Nat→Int) (W:World):Prop where
 tab:impl_Common.Tab m n t Br W
 bt:W.heap[Bt]? = some (.cells #[.slice (some ⟨Br,0,none⟩) N cap] 104 (0,0))
 bm:W.heap[Bm]? = some (.cells #[.int .i64 (m:Int)] 3 (0,0))
 below:Below w.heap.size w W
 base:w.heap.size≤Br
theorem impl_Common.At.drewN {w:World} {n m N cap Bt Bm Br:Nat} {t:Nat→Nat→Int} {W:World} (h:impl_Common.At w n m N cap Bt Bm Br t W) (nd:Nat):impl_Common.At w n m N cap Bt Bm Br t (W.drewN nd):=⟨h.tab.move rfl,h.bt,h.bm,pw_below_drewN h.below nd,h.base⟩
theorem impl_Common.At.put {w:World} {n m N cap Bt Bm Br:Nat} {t t':Nat→Nat→Int} {W:World} (h:impl_Common.At w n m N cap Bt Bm Br t W) {a b:Nat} (ha:a≤n) (hb:b≤m) (v:Int) (ht:∀ x y,x≤n→y≤m→t' x y=if x=a∧y=b then v else t x y):impl_Common.At w n m N cap Bt Bm Br t' (W.setCell ⟨Br,a*(m+1)+b,none⟩ (.int .i16 v)):=by
 obtain ⟨cs,h1,h2⟩:=h.tab
 have n1:Bt≠Br:=by
  rintro rfl
  have:=h.bt.symm.trans h1
  simp at this
 have n2:Bm≠Br:=by
  rintro rfl
  have:=h.bm.symm.trans h1
  simp at this
 exact ⟨h.tab.put ha hb v ht,blk_far h.bt n1 _,blk_far h.bm n2 _,below_set h.below h.base,h.base⟩
theorem impl_Common.At.same {w:World} {n m N cap Bt Bm Br:Nat} {t t':Nat→Nat→Int} {W:World} (h:impl_Common.At w n m N cap Bt Bm Br t W) (e:∀ a b,a≤n→b≤m→t' a b=t a b):impl_Common.At w n m N cap Bt Bm Br t' W:=by
 refine ⟨?_,h.bt,h.bm,h.below,h.base⟩
 obtain ⟨cs,h1,h2⟩:=h.tab
 exact ⟨cs,h1,fun a b ha hb=>(h2 a b ha hb).trans (by rw [e a b ha hb])⟩
theorem impl_Common.lc_1500 (l0 l1:List ByteArray) (h:l0.length≤1500) (a b:Nat):∃ x:Int,(lc l0 l1 a b:Int)=x∧0≤x∧x≤1500:=by
 have:=(lc_le l0 l1 _ a b (Nat.le_refl _)).1
 exact ⟨_,rfl,by omega,by omega⟩
theorem impl_Common.idx {m n a b N:Nat} (hN:N=(n+1)*(m+1)) (ha:a≤n) (hb:b≤m):a*(m+1)+b<N:=by
 rw [hN]
 have:a*(m+1)≤n*(m+1):=Nat.mul_le_mul_right _ ha
 rw [Nat.add_mul,Nat.one_mul]
 omega
theorem impl_Common.lc_eq {l0 l1:List ByteArray} {a b:Nat} (ha:a<l0.length) (hb:b<l1.length) {x1 x2 x3 v:Int} (h1:(lc l0 l1 (a+1) b:Int)=x1) (h2:(lc l0 l1 a (b+1):Int)=x2) (h3:(lc l0 l1 (a+1) (b+1):Int)=x3) (hv:(if x1<x2 then x2 else x1)=v) (he:l0[a].toList=l1[b].toList) :
  (lc l0 l1 a b:Int)=if v<1+x3 then 1+x3 else v:=by
 have he':l0[a]=l1[b]:=by
  rw [ByteArray.toList_eq,ByteArray.toList_eq] at he
  exact ba_ext he
 rw [lc_in ha hb,if_pos he']
 subst h1 h2 h3 hv
 by_cases q:lc l0 l1 a (b+1)>lc l0 l1 (a+1) b
 ·rw [if_pos q,if_pos (show (lc l0 l1 (a+1) b:Int)<(lc l0 l1 a (b+1):Int) by omega)]
  split <;> split <;> omega
 ·rw [if_neg q,if_neg (show ¬(lc l0 l1 (a+1) b:Int)<(lc l0 l1 a (b+1):Int) by omega)]
  split <;> split <;> omega
theorem impl_Common.lc_ne {l0 l1:List ByteArray} {a b:Nat} (ha:a<l0.length) (hb:b<l1.length) {x1 x2 v:Int} (h1:(lc l0 l1 (a+1) b:Int)=x1) (h2:(lc l0 l1 a (b+1):Int)=x2) (hv:(if x1<x2 then x2 else x1)=v) (he:¬ l0[a].toList=l1[b].toList) :
  (lc l0 l1 a b:Int)=v:=by
 have he':¬ l0[a]=l1[b]:=fun h=>he (by rw [h])
 rw [lc_in ha hb,if_neg he']
 subst h1 h2 hv
 by_cases q:lc l0 l1 a (b+1)>lc l0 l1 (a+1) b
 ·rw [if_pos q,if_pos (show (lc l0 l1 (a+1) b:Int)<(lc l0 l1 a (b+1):Int) by omega)]
 ·rw [if_neg q,if_neg (show ¬(lc l0 l1 (a+1) b:Int)<(lc l0 l1 a (b+1):Int) by omega)]
theorem impl_Common.T_put {l0 l1:List ByteArray} {a b:Nat} {v:Int} (h:(lc l0 l1 a b:Int)=v) (x y:Nat):impl_Common.T l0 l1 (a:Int) ((b:Int) - 1) x y=if x=a∧y=b then v else impl_Common.T l0 l1 (a:Int) (b:Int) x y:=by
 unfold impl_Common.T
 by_cases e:x=a∧y=b
 ·obtain ⟨rfl,rfl⟩:=e
  rw [if_pos (by omega),if_pos ⟨rfl,rfl⟩]
  exact h
 ·rw [if_neg e]
  by_cases q:(a:Int)<(x:Int)∨((a:Int)=(x:Int)∧(b:Int)<(y:Int))
  ·rw [if_pos q,if_pos (by omega)]
  ·rw [if_neg q,if_neg (by omega)]
theorem impl_Common.At.appended {w:World} {n m N cap Bt Bm Br:Nat} {t:Nat→Nat→Int} {W W1:World} {base:Nat} {ok:Nat→Prop} {v:Value} {xs:List S63} (h:impl_Common.At w n m N cap Bt Bm Br t W) (ho:Kd.R k63 63 W base ok v xs) (hg:W.grownBy W1 v.ownBlock) (hb:Below w.heap.size w W1):impl_Common.At w n m N cap Bt Bm Br t W1:=by
 obtain ⟨cs,h1,h2⟩:=h.tab
 exact ⟨⟨cs,blk_grown h1 hg (Kd.R_ne ho h1 (by decide)),h2⟩,blk_grown h.bt hg (Kd.R_ne ho h.bt (by decide)),blk_grown h.bm hg (Kd.R_ne ho h.bm (by decide)),hb,h.base⟩
set_option maxHeartbeats 2000000 in
set_option maxRecDepth 100000 in
theorem impl_Common.calls (A0 : Option Addr) (c0 : Nat) (l0 : List ByteArray) (A1 : Option Addr) (c1 : Nat) (l1 : List ByteArray) (r : List S63) (w : World) (hr0 : Kd.C Kd.string w A0 l0.length l0) (hc0 : l0.length ≤ c0) (hr1 : Kd.C Kd.string w A1 l1.length l1) (hc1 : l1.length ≤ c1) (h : impl_Common.f l0 l1 = some r) :
  Calls Tryd.prog 29 #[.slice A0 l0.length c0,.slice A1 l1.length c1] w fun e w' => ∃ v0_:Value,e = .returned (v0_)∧Kd.R k63 63 w' w.heap.size (fun _=>True) v0_ r∧Below w.heap.size w w':=by
 have HR0:=Aside0.mk hr0
 have HR1:=Aside0.mk hr1
 have HB:=Aside0.mk (Below.refl w.heap.size w)
 clear hr0 hc0 hr1 hc1
 unfold impl_Common.f at h
 by_cases hbig:l0.length>1500∨l1.length>1500
 ·rw [if_pos hbig] at h
  obtain rfl:=Option.some.inj h
  by_cases h0:1500<l0.length
  ·have d0:decide ((1500:Int)<(l0.length:Int))=true:=decide_eq_true (by omega)
   have d1:decide (1500<l0.length)=true:=decide_eq_true h0
   clear h hbig h0
   go_enter Tryd.func29,Tryd.ntmps29
   go_wp2
   go_ret
   exact ⟨_,rfl,Kd.R_nil _ _ _ _ _,HB.out⟩
  ·have d0:decide ((1500:Int)<(l0.length:Int))=false:=decide_eq_false (by omega)
   have d1:decide (1500<l0.length)=false:=decide_eq_false h0
   have d2:decide ((1500:Int)<(l1.length:Int))=true:=decide_eq_true (by omega)
   have d3:decide (1500<l1.length)=true:=decide_eq_true (by omega)
   clear h hbig h0
   go_enter Tryd.func29,Tryd.ntmps29
   go_wp2
   go_ret
   exact ⟨_,rfl,Kd.R_nil _ _ _ _ _,HB.out⟩
 ·rw [if_neg hbig] at h
  obtain rfl:=Option.some.inj h
  clear h
  have e0:l0.length≤1500:=by omega
  have e1:l1.length≤1500:=by omega
  have d0:decide ((1500:Int)<(l0.length:Int))=false:=decide_eq_false (by omega)
  have d1:decide (1500<l0.length)=false:=decide_eq_false (by omega)
  have d2:decide ((1500:Int)<(l1.length:Int))=false:=decide_eq_false (by omega)
  have d3:decide (1500<l1.length)=false:=decide_eq_false (by omega)
  obtain ⟨N,hN⟩:∃ N,N=(l0.length+1)*(l1.length+1):=⟨_,rfl⟩
  have hNb:N≤2253001:=by
   rw [hN]
   exact Nat.le_trans (Nat.mul_le_mul (show l0.length+1≤1501 by omega) (show l1.length+1≤1501 by omega)) (by omega)
  have hNw:wrap64 (((l0.length:Int)+1)*((l1.length:Int)+1))=(N:Int):=by
   rw [show ((l0.length:Int)+1)*((l1.length:Int)+1)=(N:Int) from by rw [hN,Int.natCast_mul];rfl]
   unfold wrap64
   omega
  have HN:=Aside0.mk hN
  have HNW:=Aside0.mk hNw
  clear hbig hN hNw
  go_enter Tryd.func29,Tryd.ntmps29
  go_wp2_with (first|((with_reducible refine gd 6 rfl ?_);refine bx 6 3 (#[.int .i64 0]) ?_;intro Bm hg w1 hbox hb;refine Ya3 hbox (below_step (be HB.out) hb) (bs hg (be HB.out)) ?_;clear HB;intro BM HB GM;clear hb hbox hg;have ⟨hcz6_0,hfz6_0⟩:=Yc1 BM.out)|((with_reducible refine gd 35 rfl ?_);refine Kd.R_make (w0:=w) (Kd.int .i16) w.heap.size 106 rfl (N:=35) rfl 104 _ _ rfl (wrap64 (((l0.length:Int)+1)*((l1.length:Int)+1))) rfl rfl Tryd.underlying104 (.int .i16 0) 2 (by kernel_rfl) rfl (by decide) (by omega) 0 (ok:=fun _=>True) (okp:=fun _=>True) rfl (fun _ hk=>hk) trivial (by rw [HNW.out];omega) (by rw [HNW.out];omega) (be1 HB.out GM.out) (below_size (be1 HB.out GM.out)) ?_;intro v1 w2 hR hb hg hnew;rw [HNW.out,Int.toNat_natCast] at hR;obtain ⟨Br,cap,rfl,hbase,hlt,hT⟩:=impl_Common.Tab.new hR HN.out;refine Ya4 (blk_grown (blk_put (cs:=#[.int .i64 0]) BM.out 0 (.int .i64 (l1.length:Int)) rfl) hg (by simp)) hb hbase hT ?_;clear BM HB hb hg hnew hR hbase hT hcz6_0 hfz6_0;intro BM HB GR HT)|((with_reducible refine gd 7 rfl ?_);refine bx 7 104 (#[.slice none 0 0]) ?_;intro Bt hg w3 hbox hb;refine Ya6 hbox (below_step (be HB.out) hb) (bs hg (be HB.out)) (bb BM hb) (HT.out.move (hb.block Br hlt)) (show Bt≠Br from by omega) ?_;clear HB BM HT;intro BT HB GT BM HT NR;clear hb hbox hg;have ⟨hcz7_0,hfz7_0⟩:=Yc1 BT.out))
  have HX:=Aside0.mk (show impl_Common.At w l0.length l1.length N cap Bt Bm Br (fun _ _=>0) (w3.setCell ⟨Bt,0,none⟩ (.slice (some ⟨Br,0,none⟩) N cap)) from ⟨HT.out.move (Below.heap_setCell _ _ _ _ (Ne.symm NR.out)),blk_put (cs:=#[.slice none 0 0]) BT.out 0 _ rfl,blk_far BM.out (by have h1:=BM.out;have h2:=BT.out;rintro rfl;rw [h1] at h2;simp at h2) _,be1 HB.out GT.out,GR.out⟩)
  clear BT HB BM HT hcz7_0 hfz7_0
  generalize w3.setCell ⟨Bt,0,none⟩ (.slice (some ⟨Br,0,none⟩) N cap)=W at HX ⊢
  clear hlt w3 GT NR GM
  have HX0:=Aside0.mk (HX.out.same (t':=impl_Common.T l0 l1 ((l0.length:Int) - 1) (l1.length:Int)) fun a b ha hb=>by
   unfold impl_Common.T
   split
   ·rw [lc_out1 (by omega)]
    rfl
   ·rfl)
  clear HX
  go_loopg [9] (l0.length) (fun kq v9 w' => ∃ i:Int,v9 = .int .i64 i∧Aside0 (i+1=(kq:Int))∧Aside0 (i<(l0.length:Int))∧Aside0 (impl_Common.At w l0.length l1.length N cap Bt Bm Br (impl_Common.T l0 l1 i (l1.length:Int)) w'))
  case atStart=>exact ⟨(l0.length:Int) - 1,rfl,⟨by omega⟩,⟨by omega⟩,HX0⟩
  case round =>
   clear HX0
   obtain ⟨i,rfl,HK,HI,HX⟩:=hrel
   have hin:=HI.out
   cases gk with
   | zero =>
    have c1:decide (0≤i)=false:=decide_eq_false (by have:=HK.out;omega)
    have HX0:=Aside0.mk (HX.out.same (t':=fun a b=>(lc l0 l1 a b:Int)) fun a b ha hb=>by
     have:=HK.out
     unfold impl_Common.T
     rw [if_pos (by omega)])
    clear HX
    obtain ⟨L,hL,hL0,hL1⟩:=impl_Common.lc_1500 l0 l1 e0 0 0
    obtain ⟨c5,_⟩:=HX0.out.tab.cell (Nat.zero_le l0.length) (Nat.zero_le l1.length)
    rw [hL] at c5
    obtain ⟨p0,hp0⟩:∃ p,p=0*(l1.length+1)+0:=⟨_,rfl⟩
    rw [←hp0] at c5
    have HP0:=Aside0.mk hp0
    have HP:=Aside0.mk (impl_Common.idx HN.out (Nat.zero_le l0.length) (Nat.zero_le l1.length))
    have HL:=Aside0.mk hL
    clear hp0 hL
    have ⟨hczm,hfzm⟩:=Yc1 HX0.out.bm
    have ⟨hczt,hfzt⟩:=Yc1 HX0.out.bt
    have CA:=Aside0.mk (impl_Common.at_calls l1.length 0 0 N cap p0 Bt Bm Br 0 0 rfl rfl wr (by omega) e1 (by omega) HP0.out (by omega) (by rw [HP0.out];exact HP.out) hczt hczm)
    go_wp2_with (first|(go_at_call 65;(with_reducible refine CA.out.mono ?_);rintro e w' ⟨rfl,rfl⟩))
    clear c5 CA HP HP0 hczm hczt hfzm hfzt c1
    go_loopg [12,13,14,15] (lc l0 l1 0 0) (fun kq v12 v13 v14 v15 w' => ∃ (i j:Nat) (L:Int) (out:List S63) (vo:Value),vo=v12∧v13 = .int .i64 (i:Int)∧v14 = .int .i64 (j:Int)∧v15 = .int .i16 L∧Aside0 (L=(kq:Int))∧Aside0 (i≤l0.length∧j≤l1.length)∧Aside0 (lc l0 l1 i j=kq)∧Aside0 (out.length+kq≤1500)∧Aside0 (out++(pairs l0 l1 kq i j).map (fun p=>(⟨(p.1:Int),(p.2:Int)⟩:S63))=(pairs l0 l1 (lc l0 l1 0 0) 0 0).map fun p=>⟨(p.1:Int),(p.2:Int)⟩)∧Aside0 (Kd.R k63 63 w' w.heap.size (fun _=>True) vo out)∧Aside0 (impl_Common.At w l0.length l1.length N cap Bt Bm Br (fun a b=>(lc l0 l1 a b:Int)) w'))
    case atStart=>exact ⟨0,0,L,[],.slice none 0 0,rfl,rfl,rfl,rfl,⟨HL.out.symm⟩,⟨by omega⟩,⟨rfl⟩,⟨by have:=HL.out;simp;omega⟩,⟨rfl⟩,⟨Kd.R_nil _ _ _ _ _⟩,HX0⟩
    case round =>
     clear HX0 HL hL0 hL1
     obtain ⟨i,j,L,out,vo,rfl,rfl,rfl,rfl,HL,HIJ,HLC,HOL,HALL,HO,HX⟩:=hrel
     cases gk with
     | zero =>
      have c2:decide (0<L)=false:=decide_eq_false (by have:=HL.out;omega)
      go_wp2
      go_ret
      refine ⟨_,rfl,?_,HX.out.below⟩
      have:=HALL.out
      rw [show pairs l0 l1 0 i j = [] from by unfold pairs;rfl,List.map_nil,List.append_nil] at this
      rw [←this]
      exact HO.out
     | succ g =>
      have c2:decide (0<L)=true:=decide_eq_true (by have:=HL.out;omega)
      obtain ⟨W0,hW0⟩:∃ W0,W0=wr:=⟨_,rfl⟩
      subst hW0
      have hin:=HIJ.out.1
      have hjm:=HIJ.out.2
      obtain ⟨x0,y0,hx0,hy0,hgo⟩:=lc_goes l0 l1 _ i j (Nat.le_refl _) (by rw [HLC.out];omega)
      rw [HLC.out] at hgo
      obtain ⟨p,hp⟩:=pairFirst_there hjm (l0.length - i) i (by omega) ⟨x0,y0,hx0,hy0,hgo⟩
      have HP:=Aside0.mk hp
      have HP0:=Aside0.mk hp
      clear hp hgo hx0 hy0
      go_wp2
      go_step3
      go_wp2
      go_step3
      have ⟨hczm,hfzm⟩:=Yc1 HX.out.bm
      have ⟨hczt,hfzt⟩:=Yc1 HX.out.bt
      go_wp2
      go_loopg [12,13,14,16] (l0.length - i) (fun kq v12 v13 v14 v16 w' => ∃ x nd:Nat,vo=v12∧v13 = .int .i64 (i:Int)∧v14 = .int .i64 (j:Int)∧v16 = .int .i64 (x:Int)∧Aside0 (x+kq=l0.length)∧Aside0 (pairFirst l0 l1 (g+1) j kq x=some p)∧w'=W0.drewN nd)
      case atStart=>exact ⟨i,0,rfl,rfl,rfl,rfl,⟨by omega⟩,HP,rfl⟩
      case round =>
       clear HP
       obtain ⟨x,nd,rfl,rfl,rfl,rfl,HK,HP,rfl⟩:=hrel
       cases gk with
       | zero=>exact absurd HP.out (by simp [pairFirst])
       | succ k =>
        have hx:x<l0.length:=by have:=HK.out;omega
        have c3:decide ((x:Int)<(l0.length:Int))=true:=decide_eq_true (by omega)
        have c4:decide (x<l0.length)=true:=decide_eq_true hx
        go_wp2
        go_loopg [12,13,14,17] (l1.length - j) (fun kq v12 v13 v14 v17 w' => ∃ y nd:Nat,vo=v12∧v13 = .int .i64 (i:Int)∧v14 = .int .i64 (j:Int)∧v17 = .int .i64 (y:Int)∧Aside0 (y+kq=l1.length)∧Aside0 ((match rowFirst l0 l1 (g+1) x kq y with
         | some z=>some (x,z)
         | none=>pairFirst l0 l1 (g+1) j k (x+1))=some p)∧w'=W0.drewN nd)
        case atStart=>exact ⟨j,nd,rfl,rfl,rfl,rfl,⟨by omega⟩,HP,rfl⟩
        case round =>
         clear HP
         obtain ⟨y,nd2,rfl,rfl,rfl,rfl,HK2,HP,hw⟩:=hrel
         have HW:=Aside0.mk hw
         clear hw
         have hczm':wr.cell? ⟨Bm,0,none⟩=some (.int .i64 (l1.length:Int)):=by rw [HW.out];exact hczm
         cases gk with
         | zero =>
          have hy:¬ y<l1.length:=by have:=HK2.out;omega
          have c5:decide ((y:Int)<(l1.length:Int))=false:=decide_eq_false (by omega)
          have c6:decide (y<l1.length)=false:=decide_eq_false hy
          go_wp2
          go_roundg k
          case measure=>omega
          case rel=>exact ⟨x+1,nd2,rfl,rfl,rfl,by rw [show ((x+1:Nat):Int)=(x:Int)+1 from rfl],⟨by have:=HK.out;omega⟩,⟨HP.out⟩,HW.out⟩
         | succ k2 =>
          have hy:y<l1.length:=by have:=HK2.out;omega
          have c5:decide ((y:Int)<(l1.length:Int))=true:=decide_eq_true (by omega)
          have c6:decide (y<l1.length)=true:=decide_eq_true hy
          have c7:decide (0≤(x:Int))=true:=decide_eq_true (by omega)
          have c8:decide (0≤(y:Int))=true:=decide_eq_true (by omega)
          have hbw:Below w.heap.size w wr:=by rw [HW.out];exact pw_below_drewN HX.out.below nd2
          have hczt':wr.cell? ⟨Bt,0,none⟩=some (.slice (some ⟨Br,0,none⟩) N cap):=by rw [HW.out];exact hczt
          obtain ⟨ad0,e0_,s0⟩:=Kd.at_string (Kd.C_below HR0.out hbw) (x:Int) (by omega) (by omega)
          obtain ⟨ad1,e1_,s1⟩:=Kd.at_string (Kd.C_below HR1.out hbw) (y:Int) (by omega) (by omega)
          clear hbw
          cases e0_
          cases e1_
          rw [rd_of hx,Int.toNat_natCast] at s0
          rw [rd_of hy,Int.toNat_natCast] at s1
          have HPq:=HP.out
          clear HP
          unfold rowFirst at HPq
          rw [rd_of hx,rd_of hy] at HPq
          by_cases hab:l0[x].toList=l1[y].toList
          ·have t0:(l0[x].toList==l1[y].toList)=true:=beq_iff_eq.mpr hab
           have t1:(l0[x].toList != l1[y].toList)=false:=bne_eq_false_iff_eq.mpr hab
           obtain ⟨x3,hx3,y3,z3⟩:=impl_Common.lc_1500 l0 l1 e0 (x+1) (y+1)
           have d1:wr.cell? ⟨Br,(x+1)*(l1.length+1)+(y+1),none⟩=some (.int .i16 (lc l0 l1 (x+1) (y+1):Int)):=by rw [HW.out];exact (HX.out.tab.cell (show x+1≤l0.length from hx) (show y+1≤l1.length from hy)).1
           rw [hx3] at d1
           obtain ⟨p3,hp3⟩:∃ p,p=(x+1)*(l1.length+1)+(y+1):=⟨_,rfl⟩
           rw [←hp3] at d1
           have HQ3:=Aside0.mk hp3
           have HP3:=Aside0.mk (impl_Common.idx HN.out (show x+1≤l0.length from hx) (show y+1≤l1.length from hy))
           have HV3:=Aside0.mk hx3
           clear hp3 hx3
           have wa:IntKind.i64.wrap ((x:Int)+1)=(x:Int)+1:=(i64_w _).trans (by unfold wrap64;omega)
           have wb:IntKind.i64.wrap ((y:Int)+1)=(y:Int)+1:=(i64_w _).trans (by unfold wrap64;omega)
           have wc:IntKind.i16.wrap (1+x3)=1+x3:=by simp [IntKind.wrap,IntKind.bits,IntKind.signed];omega
           have CC:=Aside0.mk (fun nd=>impl_Common.at_calls l1.length (x+1) (y+1) N cap p3 Bt Bm Br ((x:Int)+1) ((y:Int)+1) rfl rfl (wr.drewN nd) (by omega) e1 (by omega) HQ3.out (by omega) (by rw [HQ3.out];exact HP3.out) hczt' hczm')
           clear hczt'
           have hhe:l0[x]=l1[y]:=by
            have he:=hab
            rw [ByteArray.toList_eq,ByteArray.toList_eq] at he
            exact ba_ext he
           by_cases hl:1+x3=L
           ·have t2:(1+x3==L)=true:=beq_iff_eq.mpr hl
            have t3:decide (1+x3=L)=true:=decide_eq_true hl
            rw [if_pos ⟨hhe,by have:=HV3.out;have:=HL.out;omega⟩] at HPq
            have hpe:(x,y)=p:=Option.some.inj HPq
            have HE:=Aside0.mk hl
            have HPE:=Aside0.mk hpe
            clear hl hab HPq hhe hpe
            go_wp2_with fail
            go_quiet (first|(go_at_call 65;with_reducible exact Calls.quiet_of_same (CC.out _)))
            clear wa wb wc
            have HO2:=Aside0.mk (show Kd.R k63 63 (wr.drewN nq) w.heap.size (fun _=>True) vo out from by rw [HW.out];exact Kd.R_drewN (Kd.R_drewN HO.out _) _)
            have HX2:=Aside0.mk (show impl_Common.At w l0.length l1.length N cap Bt Bm Br (fun a b=>(lc l0 l1 a b:Int)) (wr.drewN nq) from by rw [HW.out];exact (HX.out.drewN _).drewN _)
            clear HO HX HW
            generalize wr.drewN nq=W3 at HO2 HX2 ⊢
            have wd:IntKind.i16.wrap (L - 1)=L - 1:=by simp [IntKind.wrap,IntKind.bits,IntKind.signed];have:=HE.out;omega
            go_wp2_with (first|(at_builtin;refine Kd.R_append k63 (w0:=w) w.heap.size rfl (.tmp 132) (.tmp 136) 57 63 (.agg #[.int .i64 0,.int .i64 0]) 16 rfl Tryd.underlying57 (by kernel_rfl) rfl (by decide) (by omega) vo out (⟨(x:Int),(y:Int)⟩:S63) [.int .i64 (x:Int),.int .i64 (y:Int)] (fun _=>True) (fun _=>False) rfl (by first|(go_simp;done)|(go_simp;rfl)) (k63_mkM _ _ _ ⟨(x:Int),(y:Int)⟩) (fun _ hk=>hk.elim) (fun _ _=>trivial) HO2.out HX2.out.below (below_size HX2.out.below) (by have:=HOL.out;omega) ?_;intro v1 w4 ho hb hg hat;refine Ya2 ho (HX2.out.appended HO2.out hg hb) ?_;clear HO2 HX2 ho hb hg hat;intro HO2 HX2))
            rw [Exit.noGoto_normal]
            go_wp2
            go_roundg g
            case measure=>omega
            case rel =>
             refine ⟨x+1,y+1,L - 1,out ++ [⟨(x:Int),(y:Int)⟩],v1,rfl,rfl,rfl,rfl,⟨by have:=HL.out;omega⟩,⟨by omega⟩,⟨by have:=HV3.out;have:=HE.out;have:=HL.out;omega⟩,⟨by have:=HOL.out;rw [List.length_append,List.length_singleton];omega⟩,⟨?_⟩,HO2,HX2⟩
             have h1:=HALL.out
             rw [show pairs l0 l1 (g+1) i j=(match pairFirst l0 l1 (g+1) j (l0.length - i) i with
              | some p=>p :: pairs l0 l1 g (p.1+1) (p.2+1)
              | none => []) from rfl,HP0.out,←HPE.out] at h1
             rw [←h1,List.append_assoc]
             rfl
           ·have t2:(1+x3==L)=false:=beq_eq_false_iff_ne.mpr hl
            have t3:decide (1+x3=L)=false:=decide_eq_false hl
            rw [if_neg (fun h=>hl (by have:=HV3.out;have:=HL.out;have:=h.2;omega))] at HPq
            have HPQ:=Aside0.mk HPq
            clear hl hab HPq hhe
            go_wp2_with fail
            go_quiet (first|(go_at_call 65;with_reducible exact Calls.quiet_of_same (CC.out _)))
            clear wa wb wc
            go_wp2
            go_roundg k2
            case measure=>omega
            case rel=>exact ⟨y+1,nd2+nq,rfl,rfl,rfl,rfl,⟨by have:=HK2.out;omega⟩,HPQ,by rw [HW.out,World.drewN_drewN]⟩
          ·have t0:(l0[x].toList==l1[y].toList)=false:=beq_eq_false_iff_ne.mpr hab
           have t1:(l0[x].toList != l1[y].toList)=true:=bne_iff_ne.mpr hab
           rw [if_neg (fun h=>hab (by rw [h.1]))] at HPq
           have HPQ:=Aside0.mk HPq
           clear hab HPq hczt'
           go_wp2_with fail
           go_quiet (fail)
           go_wp2
           go_roundg k2
           case measure=>omega
           case rel=>exact ⟨y+1,nd2+nq,rfl,rfl,rfl,rfl,⟨by have:=HK2.out;omega⟩,HPQ,by rw [HW.out,World.drewN_drewN]⟩
   | succ g =>
    have hi0:0≤i:=by have:=HK.out;omega
    have c1:decide (0≤i)=true:=decide_eq_true hi0
    have HX0:=Aside0.mk (HX.out.same (t':=impl_Common.T l0 l1 i ((l1.length:Int) - 1)) fun a b ha hb=>by
     unfold impl_Common.T
     by_cases h:i<(a:Int)∨(i=(a:Int)∧(l1.length:Int)<(b:Int))
     ·rw [if_pos h,if_pos (by omega)]
     ·rw [if_neg h]
      split
      ·rw [lc_out2 (by omega)]
       rfl
      ·rfl)
    have ⟨hczm,hfzm⟩:=Yc1 HX.out.bm
    clear HX
    go_wp2
    go_loopg [10] (l1.length) (fun kq v10 w' => ∃ j:Int,v10 = .int .i64 j∧Aside0 (j+1=(kq:Int))∧Aside0 (j<(l1.length:Int))∧Aside0 (impl_Common.At w l0.length l1.length N cap Bt Bm Br (impl_Common.T l0 l1 i j) w'))
    case atStart=>exact ⟨(l1.length:Int) - 1,rfl,⟨by omega⟩,⟨by omega⟩,HX0⟩
    case round =>
     clear HX0 hczm hfzm
     obtain ⟨j,rfl,HK2,HJ,HX⟩:=hrel
     have hjm:=HJ.out
     cases gk with
     | zero =>
      have c2:decide (0≤j)=false:=decide_eq_false (by have:=HK2.out;omega)
      go_wp2
      go_roundg g
      case measure=>omega
      case rel=>exact ⟨i - 1,rfl,⟨by have:=HK.out;omega⟩,⟨by omega⟩,⟨HX.out.same fun a b ha hb=>by
       have:=HK2.out
       unfold impl_Common.T
       by_cases h:i<(a:Int)∨(i=(a:Int)∧j<(b:Int))
       ·rw [if_pos h,if_pos (by omega)]
       ·rw [if_neg h,if_neg (by omega)]⟩⟩
     | succ g2 =>
      have hj0:0≤j:=by have:=HK2.out;omega
      have c2:decide (0≤j)=true:=decide_eq_true hj0
      obtain ⟨a,rfl⟩:∃ a:Nat,i=(a:Int):=⟨i.toNat,by have:=HK.out;omega⟩
      obtain ⟨b,rfl⟩:∃ b:Nat,j=(b:Int):=⟨j.toNat,by have:=HK2.out;omega⟩
      have ha:a<l0.length:=by omega
      have hb:b<l1.length:=by omega
      obtain ⟨x1,hx1,y1,z1⟩:=impl_Common.lc_1500 l0 l1 e0 (a+1) b
      obtain ⟨x2,hx2,y2,z2⟩:=impl_Common.lc_1500 l0 l1 e0 a (b+1)
      obtain ⟨x3,hx3,y3,z3⟩:=impl_Common.lc_1500 l0 l1 e0 (a+1) (b+1)
      have c1:=(HX.out.tab.cell (show a+1≤l0.length from ha) (Nat.le_of_lt hb)).1
      have c2:=(HX.out.tab.cell (Nat.le_of_lt ha) (show b+1≤l1.length from hb)).1
      have c3:=(HX.out.tab.cell (show a+1≤l0.length from ha) (show b+1≤l1.length from hb)).1
      obtain ⟨c5,c4⟩:=HX.out.tab.cell (Nat.le_of_lt ha) (Nat.le_of_lt hb)
      generalize impl_Common.T l0 l1 (a:Int) (b:Int) a b=x0 at c5
      rw [show impl_Common.T l0 l1 (a:Int) (b:Int) (a+1) b=x1 from by unfold impl_Common.T;rw [if_pos (by omega)];exact hx1] at c1
      rw [show impl_Common.T l0 l1 (a:Int) (b:Int) a (b+1)=x2 from by unfold impl_Common.T;rw [if_pos (by omega)];exact hx2] at c2
      rw [show impl_Common.T l0 l1 (a:Int) (b:Int) (a+1) (b+1)=x3 from by unfold impl_Common.T;rw [if_pos (by omega)];exact hx3] at c3
      have HP1:=Aside0.mk (impl_Common.idx HN.out (show a+1≤l0.length from ha) (Nat.le_of_lt hb))
      have HP2:=Aside0.mk (impl_Common.idx HN.out (Nat.le_of_lt ha) (show b+1≤l1.length from hb))
      have HP3:=Aside0.mk (impl_Common.idx HN.out (show a+1≤l0.length from ha) (show b+1≤l1.length from hb))
      have HP0:=Aside0.mk (impl_Common.idx HN.out (Nat.le_of_lt ha) (Nat.le_of_lt hb))
      obtain ⟨p1,hp1⟩:∃ p,p=(a+1)*(l1.length+1)+b:=⟨_,rfl⟩
      obtain ⟨p2,hp2⟩:∃ p,p=a*(l1.length+1)+(b+1):=⟨_,rfl⟩
      obtain ⟨p3,hp3⟩:∃ p,p=(a+1)*(l1.length+1)+(b+1):=⟨_,rfl⟩
      obtain ⟨p0,hp0⟩:∃ p,p=a*(l1.length+1)+b:=⟨_,rfl⟩
      rw [←hp1] at c1
      rw [←hp2] at c2
      rw [←hp3] at c3
      rw [←hp0] at c4 c5
      have HQ1:=Aside0.mk hp1
      have HQ2:=Aside0.mk hp2
      have HQ3:=Aside0.mk hp3
      have HQ0:=Aside0.mk hp0
      have HV1:=Aside0.mk hx1
      have HV2:=Aside0.mk hx2
      have HV3:=Aside0.mk hx3
      clear hp1 hp2 hp3 hp0 hx1 hx2 hx3
      have ⟨hczm,hfzm⟩:=Yc1 HX.out.bm
      have ⟨hczt,hfzt⟩:=Yc1 HX.out.bt
      have HM:=Aside0.mk hczm
      have HT:=Aside0.mk hczt
      have ca:=fun nd=>impl_Common.at_calls l1.length (a+1) b N cap p1 Bt Bm Br ((a:Int)+1) (b:Int) rfl rfl (wr.drewN nd) (by omega) e1 (by omega) HQ1.out (by omega) (by rw [HQ1.out];exact HP1.out) HT.out HM.out
      have cb:=fun nd=>impl_Common.at_calls l1.length a (b+1) N cap p2 Bt Bm Br (a:Int) ((b:Int)+1) rfl rfl (wr.drewN nd) (by omega) e1 (by omega) HQ2.out (by omega) (by rw [HQ2.out];exact HP2.out) HT.out HM.out
      have cc:=fun nd=>impl_Common.at_calls l1.length (a+1) (b+1) N cap p3 Bt Bm Br ((a:Int)+1) ((b:Int)+1) rfl rfl (wr.drewN nd) (by omega) e1 (by omega) HQ3.out (by omega) (by rw [HQ3.out];exact HP3.out) HT.out HM.out
      have cd:=fun nd=>impl_Common.at_calls l1.length a b N cap p0 Bt Bm Br (a:Int) (b:Int) rfl rfl (wr.drewN nd) (by omega) e1 (by omega) HQ0.out (by omega) (by rw [HQ0.out];exact HP0.out) HT.out HM.out
      have CA:=Aside0.mk ca
      have CB:=Aside0.mk cb
      have CC:=Aside0.mk cc
      have CD:=Aside0.mk cd
      clear ca cb cc cd hczm hczt hfzm hfzt
      obtain ⟨ad0,e0_,s0⟩:=Kd.at_string (Kd.C_below HR0.out HX.out.below) (a:Int) (by omega) (by omega)
      obtain ⟨ad1,e1_,s1⟩:=Kd.at_string (Kd.C_below HR1.out HX.out.below) (b:Int) (by omega) (by omega)
      cases e0_
      cases e1_
      rw [rd_of ha,Int.toNat_natCast] at s0
      rw [rd_of hb,Int.toNat_natCast] at s1
      have q0:decide ((a:Int)<(l0.length:Int))=true:=decide_eq_true (by omega)
      have q1:decide ((b:Int)<(l1.length:Int))=true:=decide_eq_true (by omega)
      have q2:decide (a<l0.length)=true:=decide_eq_true ha
      have q3:decide (b<l1.length)=true:=decide_eq_true hb
      have wa:IntKind.i64.wrap ((a:Int)+1)=(a:Int)+1:=(i64_w _).trans (by unfold wrap64;omega)
      have wb:IntKind.i64.wrap ((b:Int)+1)=(b:Int)+1:=(i64_w _).trans (by unfold wrap64;omega)
      go_wp2_with fail
      go_quiet (first|(go_at_call 65;with_reducible exact Calls.quiet_of_same (CA.out _))|(go_at_call 65;with_reducible exact Calls.quiet_of_same (CB.out _)))
      generalize nq=nq_1
      obtain ⟨v,hv,hv0,hv1⟩:∃ v,(if x1<x2 then x2 else x1)=v∧0≤v∧v≤1500:=⟨_,rfl,by split <;> omega,by split <;> omega⟩
      rw [hv]
      have HV:=Aside0.mk hv
      clear hv
      by_cases hab:l0[a].toList=l1[b].toList
      ·have t0:(l0[a].toList==l1[b].toList)=true:=beq_iff_eq.mpr hab
       have t1:(l0[a].toList != l1[b].toList)=false:=bne_eq_false_iff_eq.mpr hab
       have wc:IntKind.i16.wrap (1+x3)=1+x3:=by simp [IntKind.wrap,IntKind.bits,IntKind.signed];omega
       have HE:=Aside0.mk hab
       clear hab
       go_wp2
       go_quiet (fail)
       clear wa wb
       go_wp2_with (first|(go_at_call 65;(with_reducible refine (CC.out _).mono ?_);rintro e w' ⟨rfl,rfl⟩)|(go_at_call 65;(with_reducible refine (CD.out _).mono ?_);rintro e w' ⟨rfl,rfl⟩))
       all_goals
        have hlc:=impl_Common.lc_eq ha hb HV1.out HV2.out HV3.out HV.out HE.out
        first
         | (rw [if_pos (by assumption)] at hlc)
         | (rw [if_neg (by omega)] at hlc)
        have hput:=(HX.out.drewN (nq_1+nq)).put (Nat.le_of_lt ha) (Nat.le_of_lt hb) _ (fun x y _ _=>impl_Common.T_put hlc x y)
        rw [←HQ0.out] at hput
        have HY:=Aside0.mk hput
        clear hput hlc
        go_roundg g2
        case measure=>omega
        case rel=>exact ⟨(b:Int) - 1,rfl,⟨by have:=HK2.out;omega⟩,⟨by omega⟩,HY⟩
      ·have t0:(l0[a].toList==l1[b].toList)=false:=beq_eq_false_iff_ne.mpr hab
       have t1:(l0[a].toList != l1[b].toList)=true:=bne_iff_ne.mpr hab
       have HE:=Aside0.mk hab
       clear hab
       go_wp2
       go_quiet (fail)
       clear wa wb
       go_wp2_with (first|(go_at_call 65;(with_reducible refine (CD.out _).mono ?_);rintro e w' ⟨rfl,rfl⟩))
       have hlc:=impl_Common.lc_ne ha hb HV1.out HV2.out HV.out HE.out
       have hput:=(HX.out.drewN (nq_1+nq)).put (Nat.le_of_lt ha) (Nat.le_of_lt hb) _ (fun x y _ _=>impl_Common.T_put hlc x y)
       rw [←HQ0.out] at hput
       have HY:=Aside0.mk hput
       clear hput hlc
       go_roundg g2
       case measure=>omega
       case rel=>exact ⟨(b:Int) - 1,rfl,⟨by have:=HK2.out;omega⟩,⟨by omega⟩,HY⟩


end Go.Proofs.YtkmfnmeilooogaaDoor.P


namespace Go.Proofs.YtkmfnmeilooogaaDoor.P
open Go.RowKit Go.Proofs.YtkmfnmeilooogaaDoorW.PrintWords Go.Proofs.YtkmfnmeilooogaaDoorW.PrintLast Go.Proofs.YtkmfnmeilooogaaDoorW.PrintMore
attribute [local go_sem] max2_int min2_int max_two min_two max_three min_three max_four min_four
set_option linter.unusedVariables false
set_option linter.unusedSimpArgs false

def strings_SplitAfter.f (a0 a1:ByteArray):Option (List ByteArray):=if a0.size<4294967281 then (if 1≤a1.size then some (Go.Lib.splitB a1 a1.size (Go.Lib.countB a0 a1) a0) else none) else none
set_option maxRecDepth 100000 in
theorem strings_SplitAfter.calls (a0 a1:ByteArray) (r:List ByteArray) (w:World) (hg:GOK w) (h:strings_SplitAfter.f a0 a1=some r) :
  Calls Tryd.prog 64 #[.string a0,.string a1] w fun e w' => ∃ v0_:Value,e = .returned (v0_)∧Kd.R Kd.string 9 w' w.heap.size (fun _=>True) v0_ r∧Below w.heap.size w w':=by
 unfold strings_SplitAfter.f at h
 split at h
 ·rename_i hs
  split at h
  ·rename_i h1
   obtain rfl:=Option.some.inj h;obtain ⟨m,hm⟩:=hg;have hle:=Go.Lib.countB_le a1 h1 a0.size a0 (Nat.le_refl _);have hlen:=Go.Lib.splitB_all a1 h1 a1.size (Go.Lib.countB a0 a1) a0 rfl
   have hN:((Go.Lib.countB a0 a1+1:Nat):Int)=min (if (-1:Int)<0 then (Go.Lib.countB a0 a1:Int)+1 else (-1)) ((a0.size:Int)+1):=by
    rw [if_pos (by decide)]
    omega
   have HC:=Tryd.strings_genSplit a0 a1 a1.size (-1) (Go.Lib.countB a0 a1+1) m w hs hm h1 (Nat.le_refl _) (by decide) (by decide) hN
   rw [Nat.add_sub_cancel] at HC
   have hfull:Go.Lib.cellsOf (Go.Lib.splitB a1 a1.size (Go.Lib.countB a0 a1) a0) (Go.Lib.countB a0 a1+1)=((Go.Lib.splitB a1 a1.size (Go.Lib.countB a0 a1) a0).map Value.string).toArray:=by
    have:=Go.Lib.cellsOf_full (Go.Lib.splitB a1 a1.size (Go.Lib.countB a0 a1) a0)
    rwa [hlen] at this
   rw [hfull] at HC
   have HR:=Ow.R_new_block Value.string (fun _=>rfl) 9 w (Go.Lib.splitB a1 a1.size (Go.Lib.countB a0 a1) a0) (by rw [hlen];unfold maxLen;omega)
   rw [hlen] at HC HR
   generalize Go.Lib.splitB a1 a1.size (Go.Lib.countB a0 a1) a0=L at HC HR ⊢; clear hN hfull hlen
   go_enter Tryd.func64,Tryd.ntmps64
   go_wp2_with (go_at_call 77;refine HC.mono ?_;rintro e w' ⟨rfl,rfl⟩)
   go_ret
   exact ⟨_,rfl,HR,below_alloc (Below.refl _ _) _⟩
  ·cases h
 ·cases h


end Go.Proofs.YtkmfnmeilooogaaDoor.P


namespace Go.Proofs.YtkmfnmeilooogaaDoor.P
open Go.RowKit Go.Proofs.YtkmfnmeilooogaaDoorW.PrintWords Go.Proofs.YtkmfnmeilooogaaDoorW.PrintLast Go.Proofs.YtkmfnmeilooogaaDoorW.PrintMore
attribute [local go_sem] max2_int min2_int max_two min_two max_three min_three max_four min_four
set_option linter.unusedVariables false
set_option linter.unusedSimpArgs false

def impl_Lines.f (a0:ByteArray):Option (List ByteArray):=if (a0.size:Int)>1500 then (some ([]:List ByteArray)) else ((strings_SplitAfter.f a0 (⟨#[10]⟩:ByteArray)).bind fun a1=>(if 0≤(wrap64 ((a1.length:Int) - 1)) then (if (wrap64 ((a1.length:Int) - 1))<(a1.length:Int) then (if (rdOf ByteArray.empty a1 (wrap64 ((a1.length:Int) - 1))).toList=([]:List UInt8) then (if (wrap64 ((a1.length:Int) - 1))≤(a1.length:Int) then (some (a1.take ((wrap64 ((a1.length:Int) - 1)):Int).toNat)) else (none)) else (some a1)) else (none)) else (none)))
set_option maxHeartbeats 8000000 in
set_option maxRecDepth 100000 in
theorem impl_Lines.calls (a0:ByteArray) (r:List ByteArray) (w:World) (hg:GOK w) (h:impl_Lines.f a0=some r) :
  Calls Tryd.prog 28 #[.string a0] w fun e w' => ∃ v0_:Value,e = .returned (v0_)∧Kd.R Kd.string 9 w' w.heap.size (fun _=>True) v0_ r∧Below w.heap.size w w':=by
 have HG:=Aside0.mk hg;clear hg;have HB:=Aside0.mk (Below.refl w.heap.size w);have H:(if (a0.size:Int)>1500 then (some ([]:List ByteArray)) else ((strings_SplitAfter.f a0 (⟨#[10]⟩:ByteArray)).bind fun a1=>(if 0≤(wrap64 ((a1.length:Int) - 1)) then (if (wrap64 ((a1.length:Int) - 1))<(a1.length:Int) then (if (rdOf ByteArray.empty a1 (wrap64 ((a1.length:Int) - 1))).toList=([]:List UInt8) then (if (wrap64 ((a1.length:Int) - 1))≤(a1.length:Int) then (some (a1.take ((wrap64 ((a1.length:Int) - 1)):Int).toNat)) else (none)) else (some a1)) else (none)) else (none))))=some r:=h;clear h
 by_cases c2:(a0.size:Int)>1500
 ·rw [if_pos c2] at H
  have ad:decide (1500<(a0.size:Int))=true:=decide_eq_true c2;have ae:decide (1500<a0.size)=true:=decide_eq_true (by omega);clear c2;obtain rfl:=Option.some.inj H
  go_enter Tryd.func28,Tryd.ntmps28
  go_wp2
  go_ret
  exact ⟨_,Ye2,nl,be HB.out⟩
 ·rw [if_neg c2] at H
  have ad:decide (1500<(a0.size:Int))=false:=decide_eq_false c2;have ae:decide (1500<a0.size)=false:=decide_eq_false (by omega);clear c2;replace H:=Option.bind_eq_some_iff.mp H;obtain ⟨a1,A30,H⟩:=H;replace H:(if 0≤(wrap64 ((a1.length:Int) - 1)) then (if (wrap64 ((a1.length:Int) - 1))<(a1.length:Int) then (if (rdOf ByteArray.empty a1 (wrap64 ((a1.length:Int) - 1))).toList=([]:List UInt8) then (if (wrap64 ((a1.length:Int) - 1))≤(a1.length:Int) then (some (a1.take ((wrap64 ((a1.length:Int) - 1)):Int).toNat)) else (none)) else (some a1)) else (none)) else (none))=some r:=H;have A3:=Aside0.mk A30;clear A30
  obtain ⟨a2,a6⟩:∃ j_:Int,(wrap64 ((a1.length:Int) - 1))=j_:=⟨_,rfl⟩
  replace H:(if 0≤(a2) then (if (a2)<(a1.length:Int) then (if (rdOf ByteArray.empty a1 (a2)).toList=([]:List UInt8) then (if (a2)≤(a1.length:Int) then (some (a1.take ((a2):Int).toNat)) else (none)) else (some a1)) else (none)) else (none))=some r:=by first|(rw [a6] at H;exact H)|(simp only [a6] at H ⊢; exact H)
  (try rw [a6] at A3);have hji4w:(IntKind.i64.wrap ((a1.length:Int) - 1))=a2:=(i64_w _).trans a6
  by_cases c5:0≤(a2)
  ·rw [if_pos c5] at H
   have c5b0:decide (0≤(a2))=true:=decide_eq_true c5;clear c5
   by_cases c6:(a2)<(a1.length:Int)
   ·rw [if_pos c6] at H
    have c6b0:decide ((a2)<(a1.length:Int))=true:=decide_eq_true c6;clear c6
    by_cases c7:(rdOf ByteArray.empty a1 (a2)).toList=([]:List UInt8)
    ·rw [if_pos c7] at H
     have af:((rdOf ByteArray.empty a1 (a2)).toList==([]:List UInt8))=true:=beq_iff_eq.mpr c7;have ag:((rdOf ByteArray.empty a1 (a2)).toList != ([]:List UInt8))=false:=bne_eq_false_iff_eq.mpr c7;clear c7
     by_cases c8:(a2)≤(a1.length:Int)
     ·rw [if_pos c8] at H
      have c8b0:=eq_true c8;have c8b1:decide ((a2)≤(a1.length:Int))=true:=decide_eq_true c8;clear c8
      obtain ⟨a9,a7⟩:∃ y_:List ByteArray,y_=(a1.take ((a2):Int).toNat):=⟨_,rfl⟩
      replace H:(some a9)=some r:=by first|(rw [a7];with_reducible exact H)|(have H2_:=(Option.bind_some _ _).symm.trans H;rw [a7];with_reducible exact H2_)|(have H2_:=(Option.bind_some _ _).symm.trans H;with_reducible exact H2_)|with_reducible exact H|(rw [a7];exact H)|exact H
      have aa:=Aside0.mk a7;clear a7;obtain rfl:=Option.some.inj H
      go_enter Tryd.func28,Tryd.ntmps28
      go_wp2_with (first|((with_reducible refine gc 64 rfl ?_);refine gl (some 8) _ (#[.string a0,.string (⟨#[10]⟩:ByteArray)]) Tryd.func64 ?_;(with_reducible refine (strings_SplitAfter.calls a0 (⟨#[10]⟩:ByteArray) a1 _ ?sideG A3.out).mono ?_);(case sideG=>exact gk HG.out HB.out);rintro e w9 ⟨ah,rfl,ho0,hb⟩;refine ⟨_,rfl,?_⟩;refine Ya2 (Kd.R_lower ho0 (below_size (be HB.out))) (below_step (be HB.out) hb) ?_;clear HB;intro a3 HB;(try clear hb);(try clear hb2);(try clear hk);(try clear hi);(try clear ho0);obtain ⟨Ao10,ai,aj⟩:=Kd.R_slice a3.out;subst aj;have a4:0≤((a2):Int):=oda;have a5:(a2)<(a1.length:Int):=oda;obtain ⟨ab,a8,ak⟩:=Kd.at_string (Kd.R_reads' a3.out).2.2 (a2) a4 a5;cases a8;replace a4:=eq_true a4;replace a5:=eq_true a5;have q11:((a2):Int)≤((a1.length:Int):Int):=oda;obtain ⟨i011,hi011,_,hsz11,_⟩:=info_parts info9;have hcut11:=cut_to (P:=Tryd.prog) 29 9 .i64 Tryd.underlying29 hi011 (some ab) a1.length ai (a2) (oda) q11 (Kd.R_reads' a3.out).2.1;have hr11:=Kd.R_take (m:=((a2):Int).toNat) a3.out (by omega);have ac:a9.length=((a2):Int).toNat:=(by rw [aa.out,List.length_take];omega);rw [←aa.out] at hr11;rw [←ac] at hr11 hcut11;clear ac hi011 hsz11 a3;have al:=Aside0.mk hr11;clear hr11;replace q11:=eq_true q11))
      go_ret
      exact ⟨_,by first|rfl|(simp [errW_none,errW_some] <;> rfl)|(simp only [←a6];first|rfl|(simp [errW_none,errW_some] <;> rfl))|(simp [*,errW_none,errW_some] <;> rfl),kr al.out,be HB.out⟩
     ·rw [if_neg c8] at H
      exact absurd H (by simp)
    ·rw [if_neg c7] at H
     have af:((rdOf ByteArray.empty a1 (a2)).toList==([]:List UInt8))=false:=beq_eq_false_iff_ne.mpr c7;have ag:((rdOf ByteArray.empty a1 (a2)).toList != ([]:List UInt8))=true:=bne_iff_ne.mpr c7;obtain rfl:=Option.some.inj H
     go_enter Tryd.func28,Tryd.ntmps28
     go_wp2_with (first|((with_reducible refine gc 64 rfl ?_);refine gl (some 8) _ (#[.string a0,.string (⟨#[10]⟩:ByteArray)]) Tryd.func64 ?_;(with_reducible refine (strings_SplitAfter.calls a0 (⟨#[10]⟩:ByteArray) a1 _ ?sideG A3.out).mono ?_);(case sideG=>exact gk HG.out HB.out);rintro e w12 ⟨ah,rfl,ho0,hb⟩;refine ⟨_,rfl,?_⟩;refine Ya2 (Kd.R_lower ho0 (below_size (be HB.out))) (below_step (be HB.out) hb) ?_;clear HB;intro a3 HB;(try clear hb);(try clear hb2);(try clear hk);(try clear hi);(try clear ho0);obtain ⟨Ao13,co13,am⟩:=Kd.R_slice a3.out;subst am;have a4:0≤((a2):Int):=oda;have a5:(a2)<(a1.length:Int):=oda;obtain ⟨ab,a8,ak⟩:=Kd.at_string (Kd.R_reads' a3.out).2.2 (a2) a4 a5;cases a8;replace a4:=eq_true a4;replace a5:=eq_true a5))
     go_ret
     exact ⟨_,by first|rfl|(simp [errW_none,errW_some] <;> rfl)|(simp only [←a6];first|rfl|(simp [errW_none,errW_some] <;> rfl))|(simp [*,errW_none,errW_some] <;> rfl),kr a3.out,be HB.out⟩
   ·rw [if_neg c6] at H
    exact absurd H (by simp)
  ·rw [if_neg c5] at H
   exact absurd H (by simp)

end Go.Proofs.YtkmfnmeilooogaaDoor.P


namespace Go.Proofs.YtkmfnmeilooogaaDoor.P
open Go.RowKit Go.Proofs.YtkmfnmeilooogaaDoorW.PrintWords Go.Proofs.YtkmfnmeilooogaaDoorW.PrintLast Go.Proofs.YtkmfnmeilooogaaDoorW.PrintMore
attribute [local go_sem] max2_int min2_int max_two min_two max_three min_three max_four min_four
set_option linter.unusedVariables false
set_option linter.unusedSimpArgs false

/- The shelf's contract, told of rows. -/
/-- A row of texts, cell by cell. -/
theorem Tx.row {w:World} {A:Option Addr} {l:List ByteArray} (h:Kd.C Kd.string w A l.length l) (hp:0<l.length):∃ b o,A=some ⟨b,o,none⟩∧b<w.heap.size ∧ ∀ (j:Nat) x,l[j]? = some x→w.cell? ⟨b,o+j,none⟩=some (.string x):=by
 obtain ⟨ad,e,h1⟩:=Kd.at_string h 0 (by omega) (by omega);subst e;obtain ⟨b,off,el⟩:=ad
 have hel:el=none:=by
  cases el with
  | none=>rfl
  | some x =>
   simp [World.cell?,Addr.add] at h1
   split at h1 <;> cases h1
 subst hel;refine ⟨b,off,rfl,World.block_lt_of_cell? w _ h1,fun j x hj => ?_⟩;have hlt:=(List.getElem?_eq_some_iff.1 hj).1;obtain ⟨ad,e,h1⟩:=Kd.at_string h (j:Int) (by omega) (by omega)
 cases e
 rw [Int.toNat_natCast] at h1
 have e2:rdOf ByteArray.empty l (j:Int)=x:=by
  unfold rdOf
  rw [Int.toNat_natCast,List.getD_eq_getElem?_getD,hj]
  rfl
 rw [e2] at h1
 by_cases hj0:j=0
 ·subst hj0
  simpa [Addr.add] using h1
 ·simpa [Addr.add,hj0] using h1
def strings_Join.f (l0:List ByteArray) (a1:ByteArray):Option ByteArray:=if l0.length≤140737488355328∧(Lib.join (l0.map (·.data.toList)) a1.data.toList).length≤140737488355328 then some ⟨(Lib.join (l0.map (·.data.toList)) a1.data.toList).toArray⟩ else none
theorem strings_Join.calls (A0:Option Addr) (c0:Nat) (l0:List ByteArray) (a1:ByteArray) (r:ByteArray) (w:World) (hr0:Kd.C Kd.string w A0 l0.length l0) (hc0:l0.length≤c0) (h:strings_Join.f l0 a1=some r) :
  Calls Tryd.prog 30 #[.slice A0 l0.length c0,.string a1] w fun e w'=>e = .returned (.string r)∧Below w.heap.size w w':=by
 unfold strings_Join.f at h
 split at h
 ·rename_i hz
  obtain rfl:=Option.some.inj h
  match l0,hr0,hc0,hz with
  | [],_,_,_=>exact (Tryd.strings_Join_none _ c0 a1 w).mono fun e w' ⟨he,hw⟩=>⟨he,hw ▸ Below.refl _ _⟩
  | x :: r,hr0,hc0,hz =>
   obtain ⟨b,o,rfl,hb,hc⟩:=Tx.row hr0 (by simp);exact Tryd.strings_Join b o c0 (x :: r) a1 w hc hb hz.1 hc0 hz.2
 ·cases h


end Go.Proofs.YtkmfnmeilooogaaDoor.P


namespace Go.Proofs.YtkmfnmeilooogaaDoor.P
open Go.RowKit Go.Proofs.YtkmfnmeilooogaaDoorW.PrintWords Go.Proofs.YtkmfnmeilooogaaDoorW.PrintLast Go.Proofs.YtkmfnmeilooogaaDoorW.PrintMore
attribute [local go_sem] max2_int min2_int max_two min_two max_three min_three max_four min_four
set_option linter.unusedVariables false
set_option linter.unusedSimpArgs false

/- The shelf's walk, told of rows. -/
theorem slices_Equal_string_string.calls (A0:Option Addr) (c0:Nat) (l0:List ByteArray) (A1:Option Addr) (c1:Nat) (l1:List ByteArray) (w:World) (hr0:Kd.C Kd.string w A0 l0.length l0) (hr1:Kd.C Kd.string w A1 l1.length l1) :
  Calls Tryd.prog 31 #[.slice A0 l0.length c0,.slice A1 l1.length c1] w fun e w'=>e = .returned (.bool (decide (l0=l1))) ∧ ∃ q,w'=w.drewN q:=by
 have cells:∀ {A:Option Addr} {l:List ByteArray},Kd.C Kd.string w A l.length l→0<l.length → ∃ b o,A=some ⟨b,o,none⟩ ∧ ∀ j,j<l.length→w.cell? ⟨b,o+j,none⟩=some (.string (l.getD j ByteArray.empty)):=by
  intro A l h hp;obtain ⟨b,o,rfl,_,hc⟩:=Tx.row h hp;refine ⟨b,o,rfl,fun j hj => ?_⟩
  rw [List.getD_eq_getElem?_getD,List.getElem?_eq_getElem hj]
  exact hc j _ (List.getElem?_eq_getElem hj)
 by_cases h0:l0 = []
 ·subst h0;refine (Tryd.slices_Equal_string_empty A0 A1 c0 l1.length c1 w (Kd.C_max hr1)).mono ?_;rintro e w' ⟨rfl,rfl⟩;refine ⟨?_,0,rfl⟩
  cases l1 with
  | nil=>rfl
  | cons a t=>simp
 ·have p0:0<l0.length:=List.length_pos_iff.2 h0;obtain ⟨b,o,rfl,hc⟩:=cells hr0 p0
  by_cases h1:l1 = []
  ·subst h1
   have hl:¬ ((l0.length:Int)=0):=by omega
   have hl1:((l0.length:Int)==0)=false:=beq_eq_false_iff_ne.2 hl;have hl2:((l0.length:Int) != 0)=true:=bne_iff_ne.2 hl
   rw [List.length_nil]
   go_enter Tryd.func31,Tryd.ntmps31
   go_wp2
   go_ret
   refine ⟨?_,0,rfl⟩
   rw [decide_eq_false h0]
   rfl
  ·obtain ⟨b',o',rfl,hc'⟩:=cells hr1 (List.length_pos_iff.2 h1);refine (Tryd.slices_Equal_string b o l0.length c0 b' o' l1.length c1 l0 l1 w (Nat.le_refl _) (Nat.le_refl _) (Kd.C_max hr0) (Kd.C_max hr1) hc hc').mono ?_;rintro e w' ⟨rfl,h⟩
   rw [List.take_length,List.take_length]
   exact ⟨rfl,h⟩


end Go.Proofs.YtkmfnmeilooogaaDoor.P


namespace Go.Proofs.YtkmfnmeilooogaaDoor.P
open Go.RowKit Go.Proofs.YtkmfnmeilooogaaDoorW.PrintWords Go.Proofs.YtkmfnmeilooogaaDoorW.PrintLast Go.Proofs.YtkmfnmeilooogaaDoorW.PrintMore
attribute [local go_sem] max2_int min2_int max_two min_two max_three min_three max_four min_four
set_option linter.unusedVariables false
set_option linter.unusedSimpArgs false

mutual
def spec_l7First.l0:Nat→List ByteArray→List ByteArray→List (List Int)→Int→Int→Int→Option (Int×Int)
 | 0,_,_,_,_,_,_=>none
 | k+1,x0,x1,x2,x3,x4,x11=>if x11<(x0.length:Int) then (spec_l7First.l1 k x0 x1 x2 x3 x4 x11 x4) else (some (0,0))
def spec_l7First.l1:Nat→List ByteArray→List ByteArray→List (List Int)→Int→Int→Int→Int→Option (Int×Int)
 | 0,_,_,_,_,_,_,_=>none
 | k+1,x0,x1,x2,x3,x4,x11,x12=>if x12<(x1.length:Int) then (if 0≤x11 then (if x11<(x0.length:Int) then (if 0≤x12 then (if (rdOf ByteArray.empty x0 x11).toList=(rdOf ByteArray.empty x1 x12).toList then (if 0≤(wrap64 (x11+1)) then (if (wrap64 (x11+1))<(x2.length:Int) then (if 0≤(wrap64 (x12+1)) then (if (wrap64 (x12+1))<((rd_L2 x2 (wrap64 (x11+1))).length:Int) then (if 0≤x3 then (if x3<(x2.length:Int) then (if 0≤x4 then (if x4<((rd_L2 x2 x3).length:Int) then (if (wrap64 ((rd (rd_L2 x2 (wrap64 (x11+1))) (wrap64 (x12+1)))+1))=(rd (rd_L2 x2 x3) x4) then (some (x11,x12)) else (spec_l7First.l1 k x0 x1 x2 x3 x4 x11 (wrap64 (x12+1)))) else (none)) else (none)) else (none)) else (none)) else (none)) else (none)) else (none)) else (none)) else (spec_l7First.l1 k x0 x1 x2 x3 x4 x11 (wrap64 (x12+1)))) else (none)) else (none)) else (none)) else (spec_l7First.l0 k x0 x1 x2 x3 x4 (wrap64 (x11+1)))
end
def spec_l7First.f (k:Nat) (l0:List ByteArray) (l1:List ByteArray) (l2:List (List Int)) (a3:Int) (a4:Int):Option (Int×Int):=spec_l7First.l0 k l0 l1 l2 a3 a4 a3
theorem spec_l7First.mono_l:∀ k,(∀ y0 y1 y2 y3 y4 y5,LeO (spec_l7First.l0 k y0 y1 y2 y3 y4 y5) (spec_l7First.l0 (k+1) y0 y1 y2 y3 y4 y5))∧(∀ y0 y1 y2 y3 y4 y5 y6,LeO (spec_l7First.l1 k y0 y1 y2 y3 y4 y5 y6) (spec_l7First.l1 (k+1) y0 y1 y2 y3 y4 y5 y6))
 | 0=>⟨fun _ _ _ _ _ _ r h=>by simp [spec_l7First.l0] at h,fun _ _ _ _ _ _ _ r h=>by simp [spec_l7First.l1] at h⟩
 | k + 1 => by
  obtain ⟨ih0,ih1⟩:=spec_l7First.mono_l k;refine ⟨?_,?_⟩
  ·intro y0 y1 y2 y3 y4 y5
   unfold spec_l7First.l0
   repeat' first
   | (with_reducible exact ih0 _ _ _ _ _ _)
   | (with_reducible exact ih1 _ _ _ _ _ _ _)
   | (with_reducible exact LeO.refl _)
   | (with_reducible exact LeO.none _)
   | (with_reducible refine LeO.ite ?_ ?_)
   | (with_reducible refine LeO.bind ?_ (fun _ => ?_))
   | exact ih0 _ _ _ _ _ _
   | exact ih1 _ _ _ _ _ _ _
   | exact LeO.none _
   | refine LeO.ite ?_ ?_
   | refine LeO.bind ?_ (fun _ => ?_)
  ·intro y0 y1 y2 y3 y4 y5 y6
   unfold spec_l7First.l1
   repeat' first
   | (with_reducible exact ih0 _ _ _ _ _ _)
   | (with_reducible exact ih1 _ _ _ _ _ _ _)
   | (with_reducible exact LeO.refl _)
   | (with_reducible exact LeO.none _)
   | (with_reducible refine LeO.ite ?_ ?_)
   | (with_reducible refine LeO.bind ?_ (fun _ => ?_))
   | exact ih0 _ _ _ _ _ _
   | exact ih1 _ _ _ _ _ _ _
   | exact LeO.none _
   | refine LeO.ite ?_ ?_
   | refine LeO.bind ?_ (fun _ => ?_)
theorem spec_l7First.mono:∀ a0 a1 a2 a3 a4 k,LeO (spec_l7First.f k a0 a1 a2 a3 a4) (spec_l7First.f (k+1) a0 a1 a2 a3 a4):=by
 intro a0 a1 a2 a3 a4 k;obtain ⟨ih0,ih1⟩:=spec_l7First.mono_l k
 unfold spec_l7First.f
 repeat' first
   | (with_reducible exact ih0 _ _ _ _ _ _)
   | (with_reducible exact ih1 _ _ _ _ _ _ _)
   | (with_reducible exact LeO.refl _)
   | (with_reducible exact LeO.none _)
   | (with_reducible refine LeO.ite ?_ ?_)
   | (with_reducible refine LeO.bind ?_ (fun _ => ?_))
   | exact ih0 _ _ _ _ _ _
   | exact ih1 _ _ _ _ _ _ _
   | exact LeO.none _
   | refine LeO.ite ?_ ?_
   | refine LeO.bind ?_ (fun _ => ?_)
set_option maxHeartbeats 8000000 in
set_option maxRecDepth 100000 in
theorem spec_l7First.calls (k : Nat) (A0 : Option Addr) (c0 : Nat) (l0 : List ByteArray) (A1 : Option Addr) (c1 : Nat) (l1 : List ByteArray) (A2 : Option Addr) (c2 : Nat) (l2 : List (List Int)) (a3 : Int) (a4 : Int) (r1 : Int) (r2 : Int) (w : World) (hr0 : Kd.C Kd.string w A0 l0.length l0) (hc0 : l0.length ≤ c0) (hr1 : Kd.C Kd.string w A1 l1.length l1) (hc1 : l1.length ≤ c1) (hr2 : Kd.C (Kd.slice 3 (Kd.int .i64)) w A2 l2.length l2) (hc2 : l2.length ≤ c2) (h : spec_l7First.f k l0 l1 l2 a3 a4 = some (r1, r2)) :
  Calls Tryd.prog 62 #[.slice A0 l0.length c0,.slice A1 l1.length c1,.slice A2 l2.length c2,.int .i64 a3,.int .i64 a4] w fun e w'=>e = .returned (.agg #[.int .i64 r1,.int .i64 r2])∧Below w.heap.size w w':=by
 have hu63:=Tryd.underlying63;have aJ:=Aside0.mk hr0;have HC0:=Aside0.mk hc0;clear hr0 hc0;have aK:=Aside0.mk hr1;have HC1:=Aside0.mk hc1;clear hr1 hc1;have ay:=Aside0.mk hr2;have HC2:=Aside0.mk hc2;clear hr2 hc2;have HB:=Aside0.mk (Below.refl w.heap.size w);have H:(spec_l7First.l0 k l0 l1 l2 a3 a4 a3)=some (r1,r2):=h;clear h;have H':=Aside0.mk H;clear H
 go_enter Tryd.func62,Tryd.ntmps62
 go_wp2_with (first|((with_reducible refine gd 10 rfl ?_);refine bx 10 63 (#[.int .i64 0,.int .i64 0]) ?_;intro ap hg w6 hbox hb;refine Ya4 (below_step (be HB.out) hb) (hbox) (bs hg (be HB.out)) (bs hg (be HB.out)) ?_;clear HB;intro HB a9 aV aW;clear hb hbox hg))
 repeat (go_quiet (first|((with_reducible refine gd 10 rfl ?_);refine bx 10 63 (#[.int .i64 0,.int .i64 0]) ?_;intro ap hg w6 hbox hb;refine Ya4 (below_step (be HB.out) hb) (hbox) (bs hg (be HB.out)) (bs hg (be HB.out)) ?_;clear HB;intro HB a9 aV aW;clear hb hbox hg));try go_wp2_with (first|((with_reducible refine gd 10 rfl ?_);refine bx 10 63 (#[.int .i64 0,.int .i64 0]) ?_;intro ap hg w6 hbox hb;refine Ya4 (below_step (be HB.out) hb) (hbox) (bs hg (be HB.out)) (bs hg (be HB.out)) ?_;clear HB;intro HB a9 aV aW;clear hb hbox hg)))
 go_loopg [11] k (fun kq v11 w' => ∃ (a5:Int) (aL:Int) (aM:Int),v11 = .int .i64 a5∧Aside0 (spec_l7First.l0 kq l0 l1 l2 a3 a4 a5=some (r1,r2))∧Aside0 (kq≤k)∧Aside0 (w'.heap[ap]? = some (.cells #[.int .i64 aL,.int .i64 aM] 63 (0,0)))∧Aside0 (Below w.heap.size w w'))
 case atStart=>exact ⟨(a3),(0),(0),Ye1,H',⟨Nat.le_refl _⟩,⟨bk a9.out⟩,⟨bf HB.out⟩⟩
 case round =>
  clear H';(try clear c1);(try clear c2);(try clear p2);(try clear c6);obtain ⟨a5,aL,aM,rfl,HA,HK1,a9,HB⟩:=hrel
  cases gk with
  | zero=>exact absurd HA.out (by simp [spec_l7First.l0])
  | succ k1 =>
   have H:=HA.out;clear HA;simp only [spec_l7First.l0] at H
   by_cases c7:a5<(l0.length:Int)
   ·rw [if_pos c7] at H
    have aX:decide (a5<(l0.length:Int))=true:=decide_eq_true c7;clear c7;have H':=Aside0.mk H;clear H
    go_wp2
    repeat (go_quiet (fail);try go_wp2)
    go_loopg [12] k1 (fun kq v12 w' => ∃ (a6:Int) (aq:Int) (ar:Int),v12 = .int .i64 a6∧Aside0 (spec_l7First.l1 kq l0 l1 l2 a3 a4 a5 a6=some (r1,r2))∧Aside0 (kq≤k1)∧Aside0 (w'.heap[ap]? = some (.cells #[.int .i64 aq,.int .i64 ar] 63 (0,0)))∧Aside0 (Below w.heap.size w w'))
    case atStart=>exact ⟨(a4),(aL),(aM),Ye1,H',⟨Nat.le_refl _⟩,⟨bk a9.out⟩,⟨bf HB.out⟩⟩
    case round =>
     clear H';(try clear c1);(try clear c2);(try clear p2);(try clear c6);(try clear c7);(try clear aX);(try clear p2);obtain ⟨a6,aq,ar,rfl,HA,HK2,a9,HB⟩:=hrel
     cases gk with
     | zero=>exact absurd HA.out (by simp [spec_l7First.l1])
     | succ k2 =>
      have H:=HA.out;clear HA;simp only [spec_l7First.l1] at H
      by_cases c8:a6<(l1.length:Int)
      ·rw [if_pos c8] at H
       have b2:decide (a6<(l1.length:Int))=true:=decide_eq_true c8;clear c8
       by_cases c9:0≤a5
       ·rw [if_pos c9] at H
        have c9b0:decide (0≤a5)=true:=decide_eq_true c9;clear c9
        by_cases c10:a5<(l0.length:Int)
        ·rw [if_pos c10] at H
         have c10b0:decide (a5<(l0.length:Int))=true:=decide_eq_true c10;clear c10
         by_cases az:0≤a6
         ·rw [if_pos az] at H
          have c11b0:decide (0≤a6)=true:=decide_eq_true az;clear az
          by_cases ae:(rdOf ByteArray.empty l0 a5).toList=(rdOf ByteArray.empty l1 a6).toList
          ·rw [if_pos ae] at H
           have b3:((rdOf ByteArray.empty l0 a5).toList==(rdOf ByteArray.empty l1 a6).toList)=true:=beq_iff_eq.mpr ae;have b4:((rdOf ByteArray.empty l0 a5).toList != (rdOf ByteArray.empty l1 a6).toList)=false:=bne_eq_false_iff_eq.mpr ae;clear ae
           obtain ⟨a7,aA⟩:∃ j_:Int,(wrap64 (a5+1))=j_:=⟨_,rfl⟩
           replace H:(if 0≤(a7) then (if (a7)<(l2.length:Int) then (if 0≤(wrap64 (a6+1)) then (if (wrap64 (a6+1))<((rd_L2 l2 (a7)).length:Int) then (if 0≤a3 then (if a3<(l2.length:Int) then (if 0≤a4 then (if a4<((rd_L2 l2 a3).length:Int) then (if (wrap64 ((rd (rd_L2 l2 (a7)) (wrap64 (a6+1)))+1))=(rd (rd_L2 l2 a3) a4) then (some (a5,a6)) else (spec_l7First.l1 k2 l0 l1 l2 a3 a4 a5 (wrap64 (a6+1)))) else (none)) else (none)) else (none)) else (none)) else (none)) else (none)) else (none)) else (none))=some (r1,r2):=by first|(rw [aA] at H;exact H)|(simp only [aA] at H ⊢; exact H)
           have hji13w:(IntKind.i64.wrap (a5+1))=a7:=(i64_w _).trans aA
           by_cases aB:0≤(a7)
           ·rw [if_pos aB] at H
            have c14b0:decide (0≤(a7))=true:=decide_eq_true aB;clear aB
            by_cases aC:(a7)<(l2.length:Int)
            ·rw [if_pos aC] at H
             have c15b0:decide ((a7)<(l2.length:Int))=true:=decide_eq_true aC;clear aC
             obtain ⟨a8,af⟩:∃ j_:Int,(wrap64 (a6+1))=j_:=⟨_,rfl⟩
             replace H:(if 0≤(a8) then (if (a8)<((rd_L2 l2 (a7)).length:Int) then (if 0≤a3 then (if a3<(l2.length:Int) then (if 0≤a4 then (if a4<((rd_L2 l2 a3).length:Int) then (if (wrap64 ((rd (rd_L2 l2 (a7)) (a8))+1))=(rd (rd_L2 l2 a3) a4) then (some (a5,a6)) else (spec_l7First.l1 k2 l0 l1 l2 a3 a4 a5 a8)) else (none)) else (none)) else (none)) else (none)) else (none)) else (none))=some (r1,r2):=by first|(rw [af] at H;exact H)|(simp only [af] at H ⊢; exact H)
             have hji16w:(IntKind.i64.wrap (a6+1))=a8:=(i64_w _).trans af
             by_cases aD:0≤(a8)
             ·rw [if_pos aD] at H
              have c17b0:decide (0≤(a8))=true:=decide_eq_true aD;clear aD
              by_cases aE:(a8)<((rd_L2 l2 (a7)).length:Int)
              ·rw [if_pos aE] at H
               have c18b0:decide ((a8)<((rd_L2 l2 (a7)).length:Int))=true:=decide_eq_true aE;clear aE
               by_cases aF:0≤a3
               ·rw [if_pos aF] at H
                have c19b0:decide (0≤a3)=true:=decide_eq_true aF;clear aF
                by_cases aG:a3<(l2.length:Int)
                ·rw [if_pos aG] at H
                 have c20b0:decide (a3<(l2.length:Int))=true:=decide_eq_true aG;clear aG
                 by_cases aH:0≤a4
                 ·rw [if_pos aH] at H
                  have c21b0:decide (0≤a4)=true:=decide_eq_true aH;clear aH
                  by_cases aI:a4<((rd_L2 l2 a3).length:Int)
                  ·rw [if_pos aI] at H
                   have c22b0:decide (a4<((rd_L2 l2 a3).length:Int))=true:=decide_eq_true aI;clear aI
                   by_cases ag:(wrap64 ((rd (rd_L2 l2 (a7)) (a8))+1))=(rd (rd_L2 l2 a3) a4)
                   ·rw [if_pos ag] at H
                    have b5:((wrap64 ((rd (rd_L2 l2 (a7)) (a8))+1))==(rd (rd_L2 l2 a3) a4))=true:=beq_iff_eq.mpr ag;have b6:((wrap64 ((rd (rd_L2 l2 (a7)) (a8))+1)) != (rd (rd_L2 l2 a3) a4))=false:=bne_eq_false_iff_eq.mpr ag;clear ag;simp only [Option.some.injEq,Prod.mk.injEq] at H;obtain ⟨rfl,rfl⟩:=H;have aa:0≤(a5:Int):=oda;have ab:a5<(l0.length:Int):=oda;obtain ⟨aY,au,aZ⟩:=Kd.at_string (Kd.C_below aJ.out HB.out) a5 aa ab
                    cases au
                    replace aa:=eq_true aa;replace ab:=eq_true ab;have ac:0≤(a6:Int):=oda;have ad:a6<(l1.length:Int):=oda;obtain ⟨b0,av,b1⟩:=Kd.at_string (Kd.C_below aK.out HB.out) a6 ac ad
                    cases av
                    replace ac:=eq_true ac;replace ad:=eq_true ad;have ah:0≤((a7):Int):=oda;have ai:(a7)<(l2.length:Int):=oda;obtain ⟨aN,b7,b8,aO,aw,hl172_0,hi172_0⟩:=at_L2 ay.out (a7) ah ai
                    cases aO
                    replace aw:=pw_cell_below HB.out aw;have aP:=Aside0.mk hi172_0;have b9:=Aside0.mk hl172_0;clear hi172_0 hl172_0;replace ah:=eq_true ah;replace ai:=eq_true ai;have aj:0≤((a8):Int):=oda;have ak:(a8)<((rd_L2 l2 (a7)).length:Int):=oda;obtain ⟨ba,aQ,bd⟩:=Kd.at_int (Kd.C_below aP.out HB.out) (a8) aj ak
                    cases aQ
                    replace aj:=eq_true aj;replace ak:=eq_true ak;have al:0≤(a3:Int):=oda;have am:a3<(l2.length:Int):=oda;obtain ⟨aR,bg,bh,aS,ax,hl174_0,hi174_0⟩:=at_L2 ay.out a3 al am
                    obtain rfl:aN=aR:=(by injection aS)
                    replace ax:=pw_cell_below HB.out ax;have aT:=Aside0.mk hi174_0;have bi:=Aside0.mk hl174_0;clear hi174_0 hl174_0;replace al:=eq_true al;replace am:=eq_true am;have an:0≤(a4:Int):=oda;have ao:a4<((rd_L2 l2 a3).length:Int):=oda;obtain ⟨bj,aU,bm⟩:=Kd.at_int (Kd.C_below aT.out HB.out) a4 an ao
                    cases aU
                    replace an:=eq_true an;replace ao:=eq_true ao;have ⟨bn,bo,bq,bu⟩:=Yc2 a9.out
                    go_wp2
                    repeat (go_quiet (fail);try go_wp2)
                    refine bodyPost_ret (results_cell_row rfl _ _ ap 63 #[.int .i64 a5,.int .i64 a6] (0,0) _ rfl (bp a9.out) Tryd.underlying63 rfl (by kernel_rfl)) rfl ?_;exact ⟨by first|rfl|(simp [errW_none,errW_some] <;> rfl)|(simp only [←aA,←af];first|rfl|(simp [errW_none,errW_some] <;> rfl))|(simp [*,errW_none,errW_some] <;> rfl),(bf HB.out)⟩
                   ·rw [if_neg ag] at H
                    have b5:((wrap64 ((rd (rd_L2 l2 (a7)) (a8))+1))==(rd (rd_L2 l2 a3) a4))=false:=beq_eq_false_iff_ne.mpr ag;have b6:((wrap64 ((rd (rd_L2 l2 (a7)) (a8))+1)) != (rd (rd_L2 l2 a3) a4))=true:=bne_iff_ne.mpr ag;have H':=Aside0.mk H;clear H;have aa:0≤(a5:Int):=oda;have ab:a5<(l0.length:Int):=oda;obtain ⟨aY,au,aZ⟩:=Kd.at_string (Kd.C_below aJ.out HB.out) a5 aa ab
                    cases au
                    replace aa:=eq_true aa;replace ab:=eq_true ab;have ac:0≤(a6:Int):=oda;have ad:a6<(l1.length:Int):=oda;obtain ⟨b0,av,b1⟩:=Kd.at_string (Kd.C_below aK.out HB.out) a6 ac ad
                    cases av
                    replace ac:=eq_true ac;replace ad:=eq_true ad;have ah:0≤((a7):Int):=oda;have ai:(a7)<(l2.length:Int):=oda;obtain ⟨aN,b7,b8,aO,aw,hl172_0,hi172_0⟩:=at_L2 ay.out (a7) ah ai
                    cases aO
                    replace aw:=pw_cell_below HB.out aw;have aP:=Aside0.mk hi172_0;have b9:=Aside0.mk hl172_0;clear hi172_0 hl172_0;replace ah:=eq_true ah;replace ai:=eq_true ai;have aj:0≤((a8):Int):=oda;have ak:(a8)<((rd_L2 l2 (a7)).length:Int):=oda;obtain ⟨ba,aQ,bd⟩:=Kd.at_int (Kd.C_below aP.out HB.out) (a8) aj ak
                    cases aQ
                    replace aj:=eq_true aj;replace ak:=eq_true ak;have al:0≤(a3:Int):=oda;have am:a3<(l2.length:Int):=oda;obtain ⟨aR,bg,bh,aS,ax,hl174_0,hi174_0⟩:=at_L2 ay.out a3 al am
                    obtain rfl:aN=aR:=(by injection aS)
                    replace ax:=pw_cell_below HB.out ax;have aT:=Aside0.mk hi174_0;have bi:=Aside0.mk hl174_0;clear hi174_0 hl174_0;replace al:=eq_true al;replace am:=eq_true am;have an:0≤(a4:Int):=oda;have ao:a4<((rd_L2 l2 a3).length:Int):=oda;obtain ⟨bj,aU,bm⟩:=Kd.at_int (Kd.C_below aT.out HB.out) a4 an ao
                    cases aU
                    replace an:=eq_true an;replace ao:=eq_true ao
                    go_wp2
                    repeat (go_quiet (fail);try go_wp2)
                    go_roundg k2
                    case measure=>have:=HK1.out;have:=HK2.out;omega
                    case rel=>exact ⟨(a8),(aq),(ar),(by first|rfl|(simp;done)|(simp only [←af] <;> (first|rfl|simp))|(simp [*];done)),(by first|exact H'|(subst af;exact H')|(simp only [←af] at H' ⊢; exact H')),⟨by have:=HK1.out;have:=HK2.out;omega⟩,⟨bk a9.out⟩,⟨bf HB.out⟩⟩
                  ·rw [if_neg aI] at H
                   exact absurd H (by simp)
                 ·rw [if_neg aH] at H
                  exact absurd H (by simp)
                ·rw [if_neg aG] at H
                 exact absurd H (by simp)
               ·rw [if_neg aF] at H
                exact absurd H (by simp)
              ·rw [if_neg aE] at H
               exact absurd H (by simp)
             ·rw [if_neg aD] at H
              exact absurd H (by simp)
            ·rw [if_neg aC] at H
             exact absurd H (by simp)
           ·rw [if_neg aB] at H
            exact absurd H (by simp)
          ·rw [if_neg ae] at H
           have b3:((rdOf ByteArray.empty l0 a5).toList==(rdOf ByteArray.empty l1 a6).toList)=false:=beq_eq_false_iff_ne.mpr ae;have b4:((rdOf ByteArray.empty l0 a5).toList != (rdOf ByteArray.empty l1 a6).toList)=true:=bne_iff_ne.mpr ae;have H':=Aside0.mk H;clear H;have aa:0≤(a5:Int):=oda;have ab:a5<(l0.length:Int):=oda;obtain ⟨aY,au,aZ⟩:=Kd.at_string (Kd.C_below aJ.out HB.out) a5 aa ab
           cases au
           replace aa:=eq_true aa;replace ab:=eq_true ab;have ac:0≤(a6:Int):=oda;have ad:a6<(l1.length:Int):=oda;obtain ⟨b0,av,b1⟩:=Kd.at_string (Kd.C_below aK.out HB.out) a6 ac ad
           cases av
           replace ac:=eq_true ac;replace ad:=eq_true ad
           go_wp2
           repeat (go_quiet (fail);try go_wp2)
           go_roundg k2
           case measure=>have:=HK1.out;have:=HK2.out;omega
           case rel=>exact ⟨(wrap64 (a6+1)),(aq),(ar),Ye1,H',⟨by have:=HK1.out;have:=HK2.out;omega⟩,⟨bk a9.out⟩,⟨bf HB.out⟩⟩
         ·rw [if_neg az] at H
          exact absurd H (by simp)
        ·rw [if_neg c10] at H
         exact absurd H (by simp)
       ·rw [if_neg c9] at H
        exact absurd H (by simp)
      ·rw [if_neg c8] at H
       have b2:decide (a6<(l1.length:Int))=false:=decide_eq_false c8;clear c8;have H':=Aside0.mk H;clear H
       go_wp2
       repeat (go_quiet (fail);try go_wp2)
       go_roundg k2
       case measure=>have:=HK1.out;have:=HK2.out;omega
       case rel=>exact ⟨(wrap64 (a5+1)),(aq),(ar),Ye1,H',⟨by have:=HK1.out;have:=HK2.out;omega⟩,⟨bk a9.out⟩,⟨bf HB.out⟩⟩
   ·rw [if_neg c7] at H
    have aX:decide (a5<(l0.length:Int))=false:=decide_eq_false c7;clear c7;simp only [Option.some.injEq,Prod.mk.injEq] at H;obtain ⟨rfl,rfl⟩:=H;have ⟨bv,bw,bz,bA⟩:=Yc2 a9.out
    go_wp2
    repeat (go_quiet (fail);try go_wp2)
    refine bodyPost_ret (results_cell_row rfl _ _ ap 63 #[.int .i64 0,.int .i64 0] (0,0) _ rfl (bp a9.out) Tryd.underlying63 rfl (by kernel_rfl)) rfl ?_;exact ⟨Ye2,(bf HB.out)⟩

end Go.Proofs.YtkmfnmeilooogaaDoor.P


namespace Go.Proofs.YtkmfnmeilooogaaDoor.P
open Go.RowKit Go.Proofs.YtkmfnmeilooogaaDoorW.PrintWords Go.Proofs.YtkmfnmeilooogaaDoorW.PrintLast Go.Proofs.YtkmfnmeilooogaaDoorW.PrintMore
attribute [local go_sem] max2_int min2_int max_two min_two max_three min_three max_four min_four
set_option linter.unusedVariables false
set_option linter.unusedSimpArgs false

theorem cell_at61 {w w1:World} {n:Nat} (h:w.drewN n=w1) {a:Addr} {v:Value} (e:w.cell? a=some v):w1.cell? a=some v:=by subst h;exact e
mutual
def spec_l7Table.l0:Nat→List ByteArray→List ByteArray→List (List Int)→Int→Option ((List (List Int)))
 | 0,_,_,_,_=>none
 | k+1,x0,x1,x5,x6=>if x6 ≥ 0 then (if 0≤(wrap64 ((x1.length:Int)+1)) then (if (wrap64 ((x1.length:Int)+1):Int).toNat≤35184372088832 then (if 0≤x6 then (if x6<(x5.length:Int) then (spec_l7Table.l1 k x0 x1 (x5.set (x6:Int).toNat (List.replicate (wrap64 ((x1.length:Int)+1):Int).toNat 0)) x6 (wrap64 ((x1.length:Int) - 1))) else (none)) else (none)) else (none)) else (none)) else (some x5)
def spec_l7Table.l1:Nat→List ByteArray→List ByteArray→List (List Int)→Int→Int→Option ((List (List Int)))
 | 0,_,_,_,_,_=>none
 | k+1,x0,x1,x5,x6,x7=>if x7 ≥ 0 then (if 0≤(wrap64 (x6+1)) then (if (wrap64 (x6+1))<(x5.length:Int) then (if 0≤x7 then (if x7<((rd_L2 x5 (wrap64 (x6+1))).length:Int) then (if 0≤x6 then (if x6<(x5.length:Int) then (if 0≤(wrap64 (x7+1)) then (if (wrap64 (x7+1))<((rd_L2 x5 x6).length:Int) then (if (rd (rd_L2 x5 x6) (wrap64 (x7+1)))>(rd (rd_L2 x5 (wrap64 (x6+1))) x7) then (if x6<(x0.length:Int) then (if x7<(x1.length:Int) then (if (rdOf ByteArray.empty x0 x6).toList=(rdOf ByteArray.empty x1 x7).toList then (if (wrap64 (x7+1))<((rd_L2 x5 (wrap64 (x6+1))).length:Int) then (if (wrap64 ((rd (rd_L2 x5 (wrap64 (x6+1))) (wrap64 (x7+1)))+1))>(rd (rd_L2 x5 x6) (wrap64 (x7+1))) then (if x7<((rd_L2 x5 x6).length:Int) then (spec_l7Table.l1 k x0 x1 (x5.set (x6:Int).toNat ((rd_L2 x5 x6).set (x7:Int).toNat (wrap64 ((rd (rd_L2 x5 (wrap64 (x6+1))) (wrap64 (x7+1)))+1)))) x6 (wrap64 (x7 - 1))) else (none)) else (if x7<((rd_L2 x5 x6).length:Int) then (spec_l7Table.l1 k x0 x1 (x5.set (x6:Int).toNat ((rd_L2 x5 x6).set (x7:Int).toNat (rd (rd_L2 x5 x6) (wrap64 (x7+1))))) x6 (wrap64 (x7 - 1))) else (none))) else (none)) else (if x7<((rd_L2 x5 x6).length:Int) then (spec_l7Table.l1 k x0 x1 (x5.set (x6:Int).toNat ((rd_L2 x5 x6).set (x7:Int).toNat (rd (rd_L2 x5 x6) (wrap64 (x7+1))))) x6 (wrap64 (x7 - 1))) else (none))) else (none)) else (none)) else (if x6<(x0.length:Int) then (if x7<(x1.length:Int) then (if (rdOf ByteArray.empty x0 x6).toList=(rdOf ByteArray.empty x1 x7).toList then (if (wrap64 (x7+1))<((rd_L2 x5 (wrap64 (x6+1))).length:Int) then (if (wrap64 ((rd (rd_L2 x5 (wrap64 (x6+1))) (wrap64 (x7+1)))+1))>(rd (rd_L2 x5 (wrap64 (x6+1))) x7) then (if x7<((rd_L2 x5 x6).length:Int) then (spec_l7Table.l1 k x0 x1 (x5.set (x6:Int).toNat ((rd_L2 x5 x6).set (x7:Int).toNat (wrap64 ((rd (rd_L2 x5 (wrap64 (x6+1))) (wrap64 (x7+1)))+1)))) x6 (wrap64 (x7 - 1))) else (none)) else (if x7<((rd_L2 x5 x6).length:Int) then (spec_l7Table.l1 k x0 x1 (x5.set (x6:Int).toNat ((rd_L2 x5 x6).set (x7:Int).toNat (rd (rd_L2 x5 (wrap64 (x6+1))) x7))) x6 (wrap64 (x7 - 1))) else (none))) else (none)) else (if x7<((rd_L2 x5 x6).length:Int) then (spec_l7Table.l1 k x0 x1 (x5.set (x6:Int).toNat ((rd_L2 x5 x6).set (x7:Int).toNat (rd (rd_L2 x5 (wrap64 (x6+1))) x7))) x6 (wrap64 (x7 - 1))) else (none))) else (none)) else (none))) else (none)) else (none)) else (none)) else (none)) else (none)) else (none)) else (none)) else (none)) else (spec_l7Table.l0 k x0 x1 x5 (wrap64 (x6 - 1)))
end
def spec_l7Table.f (k:Nat) (l0:List ByteArray) (l1:List ByteArray):Option ((List (List Int))):=if 0≤(wrap64 ((l0.length:Int)+1)) then (if (wrap64 ((l0.length:Int)+1):Int).toNat≤11728124029610 then ((some (List.replicate (wrap64 ((l0.length:Int)+1):Int).toNat []:List (List Int))).bind fun aa=>(if 0≤(wrap64 ((l1.length:Int)+1)) then (if (wrap64 ((l1.length:Int)+1):Int).toNat≤35184372088832 then (if 0≤(l0.length:Int) then (if (l0.length:Int)<(aa.length:Int) then (spec_l7Table.l0 k l0 l1 (aa.set ((l0.length:Int):Int).toNat (List.replicate (wrap64 ((l1.length:Int)+1):Int).toNat 0)) (wrap64 ((l0.length:Int) - 1))) else (none)) else (none)) else (none)) else (none))) else (none)) else (none)
theorem spec_l7Table.mono_l:∀ k,(∀ y0 y1 y2 y3,LeO (spec_l7Table.l0 k y0 y1 y2 y3) (spec_l7Table.l0 (k+1) y0 y1 y2 y3))∧(∀ y0 y1 y2 y3 y4,LeO (spec_l7Table.l1 k y0 y1 y2 y3 y4) (spec_l7Table.l1 (k+1) y0 y1 y2 y3 y4))
 | 0=>⟨fun _ _ _ _ r h=>by simp [spec_l7Table.l0] at h,fun _ _ _ _ _ r h=>by simp [spec_l7Table.l1] at h⟩
 | k + 1 => by
  obtain ⟨ih0,ih1⟩:=spec_l7Table.mono_l k;refine ⟨?_,?_⟩
  ·intro y0 y1 y2 y3
   unfold spec_l7Table.l0
   repeat' first
   | (with_reducible exact ih0 _ _ _ _)
   | (with_reducible exact ih1 _ _ _ _ _)
   | (with_reducible exact LeO.refl _)
   | (with_reducible exact LeO.none _)
   | (with_reducible refine LeO.ite ?_ ?_)
   | (with_reducible refine LeO.bind ?_ (fun _ => ?_))
   | exact ih0 _ _ _ _
   | exact ih1 _ _ _ _ _
   | exact LeO.none _
   | refine LeO.ite ?_ ?_
   | refine LeO.bind ?_ (fun _ => ?_)
  ·intro y0 y1 y2 y3 y4
   unfold spec_l7Table.l1
   repeat' first
   | (with_reducible exact ih0 _ _ _ _)
   | (with_reducible exact ih1 _ _ _ _ _)
   | (with_reducible exact LeO.refl _)
   | (with_reducible exact LeO.none _)
   | (with_reducible refine LeO.ite ?_ ?_)
   | (with_reducible refine LeO.bind ?_ (fun _ => ?_))
   | exact ih0 _ _ _ _
   | exact ih1 _ _ _ _ _
   | exact LeO.none _
   | refine LeO.ite ?_ ?_
   | refine LeO.bind ?_ (fun _ => ?_)
theorem spec_l7Table.mono:∀ a0 a1 k,LeO (spec_l7Table.f k a0 a1) (spec_l7Table.f (k+1) a0 a1):=by
 intro a0 a1 k;obtain ⟨ih0,ih1⟩:=spec_l7Table.mono_l k
 unfold spec_l7Table.f
 repeat' first
   | (with_reducible exact ih0 _ _ _ _)
   | (with_reducible exact ih1 _ _ _ _ _)
   | (with_reducible exact LeO.refl _)
   | (with_reducible exact LeO.none _)
   | (with_reducible refine LeO.ite ?_ ?_)
   | (with_reducible refine LeO.bind ?_ (fun _ => ?_))
   | exact ih0 _ _ _ _
   | exact ih1 _ _ _ _ _
   | exact LeO.none _
   | refine LeO.ite ?_ ?_
   | refine LeO.bind ?_ (fun _ => ?_)
set_option maxHeartbeats 8000000 in
set_option maxRecDepth 100000 in
theorem spec_l7Table.calls (k : Nat) (A0 : Option Addr) (c0 : Nat) (l0 : List ByteArray) (A1 : Option Addr) (c1 : Nat) (l1 : List ByteArray) (r : List (List Int)) (w : World) (hr0 : Kd.C Kd.string w A0 l0.length l0) (hc0 : l0.length ≤ c0) (hr1 : Kd.C Kd.string w A1 l1.length l1) (hc1 : l1.length ≤ c1) (h : spec_l7Table.f k l0 l1 = some r) :
  Calls Tryd.prog 61 #[.slice A0 l0.length c0,.slice A1 l1.length c1] w fun e w' => ∃ v0_:Value,e = .returned (v0_)∧Kd.S (Kd.slice 3 (Kd.int .i64)) 101 w' w.heap.size (fun _=>True) v0_ r∧Below w.heap.size w w':=by
 have bA:=Aside0.mk hr0;have HC0:=Aside0.mk hc0;clear hr0 hc0;have bB:=Aside0.mk hr1;have HC1:=Aside0.mk hc1;clear hr1 hc1;have HB:=Aside0.mk (Below.refl w.heap.size w);have H:(if 0≤(wrap64 ((l0.length:Int)+1)) then (if (wrap64 ((l0.length:Int)+1):Int).toNat≤11728124029610 then ((some (List.replicate (wrap64 ((l0.length:Int)+1):Int).toNat []:List (List Int))).bind fun aa=>(if 0≤(wrap64 ((l1.length:Int)+1)) then (if (wrap64 ((l1.length:Int)+1):Int).toNat≤35184372088832 then (if 0≤(l0.length:Int) then (if (l0.length:Int)<(aa.length:Int) then (spec_l7Table.l0 k l0 l1 (aa.set ((l0.length:Int):Int).toNat (List.replicate (wrap64 ((l1.length:Int)+1):Int).toNat 0)) (wrap64 ((l0.length:Int) - 1))) else (none)) else (none)) else (none)) else (none))) else (none)) else (none))=some r:=h;clear h
 obtain ⟨aC,cO⟩:∃ j_:Int,(wrap64 ((l0.length:Int)+1))=j_:=⟨_,rfl⟩
 replace H:(if 0≤(aC) then (if (aC:Int).toNat≤11728124029610 then ((some (List.replicate (aC:Int).toNat []:List (List Int))).bind fun aa=>(if 0≤(wrap64 ((l1.length:Int)+1)) then (if (wrap64 ((l1.length:Int)+1):Int).toNat≤35184372088832 then (if 0≤(l0.length:Int) then (if (l0.length:Int)<(aa.length:Int) then (spec_l7Table.l0 k l0 l1 (aa.set ((l0.length:Int):Int).toNat (List.replicate (wrap64 ((l1.length:Int)+1):Int).toNat 0)) (wrap64 ((l0.length:Int) - 1))) else (none)) else (none)) else (none)) else (none))) else (none)) else (none))=some r:=by first|(rw [cO] at H;exact H)|(simp only [cO] at H ⊢; exact H)
 have hji3w:(IntKind.i64.wrap ((l0.length:Int)+1))=aC:=(i64_w _).trans cO
 by_cases c4:0≤(aC)
 ·rw [if_pos c4] at H
  have dG:=eq_true c4;have dH:decide (0≤(aC))=true:=decide_eq_true c4;clear c4
  by_cases c5:(aC:Int).toNat≤11728124029610
  ·rw [if_pos c5] at H
   have dI:=eq_true c5;have dJ:decide ((aC:Int).toNat≤11728124029610)=true:=decide_eq_true c5;clear c5
   obtain ⟨aa,bU⟩:∃ y_:List (List Int),y_=(List.replicate (aC:Int).toNat []):=⟨_,rfl⟩
   replace H:(if 0≤(wrap64 ((l1.length:Int)+1)) then (if (wrap64 ((l1.length:Int)+1):Int).toNat≤35184372088832 then (if 0≤(l0.length:Int) then (if (l0.length:Int)<(aa.length:Int) then (spec_l7Table.l0 k l0 l1 (aa.set ((l0.length:Int):Int).toNat (List.replicate (wrap64 ((l1.length:Int)+1):Int).toNat 0)) (wrap64 ((l0.length:Int) - 1))) else (none)) else (none)) else (none)) else (none))=some r:=by first|(rw [bU];with_reducible exact H)|(have H2_:=(Option.bind_some _ _).symm.trans H;rw [bU];with_reducible exact H2_)|(have H2_:=(Option.bind_some _ _).symm.trans H;with_reducible exact H2_)|with_reducible exact H|(rw [bU];exact H)|exact H
   have bC:=Aside0.mk bU;clear bU
   obtain ⟨aD,bV⟩:∃ j_:Int,(wrap64 ((l1.length:Int)+1))=j_:=⟨_,rfl⟩
   replace H:(if 0≤(aD) then (if (aD:Int).toNat≤35184372088832 then (if 0≤(l0.length:Int) then (if (l0.length:Int)<(aa.length:Int) then (spec_l7Table.l0 k l0 l1 (aa.set ((l0.length:Int):Int).toNat (List.replicate (aD:Int).toNat 0)) (wrap64 ((l0.length:Int) - 1))) else (none)) else (none)) else (none)) else (none))=some r:=by first|(rw [bV] at H;exact H)|(simp only [bV] at H ⊢; exact H)
   have hji6w:(IntKind.i64.wrap ((l1.length:Int)+1))=aD:=(i64_w _).trans bV
   by_cases c7:0≤(aD)
   ·rw [if_pos c7] at H
    have dK:=eq_true c7;have dL:decide (0≤(aD))=true:=decide_eq_true c7;clear c7
    by_cases c8:(aD:Int).toNat≤35184372088832
    ·rw [if_pos c8] at H
     have dM:=eq_true c8;have dN:decide ((aD:Int).toNat≤35184372088832)=true:=decide_eq_true c8;clear c8
     obtain ⟨ba,bW⟩:∃ y_:List Int,y_=(List.replicate (aD:Int).toNat 0):=⟨_,rfl⟩
     replace H:(if 0≤(l0.length:Int) then (if (l0.length:Int)<(aa.length:Int) then (spec_l7Table.l0 k l0 l1 (aa.set ((l0.length:Int):Int).toNat ba) (wrap64 ((l0.length:Int) - 1))) else (none)) else (none))=some r:=by first|(rw [bW];with_reducible exact H)|(have H2_:=(Option.bind_some _ _).symm.trans H;rw [bW];with_reducible exact H2_)|(have H2_:=(Option.bind_some _ _).symm.trans H;with_reducible exact H2_)|with_reducible exact H|(rw [bW];exact H)|exact H
     have bD:=Aside0.mk bW;clear bW
     by_cases c9:0≤(l0.length:Int)
     ·rw [if_pos c9] at H
      have dO:decide (0≤(l0.length:Int))=true:=decide_eq_true c9;have dP:decide (0≤l0.length)=true:=decide_eq_true (by omega);clear c9
      by_cases c10:(l0.length:Int)<(aa.length:Int)
      ·rw [if_pos c10] at H
       have dQ:decide ((l0.length:Int)<(aa.length:Int))=true:=decide_eq_true c10;have dR:decide (l0.length<aa.length)=true:=decide_eq_true (Int.ofNat_lt.mp c10);clear c10
       obtain ⟨bX,bY⟩:∃ y_:List (List Int),y_=(aa.set ((l0.length:Int):Int).toNat ba):=⟨_,rfl⟩
       replace H:(spec_l7Table.l0 k l0 l1 bX (wrap64 ((l0.length:Int) - 1)))=some r:=by first|(rw [bY];with_reducible exact H)|(have H2_:=(Option.bind_some _ _).symm.trans H;rw [bY];with_reducible exact H2_)|(have H2_:=(Option.bind_some _ _).symm.trans H;with_reducible exact H2_)|with_reducible exact H|(rw [bY];exact H)|exact H
       have dq:=Aside0.mk bY;clear bY;have H':=Aside0.mk H;clear H
       go_enter Tryd.func61,Tryd.ntmps61
       go_wp2_with (first|((with_reducible refine gd 12 rfl ?_);refine Kd.S_make (Kd.slice 3 (Kd.int .i64)) _ 101 rfl (N:=12) rfl 99 _ _ rfl aC rfl rfl Tryd.underlying99 (.slice none 0 0) 24 info101 rfl (by decide) (by omega) [] (ok:=fun _=>True) (okp:=fun _=>True) ⟨_,rfl,Kd.R_nil _ _ _ _ _⟩ (fun _ hk=>hk) trivial (oda) (Nat.le_trans (Nat.mul_le_mul_right _ (oda:aC.toNat≤11728124029610)) (by omega)) (Below.refl _ _) (Nat.le_refl _) ?_;intro dS w12 ho13 hb hg_ hnew_;clear hg_ hnew_;(first|rw [←bC.out] at ho13|(simp only [Int.reduceToNat] at ho13;rw [←bC.out] at ho13));refine Ya2 (Kd.S_lower ho13 (below_size (be HB.out))) (below_step (be HB.out) hb) ?_;clear HB;intro a9 HB;clear hb ho13)|((with_reducible refine gd 19 rfl ?_);refine Kd.R_make (Kd.int .i64) _ 3 rfl (N:=19) rfl 101 _ _ rfl aD rfl rfl Tryd.underlying101 (.int .i64 0) 8 info3 rfl (by decide) (by omega) 0 (ok:=fun _=>True) (okp:=fun _=>True) rfl (fun _ hk=>hk) trivial (oda) (Nat.le_trans (Nat.mul_le_mul_right _ (oda:aD.toNat≤35184372088832)) (by omega)) (Below.refl _ _) (Nat.le_refl _) ?_;intro ai aj ho15 hb hg_ hnew_;have HSL114:=Aside0.mk (Kd.R_slice ho15);clear hg_ hnew_;(first|rw [←bD.out] at ho15|(simp only [Int.reduceToNat] at ho15;rw [←bD.out] at ho15));refine Ya3 (Kd.S_elder' (by (with_reducible repeat (first|apply Kd.S_alloc|apply Kd.S_drewN|apply Kd.S_drew));exact a9.out) (Kd.R_base ho15) hb) (Kd.R_lower ho15 (below_size (be HB.out))) (below_step (be HB.out) hb) ?_;clear a9 HB;intro a9 aw HB;clear hb ho15;have p11:0≤((l0.length:Int):Int):=oda;have q11:((l0.length:Int):Int)<((aa.length:Int):Int):=oda;obtain ⟨a8,aq,bd,bg,gl11,cl11,HG11⟩:=Kd.S_form a9.out (by omega);(first|cases bd|(injection bd with ea_ en_ ec_;(first|subst ea_|(injection ea_ with ea_;subst ea_));subst ec_;clear en_));have bh:=Aside0.mk bg;have GG11:=Aside0.mk HG11;clear bg gl11 HG11;obtain ⟨_,ce11,hcl11,hM11,hcc11,hfr11,_,_⟩:=Kd.S_elem a9.out [] ((l0.length:Int):Int) p11 q11;obtain ⟨ve11_0,rfl,ge11_0⟩:=hM11;have b5:=hcc11 0 _ rfl;have hf11_0:=hfr11 0;(try simp only [show ((Kd.slice 3 (Kd.int .i64))).sz=1 from rfl,Nat.mul_one,Nat.add_zero] at b5);(try simp only [show ((Kd.slice 3 (Kd.int .i64))).sz=1 from rfl,Nat.mul_one,Nat.add_zero] at hf11_0);(try clear hM11);clear hcl11 hcc11 hfr11;(try simp only [Int.toNat_natCast] at b5);(try simp only [Int.toNat_natCast] at hf11_0);replace p11:=eq_true p11;replace q11:=eq_true q11;have n_:=Aside0.mk (Kd.S_mono (ok':=(fun k_=>some k_≠(ai:Value).ownBlock)) a9.out (fun k_ hk=>hk.2));clear a9;have a9:=n_;clear n_;have aL:=Aside0.mk (show Kd.S (Kd.slice 3 (Kd.int .i64)) 101 aj w.heap.size (fun k_=>((fun _=>True)) k_ ∧ ¬((fun k_=>some k_=(ai:Value).ownBlock)) k_) (.slice (some ⟨a8,0,none⟩) aa.length aq) aa from (by (with_reducible repeat (first|apply Kd.S_alloc|apply Kd.S_drewN|apply Kd.S_drew));exact Kd.S_mono a9.out (fun k_ hk=>⟨trivial,fun e_=>hk e_⟩)));obtain ⟨oki16,ce16,hcl16,hM16,hcc16,hfr16,hoki16,hH16⟩:=Kd.S_elem aL.out [] ((l0.length:Int):Int) (oda) (by have h_:((l0.length:Int):Int)<((aa.length:Int):Int):=oda;first|exact h_|(have e_:=(Kd.S_reads' a9.out).1;omega)|simpa using h_);obtain ⟨ve16_0,rfl,ge16_0⟩:=hM16;have ar:=Kd.S_seg hH16 (oda) (by have h_:((l0.length:Int):Int)<((aa.length:Int):Int):=oda;first|exact h_|(have e_:=(Kd.S_reads' a9.out).1;omega)|simpa using h_) (seg:=[ai]) (j:=0) (show 1≤1 from by decide) (x':=ba) (Kd.M_row (Kd.R_mono (Kd.R_tight rfl (Kd.R_mono (ok':=fun k_=>((fun _=>True)) k_∧k_≠a8) (Kd.R_apart' (aw.out) (Kd.S_typed a9.out) (by decide)) (fun k_ hk=>⟨trivial,fun e_=>(hk.2) (by rw [e_];rfl)⟩))) (fun _ h_=>Or.inr (h_)))) (fun _ hk=>hk) (fun k_ hk_=>((Kd.R_mono (ok':=fun k_=>((fun _=>True)) k_∧k_≠a8) (Kd.R_apart' (aw.out) (Kd.S_typed a9.out) (by decide)) (fun k_ hk=>⟨trivial,fun e_=>(hk.2) (by rw [e_];rfl)⟩))).1 k_ hk_.symm);have aH:=hcc16 0 _ rfl;(try simp only [show ((Kd.slice 3 (Kd.int .i64))).sz=1 from rfl,Nat.mul_one,Nat.add_zero] at aH);have hf16_0:=hfr16 0;(try simp only [show ((Kd.slice 3 (Kd.int .i64))).sz=1 from rfl,Nat.mul_one,Nat.add_zero] at hf16_0);(try clear hM16);clear hcl16 hcc16 hfr16 hoki16 hH16;(try simp only [show ((Kd.slice 3 (Kd.int .i64))).sz=1 from rfl,Nat.mul_one,Nat.add_zero] at ar))|((with_reducible refine gate_store (t:=101) (p:=20) rfl ?_);(try (rw [drewN_self aj];generalize hq_:World.drewN aj _=aj;have ax:=Aside0.mk (Kd.S_at hq_ a9.out);have ay:=Aside0.mk (below_at hq_ HB.out);clear hq_ a9 HB;have a9:=ax;have HB:=ay;clear ax ay;(try (have n_:=Aside0.mk (Kd.S_mono (ok':=(fun k_=>some k_≠(ai:Value).ownBlock)) a9.out (fun k_ hk=>hk.2));clear a9;have a9:=n_;clear n_));(try (have aL:=Aside0.mk (show Kd.S (Kd.slice 3 (Kd.int .i64)) 101 aj w.heap.size (fun k_=>((fun _=>True)) k_ ∧ ¬((fun k_=>some k_=(ai:Value).ownBlock)) k_) (.slice (some ⟨a8,0,none⟩) aa.length aq) aa from (by (with_reducible repeat (first|apply Kd.S_alloc|apply Kd.S_drewN|apply Kd.S_drew));exact Kd.S_mono a9.out (fun k_ hk=>⟨trivial,fun e_=>hk e_⟩)))));(try (obtain ⟨oki16,ce16,hcl16,hM16,hcc16,hfr16,hoki16,hH16⟩:=Kd.S_elem aL.out [] ((l0.length:Int):Int) (oda) (by have h_:((l0.length:Int):Int)<((aa.length:Int):Int):=oda;first|exact h_|(have e_:=(Kd.S_reads' a9.out).1;omega)|simpa using h_)));(try (obtain ⟨ve16_0,rfl,ge16_0⟩:=hM16));(try (have ar:=Kd.S_seg hH16 (oda) (by have h_:((l0.length:Int):Int)<((aa.length:Int):Int):=oda;first|exact h_|(have e_:=(Kd.S_reads' a9.out).1;omega)|simpa using h_) (seg:=[ai]) (j:=0) (show 1≤1 from by decide) (x':=ba) (Kd.M_row (Kd.R_mono (Kd.R_tight rfl (Kd.R_mono (ok':=fun k_=>((fun _=>True)) k_∧k_≠a8) (Kd.R_apart' (aw.out) (Kd.S_typed a9.out) (by decide)) (fun k_ hk=>⟨trivial,fun e_=>(hk.2) (by rw [e_];rfl)⟩))) (fun _ h_=>Or.inr (h_)))) (fun _ hk=>hk) (fun k_ hk_=>((Kd.R_mono (ok':=fun k_=>((fun _=>True)) k_∧k_≠a8) (Kd.R_apart' (aw.out) (Kd.S_typed a9.out) (by decide)) (fun k_ hk=>⟨trivial,fun e_=>(hk.2) (by rw [e_];rfl)⟩))).1 k_ hk_.symm)));(try (have aH:=hcc16 0 _ rfl));(try (try simp only [show ((Kd.slice 3 (Kd.int .i64))).sz=1 from rfl,Nat.mul_one,Nat.add_zero] at aH));(try (have hf16_0:=hfr16 0));(try (try simp only [show ((Kd.slice 3 (Kd.int .i64))).sz=1 from rfl,Nat.mul_one,Nat.add_zero] at hf16_0));(try ((try clear hM16);clear hcl16 hcc16 hfr16 hoki16 hH16));(try (try simp only [show ((Kd.slice 3 (Kd.int .i64))).sz=1 from rfl,Nat.mul_one,Nat.add_zero] at ar))));refine store_event (t:=101) (p:=20) (v:=?vo_w17) (w1:=(aj.setCell ⟨a8,((l0.length:Int):Int).toNat,none⟩ (ai))) ?hg ?ho ?hn ?hr ?_;(case ho=>rfl);(case hg=>rfl);(case hn=>rfl);(case hr=>first|(go_simp;done)|(go_simp;rfl)|(obtain ⟨A_,c_,e_⟩:=HSL114.out;subst e_;first|(go_simp;done)|(go_simp;rfl)));intro aM hw;have hg:aj.grownBy aM (some a8):=(by rw [hw];exact ar.2);have hp_:Kd.S (Kd.slice 3 (Kd.int .i64)) 101 aM w.heap.size (fun _=>True) (.slice (some ⟨a8,0,none⟩) aa.length aq) bX:=(by rw [hw,dq.out];exact ar.1);clear ar;refine Ya2 (hp_) ((by rw [hw];exact below_set (HB.out) bh.out:Below w.heap.size w aM)) ?_;clear a9 HB aw;intro a9 HB;clear hg hw hp_))
       repeat (go_quiet (first|((with_reducible refine gd 12 rfl ?_);refine Kd.S_make (Kd.slice 3 (Kd.int .i64)) _ 101 rfl (N:=12) rfl 99 _ _ rfl aC rfl rfl Tryd.underlying99 (.slice none 0 0) 24 info101 rfl (by decide) (by omega) [] (ok:=fun _=>True) (okp:=fun _=>True) ⟨_,rfl,Kd.R_nil _ _ _ _ _⟩ (fun _ hk=>hk) trivial (oda) (Nat.le_trans (Nat.mul_le_mul_right _ (oda:aC.toNat≤11728124029610)) (by omega)) (Below.refl _ _) (Nat.le_refl _) ?_;intro dS w12 ho13 hb hg_ hnew_;clear hg_ hnew_;(first|rw [←bC.out] at ho13|(simp only [Int.reduceToNat] at ho13;rw [←bC.out] at ho13));refine Ya2 (Kd.S_lower ho13 (below_size (be HB.out))) (below_step (be HB.out) hb) ?_;clear HB;intro a9 HB;clear hb ho13)|((with_reducible refine gd 19 rfl ?_);refine Kd.R_make (Kd.int .i64) _ 3 rfl (N:=19) rfl 101 _ _ rfl aD rfl rfl Tryd.underlying101 (.int .i64 0) 8 info3 rfl (by decide) (by omega) 0 (ok:=fun _=>True) (okp:=fun _=>True) rfl (fun _ hk=>hk) trivial (oda) (Nat.le_trans (Nat.mul_le_mul_right _ (oda:aD.toNat≤35184372088832)) (by omega)) (Below.refl _ _) (Nat.le_refl _) ?_;intro ai aj ho15 hb hg_ hnew_;have HSL114:=Aside0.mk (Kd.R_slice ho15);clear hg_ hnew_;(first|rw [←bD.out] at ho15|(simp only [Int.reduceToNat] at ho15;rw [←bD.out] at ho15));refine Ya3 (Kd.S_elder' (by (with_reducible repeat (first|apply Kd.S_alloc|apply Kd.S_drewN|apply Kd.S_drew));exact a9.out) (Kd.R_base ho15) hb) (Kd.R_lower ho15 (below_size (be HB.out))) (below_step (be HB.out) hb) ?_;clear a9 HB;intro a9 aw HB;clear hb ho15;have p11:0≤((l0.length:Int):Int):=oda;have q11:((l0.length:Int):Int)<((aa.length:Int):Int):=oda;obtain ⟨a8,aq,bd,bg,gl11,cl11,HG11⟩:=Kd.S_form a9.out (by omega);(first|cases bd|(injection bd with ea_ en_ ec_;(first|subst ea_|(injection ea_ with ea_;subst ea_));subst ec_;clear en_));have bh:=Aside0.mk bg;have GG11:=Aside0.mk HG11;clear bg gl11 HG11;obtain ⟨_,ce11,hcl11,hM11,hcc11,hfr11,_,_⟩:=Kd.S_elem a9.out [] ((l0.length:Int):Int) p11 q11;obtain ⟨ve11_0,rfl,ge11_0⟩:=hM11;have b5:=hcc11 0 _ rfl;have hf11_0:=hfr11 0;(try simp only [show ((Kd.slice 3 (Kd.int .i64))).sz=1 from rfl,Nat.mul_one,Nat.add_zero] at b5);(try simp only [show ((Kd.slice 3 (Kd.int .i64))).sz=1 from rfl,Nat.mul_one,Nat.add_zero] at hf11_0);(try clear hM11);clear hcl11 hcc11 hfr11;(try simp only [Int.toNat_natCast] at b5);(try simp only [Int.toNat_natCast] at hf11_0);replace p11:=eq_true p11;replace q11:=eq_true q11;have n_:=Aside0.mk (Kd.S_mono (ok':=(fun k_=>some k_≠(ai:Value).ownBlock)) a9.out (fun k_ hk=>hk.2));clear a9;have a9:=n_;clear n_;have aL:=Aside0.mk (show Kd.S (Kd.slice 3 (Kd.int .i64)) 101 aj w.heap.size (fun k_=>((fun _=>True)) k_ ∧ ¬((fun k_=>some k_=(ai:Value).ownBlock)) k_) (.slice (some ⟨a8,0,none⟩) aa.length aq) aa from (by (with_reducible repeat (first|apply Kd.S_alloc|apply Kd.S_drewN|apply Kd.S_drew));exact Kd.S_mono a9.out (fun k_ hk=>⟨trivial,fun e_=>hk e_⟩)));obtain ⟨oki16,ce16,hcl16,hM16,hcc16,hfr16,hoki16,hH16⟩:=Kd.S_elem aL.out [] ((l0.length:Int):Int) (oda) (by have h_:((l0.length:Int):Int)<((aa.length:Int):Int):=oda;first|exact h_|(have e_:=(Kd.S_reads' a9.out).1;omega)|simpa using h_);obtain ⟨ve16_0,rfl,ge16_0⟩:=hM16;have ar:=Kd.S_seg hH16 (oda) (by have h_:((l0.length:Int):Int)<((aa.length:Int):Int):=oda;first|exact h_|(have e_:=(Kd.S_reads' a9.out).1;omega)|simpa using h_) (seg:=[ai]) (j:=0) (show 1≤1 from by decide) (x':=ba) (Kd.M_row (Kd.R_mono (Kd.R_tight rfl (Kd.R_mono (ok':=fun k_=>((fun _=>True)) k_∧k_≠a8) (Kd.R_apart' (aw.out) (Kd.S_typed a9.out) (by decide)) (fun k_ hk=>⟨trivial,fun e_=>(hk.2) (by rw [e_];rfl)⟩))) (fun _ h_=>Or.inr (h_)))) (fun _ hk=>hk) (fun k_ hk_=>((Kd.R_mono (ok':=fun k_=>((fun _=>True)) k_∧k_≠a8) (Kd.R_apart' (aw.out) (Kd.S_typed a9.out) (by decide)) (fun k_ hk=>⟨trivial,fun e_=>(hk.2) (by rw [e_];rfl)⟩))).1 k_ hk_.symm);have aH:=hcc16 0 _ rfl;(try simp only [show ((Kd.slice 3 (Kd.int .i64))).sz=1 from rfl,Nat.mul_one,Nat.add_zero] at aH);have hf16_0:=hfr16 0;(try simp only [show ((Kd.slice 3 (Kd.int .i64))).sz=1 from rfl,Nat.mul_one,Nat.add_zero] at hf16_0);(try clear hM16);clear hcl16 hcc16 hfr16 hoki16 hH16;(try simp only [show ((Kd.slice 3 (Kd.int .i64))).sz=1 from rfl,Nat.mul_one,Nat.add_zero] at ar))|((with_reducible refine gate_store (t:=101) (p:=20) rfl ?_);(try (rw [drewN_self aj];generalize hq_:World.drewN aj _=aj;have ax:=Aside0.mk (Kd.S_at hq_ a9.out);have ay:=Aside0.mk (below_at hq_ HB.out);clear hq_ a9 HB;have a9:=ax;have HB:=ay;clear ax ay;(try (have n_:=Aside0.mk (Kd.S_mono (ok':=(fun k_=>some k_≠(ai:Value).ownBlock)) a9.out (fun k_ hk=>hk.2));clear a9;have a9:=n_;clear n_));(try (have aL:=Aside0.mk (show Kd.S (Kd.slice 3 (Kd.int .i64)) 101 aj w.heap.size (fun k_=>((fun _=>True)) k_ ∧ ¬((fun k_=>some k_=(ai:Value).ownBlock)) k_) (.slice (some ⟨a8,0,none⟩) aa.length aq) aa from (by (with_reducible repeat (first|apply Kd.S_alloc|apply Kd.S_drewN|apply Kd.S_drew));exact Kd.S_mono a9.out (fun k_ hk=>⟨trivial,fun e_=>hk e_⟩)))));(try (obtain ⟨oki16,ce16,hcl16,hM16,hcc16,hfr16,hoki16,hH16⟩:=Kd.S_elem aL.out [] ((l0.length:Int):Int) (oda) (by have h_:((l0.length:Int):Int)<((aa.length:Int):Int):=oda;first|exact h_|(have e_:=(Kd.S_reads' a9.out).1;omega)|simpa using h_)));(try (obtain ⟨ve16_0,rfl,ge16_0⟩:=hM16));(try (have ar:=Kd.S_seg hH16 (oda) (by have h_:((l0.length:Int):Int)<((aa.length:Int):Int):=oda;first|exact h_|(have e_:=(Kd.S_reads' a9.out).1;omega)|simpa using h_) (seg:=[ai]) (j:=0) (show 1≤1 from by decide) (x':=ba) (Kd.M_row (Kd.R_mono (Kd.R_tight rfl (Kd.R_mono (ok':=fun k_=>((fun _=>True)) k_∧k_≠a8) (Kd.R_apart' (aw.out) (Kd.S_typed a9.out) (by decide)) (fun k_ hk=>⟨trivial,fun e_=>(hk.2) (by rw [e_];rfl)⟩))) (fun _ h_=>Or.inr (h_)))) (fun _ hk=>hk) (fun k_ hk_=>((Kd.R_mono (ok':=fun k_=>((fun _=>True)) k_∧k_≠a8) (Kd.R_apart' (aw.out) (Kd.S_typed a9.out) (by decide)) (fun k_ hk=>⟨trivial,fun e_=>(hk.2) (by rw [e_];rfl)⟩))).1 k_ hk_.symm)));(try (have aH:=hcc16 0 _ rfl));(try (try simp only [show ((Kd.slice 3 (Kd.int .i64))).sz=1 from rfl,Nat.mul_one,Nat.add_zero] at aH));(try (have hf16_0:=hfr16 0));(try (try simp only [show ((Kd.slice 3 (Kd.int .i64))).sz=1 from rfl,Nat.mul_one,Nat.add_zero] at hf16_0));(try ((try clear hM16);clear hcl16 hcc16 hfr16 hoki16 hH16));(try (try simp only [show ((Kd.slice 3 (Kd.int .i64))).sz=1 from rfl,Nat.mul_one,Nat.add_zero] at ar))));refine store_event (t:=101) (p:=20) (v:=?vo_w17) (w1:=(aj.setCell ⟨a8,((l0.length:Int):Int).toNat,none⟩ (ai))) ?hg ?ho ?hn ?hr ?_;(case ho=>rfl);(case hg=>rfl);(case hn=>rfl);(case hr=>first|(go_simp;done)|(go_simp;rfl)|(obtain ⟨A_,c_,e_⟩:=HSL114.out;subst e_;first|(go_simp;done)|(go_simp;rfl)));intro aM hw;have hg:aj.grownBy aM (some a8):=(by rw [hw];exact ar.2);have hp_:Kd.S (Kd.slice 3 (Kd.int .i64)) 101 aM w.heap.size (fun _=>True) (.slice (some ⟨a8,0,none⟩) aa.length aq) bX:=(by rw [hw,dq.out];exact ar.1);clear ar;refine Ya2 (hp_) ((by rw [hw];exact below_set (HB.out) bh.out:Below w.heap.size w aM)) ?_;clear a9 HB aw;intro a9 HB;clear hg hw hp_));try go_wp2_with (first|((with_reducible refine gd 12 rfl ?_);refine Kd.S_make (Kd.slice 3 (Kd.int .i64)) _ 101 rfl (N:=12) rfl 99 _ _ rfl aC rfl rfl Tryd.underlying99 (.slice none 0 0) 24 info101 rfl (by decide) (by omega) [] (ok:=fun _=>True) (okp:=fun _=>True) ⟨_,rfl,Kd.R_nil _ _ _ _ _⟩ (fun _ hk=>hk) trivial (oda) (Nat.le_trans (Nat.mul_le_mul_right _ (oda:aC.toNat≤11728124029610)) (by omega)) (Below.refl _ _) (Nat.le_refl _) ?_;intro dS w12 ho13 hb hg_ hnew_;clear hg_ hnew_;(first|rw [←bC.out] at ho13|(simp only [Int.reduceToNat] at ho13;rw [←bC.out] at ho13));refine Ya2 (Kd.S_lower ho13 (below_size (be HB.out))) (below_step (be HB.out) hb) ?_;clear HB;intro a9 HB;clear hb ho13)|((with_reducible refine gd 19 rfl ?_);refine Kd.R_make (Kd.int .i64) _ 3 rfl (N:=19) rfl 101 _ _ rfl aD rfl rfl Tryd.underlying101 (.int .i64 0) 8 info3 rfl (by decide) (by omega) 0 (ok:=fun _=>True) (okp:=fun _=>True) rfl (fun _ hk=>hk) trivial (oda) (Nat.le_trans (Nat.mul_le_mul_right _ (oda:aD.toNat≤35184372088832)) (by omega)) (Below.refl _ _) (Nat.le_refl _) ?_;intro ai aj ho15 hb hg_ hnew_;have HSL114:=Aside0.mk (Kd.R_slice ho15);clear hg_ hnew_;(first|rw [←bD.out] at ho15|(simp only [Int.reduceToNat] at ho15;rw [←bD.out] at ho15));refine Ya3 (Kd.S_elder' (by (with_reducible repeat (first|apply Kd.S_alloc|apply Kd.S_drewN|apply Kd.S_drew));exact a9.out) (Kd.R_base ho15) hb) (Kd.R_lower ho15 (below_size (be HB.out))) (below_step (be HB.out) hb) ?_;clear a9 HB;intro a9 aw HB;clear hb ho15;have p11:0≤((l0.length:Int):Int):=oda;have q11:((l0.length:Int):Int)<((aa.length:Int):Int):=oda;obtain ⟨a8,aq,bd,bg,gl11,cl11,HG11⟩:=Kd.S_form a9.out (by omega);(first|cases bd|(injection bd with ea_ en_ ec_;(first|subst ea_|(injection ea_ with ea_;subst ea_));subst ec_;clear en_));have bh:=Aside0.mk bg;have GG11:=Aside0.mk HG11;clear bg gl11 HG11;obtain ⟨_,ce11,hcl11,hM11,hcc11,hfr11,_,_⟩:=Kd.S_elem a9.out [] ((l0.length:Int):Int) p11 q11;obtain ⟨ve11_0,rfl,ge11_0⟩:=hM11;have b5:=hcc11 0 _ rfl;have hf11_0:=hfr11 0;(try simp only [show ((Kd.slice 3 (Kd.int .i64))).sz=1 from rfl,Nat.mul_one,Nat.add_zero] at b5);(try simp only [show ((Kd.slice 3 (Kd.int .i64))).sz=1 from rfl,Nat.mul_one,Nat.add_zero] at hf11_0);(try clear hM11);clear hcl11 hcc11 hfr11;(try simp only [Int.toNat_natCast] at b5);(try simp only [Int.toNat_natCast] at hf11_0);replace p11:=eq_true p11;replace q11:=eq_true q11;have n_:=Aside0.mk (Kd.S_mono (ok':=(fun k_=>some k_≠(ai:Value).ownBlock)) a9.out (fun k_ hk=>hk.2));clear a9;have a9:=n_;clear n_;have aL:=Aside0.mk (show Kd.S (Kd.slice 3 (Kd.int .i64)) 101 aj w.heap.size (fun k_=>((fun _=>True)) k_ ∧ ¬((fun k_=>some k_=(ai:Value).ownBlock)) k_) (.slice (some ⟨a8,0,none⟩) aa.length aq) aa from (by (with_reducible repeat (first|apply Kd.S_alloc|apply Kd.S_drewN|apply Kd.S_drew));exact Kd.S_mono a9.out (fun k_ hk=>⟨trivial,fun e_=>hk e_⟩)));obtain ⟨oki16,ce16,hcl16,hM16,hcc16,hfr16,hoki16,hH16⟩:=Kd.S_elem aL.out [] ((l0.length:Int):Int) (oda) (by have h_:((l0.length:Int):Int)<((aa.length:Int):Int):=oda;first|exact h_|(have e_:=(Kd.S_reads' a9.out).1;omega)|simpa using h_);obtain ⟨ve16_0,rfl,ge16_0⟩:=hM16;have ar:=Kd.S_seg hH16 (oda) (by have h_:((l0.length:Int):Int)<((aa.length:Int):Int):=oda;first|exact h_|(have e_:=(Kd.S_reads' a9.out).1;omega)|simpa using h_) (seg:=[ai]) (j:=0) (show 1≤1 from by decide) (x':=ba) (Kd.M_row (Kd.R_mono (Kd.R_tight rfl (Kd.R_mono (ok':=fun k_=>((fun _=>True)) k_∧k_≠a8) (Kd.R_apart' (aw.out) (Kd.S_typed a9.out) (by decide)) (fun k_ hk=>⟨trivial,fun e_=>(hk.2) (by rw [e_];rfl)⟩))) (fun _ h_=>Or.inr (h_)))) (fun _ hk=>hk) (fun k_ hk_=>((Kd.R_mono (ok':=fun k_=>((fun _=>True)) k_∧k_≠a8) (Kd.R_apart' (aw.out) (Kd.S_typed a9.out) (by decide)) (fun k_ hk=>⟨trivial,fun e_=>(hk.2) (by rw [e_];rfl)⟩))).1 k_ hk_.symm);have aH:=hcc16 0 _ rfl;(try simp only [show ((Kd.slice 3 (Kd.int .i64))).sz=1 from rfl,Nat.mul_one,Nat.add_zero] at aH);have hf16_0:=hfr16 0;(try simp only [show ((Kd.slice 3 (Kd.int .i64))).sz=1 from rfl,Nat.mul_one,Nat.add_zero] at hf16_0);(try clear hM16);clear hcl16 hcc16 hfr16 hoki16 hH16;(try simp only [show ((Kd.slice 3 (Kd.int .i64))).sz=1 from rfl,Nat.mul_one,Nat.add_zero] at ar))|((with_reducible refine gate_store (t:=101) (p:=20) rfl ?_);(try (rw [drewN_self aj];generalize hq_:World.drewN aj _=aj;have ax:=Aside0.mk (Kd.S_at hq_ a9.out);have ay:=Aside0.mk (below_at hq_ HB.out);clear hq_ a9 HB;have a9:=ax;have HB:=ay;clear ax ay;(try (have n_:=Aside0.mk (Kd.S_mono (ok':=(fun k_=>some k_≠(ai:Value).ownBlock)) a9.out (fun k_ hk=>hk.2));clear a9;have a9:=n_;clear n_));(try (have aL:=Aside0.mk (show Kd.S (Kd.slice 3 (Kd.int .i64)) 101 aj w.heap.size (fun k_=>((fun _=>True)) k_ ∧ ¬((fun k_=>some k_=(ai:Value).ownBlock)) k_) (.slice (some ⟨a8,0,none⟩) aa.length aq) aa from (by (with_reducible repeat (first|apply Kd.S_alloc|apply Kd.S_drewN|apply Kd.S_drew));exact Kd.S_mono a9.out (fun k_ hk=>⟨trivial,fun e_=>hk e_⟩)))));(try (obtain ⟨oki16,ce16,hcl16,hM16,hcc16,hfr16,hoki16,hH16⟩:=Kd.S_elem aL.out [] ((l0.length:Int):Int) (oda) (by have h_:((l0.length:Int):Int)<((aa.length:Int):Int):=oda;first|exact h_|(have e_:=(Kd.S_reads' a9.out).1;omega)|simpa using h_)));(try (obtain ⟨ve16_0,rfl,ge16_0⟩:=hM16));(try (have ar:=Kd.S_seg hH16 (oda) (by have h_:((l0.length:Int):Int)<((aa.length:Int):Int):=oda;first|exact h_|(have e_:=(Kd.S_reads' a9.out).1;omega)|simpa using h_) (seg:=[ai]) (j:=0) (show 1≤1 from by decide) (x':=ba) (Kd.M_row (Kd.R_mono (Kd.R_tight rfl (Kd.R_mono (ok':=fun k_=>((fun _=>True)) k_∧k_≠a8) (Kd.R_apart' (aw.out) (Kd.S_typed a9.out) (by decide)) (fun k_ hk=>⟨trivial,fun e_=>(hk.2) (by rw [e_];rfl)⟩))) (fun _ h_=>Or.inr (h_)))) (fun _ hk=>hk) (fun k_ hk_=>((Kd.R_mono (ok':=fun k_=>((fun _=>True)) k_∧k_≠a8) (Kd.R_apart' (aw.out) (Kd.S_typed a9.out) (by decide)) (fun k_ hk=>⟨trivial,fun e_=>(hk.2) (by rw [e_];rfl)⟩))).1 k_ hk_.symm)));(try (have aH:=hcc16 0 _ rfl));(try (try simp only [show ((Kd.slice 3 (Kd.int .i64))).sz=1 from rfl,Nat.mul_one,Nat.add_zero] at aH));(try (have hf16_0:=hfr16 0));(try (try simp only [show ((Kd.slice 3 (Kd.int .i64))).sz=1 from rfl,Nat.mul_one,Nat.add_zero] at hf16_0));(try ((try clear hM16);clear hcl16 hcc16 hfr16 hoki16 hH16));(try (try simp only [show ((Kd.slice 3 (Kd.int .i64))).sz=1 from rfl,Nat.mul_one,Nat.add_zero] at ar))));refine store_event (t:=101) (p:=20) (v:=?vo_w17) (w1:=(aj.setCell ⟨a8,((l0.length:Int):Int).toNat,none⟩ (ai))) ?hg ?ho ?hn ?hr ?_;(case ho=>rfl);(case hg=>rfl);(case hn=>rfl);(case hr=>first|(go_simp;done)|(go_simp;rfl)|(obtain ⟨A_,c_,e_⟩:=HSL114.out;subst e_;first|(go_simp;done)|(go_simp;rfl)));intro aM hw;have hg:aj.grownBy aM (some a8):=(by rw [hw];exact ar.2);have hp_:Kd.S (Kd.slice 3 (Kd.int .i64)) 101 aM w.heap.size (fun _=>True) (.slice (some ⟨a8,0,none⟩) aa.length aq) bX:=(by rw [hw,dq.out];exact ar.1);clear ar;refine Ya2 (hp_) ((by rw [hw];exact below_set (HB.out) bh.out:Below w.heap.size w aM)) ?_;clear a9 HB aw;intro a9 HB;clear hg hw hp_)))
       go_loopg [6] k (fun kq v6 w' => ∃ (ac:List (List Int)) (a2:Int),v6 = .int .i64 a2∧Aside0 (spec_l7Table.l0 kq l0 l1 ac a2=some r)∧Aside0 (kq≤k)∧Aside0 (Kd.S (Kd.slice 3 (Kd.int .i64)) 101 w' w.heap.size (fun _=>True) (.slice (some ⟨a8,0,none⟩) aa.length aq) ac)∧Aside0 (Below w.heap.size w w'))
       case atStart=>exact ⟨(bX),(wrap64 ((l0.length:Int) - 1)),Ye1,H',⟨Nat.le_refl _⟩,⟨by (with_reducible repeat (first|apply Kd.S_alloc|apply Kd.S_drewN|apply Kd.S_drew));exact a9.out⟩,⟨be HB.out⟩⟩
       case round =>
        clear H';(try clear c1);(try clear p1);(try clear q1);(try clear hx1);(try clear p2);(try clear c4);(try clear dG);(try clear dH);(try clear c5);(try clear dI);(try clear dJ);(try clear c6);(try clear p6);(try clear c7);(try clear dK);(try clear dL);(try clear c8);(try clear dM);(try clear dN);(try clear c9);(try clear dO);(try clear dP);(try clear c10);(try clear dQ);(try clear dR);(try clear c11);(try clear p11);(try clear q11);(try clear hx11);(try clear eK);(try clear c16);(try clear hx16);(try clear eL);(try clear b5);(try clear aH);(try clear p11);(try clear q11);obtain ⟨ac,a2,rfl,HA,HK1,a5,HB⟩:=hrel;have hl5_1:=(Kd.S_reads' a5.out).1
        rw [hl5_1] at a5
        (try simp only [hl5_1])
        cases gk with
        | zero=>exact absurd HA.out (by simp [spec_l7Table.l0])
        | succ k1 =>
         have H:=HA.out;clear HA;simp only [spec_l7Table.l0] at H
         by_cases bn:a2 ≥ 0
         ·rw [if_pos bn] at H
          have dT:decide (0≤a2)=true:=decide_eq_true bn;clear bn
          obtain ⟨aE,dr⟩:∃ j_:Int,(wrap64 ((l1.length:Int)+1))=j_:=⟨_,rfl⟩
          (try clear hji6w);(try clear bV)
          replace H:(if 0≤(aE) then (if (aE:Int).toNat≤35184372088832 then (if 0≤a2 then (if a2<(ac.length:Int) then (spec_l7Table.l1 k1 l0 l1 (ac.set (a2:Int).toNat (List.replicate (aE:Int).toNat 0)) a2 (wrap64 ((l1.length:Int) - 1))) else (none)) else (none)) else (none)) else (none))=some r:=by first|(rw [dr] at H;exact H)|(simp only [dr] at H ⊢; exact H)
          have hji19w:(IntKind.i64.wrap ((l1.length:Int)+1))=aE:=(i64_w _).trans dr
          by_cases bE:0≤(aE)
          ·rw [if_pos bE] at H
           have eM:=eq_true bE;have eN:decide (0≤(aE))=true:=decide_eq_true bE;clear bE
           by_cases bF:(aE:Int).toNat≤35184372088832
           ·rw [if_pos bF] at H
            have eO:=eq_true bF;have eP:decide ((aE:Int).toNat≤35184372088832)=true:=decide_eq_true bF;clear bF
            obtain ⟨bi,bZ⟩:∃ y_:List Int,y_=(List.replicate (aE:Int).toNat 0):=⟨_,rfl⟩
            replace H:(if 0≤a2 then (if a2<(ac.length:Int) then (spec_l7Table.l1 k1 l0 l1 (ac.set (a2:Int).toNat bi) a2 (wrap64 ((l1.length:Int) - 1))) else (none)) else (none))=some r:=by first|(rw [bZ];with_reducible exact H)|(have H2_:=(Option.bind_some _ _).symm.trans H;rw [bZ];with_reducible exact H2_)|(have H2_:=(Option.bind_some _ _).symm.trans H;with_reducible exact H2_)|with_reducible exact H|(rw [bZ];exact H)|exact H
            have bG:=Aside0.mk bZ;clear bZ
            by_cases ca:0≤a2
            ·rw [if_pos ca] at H
             have eQ:decide (0≤a2)=true:=decide_eq_true ca;clear ca
             by_cases cc:a2<(ac.length:Int)
             ·rw [if_pos cc] at H
              have eR:decide (a2<(ac.length:Int))=true:=decide_eq_true cc;clear cc
              obtain ⟨cd,ce⟩:∃ y_:List (List Int),y_=(ac.set (a2:Int).toNat bi):=⟨_,rfl⟩
              replace H:(spec_l7Table.l1 k1 l0 l1 cd a2 (wrap64 ((l1.length:Int) - 1)))=some r:=by first|(rw [ce];with_reducible exact H)|(have H2_:=(Option.bind_some _ _).symm.trans H;rw [ce];with_reducible exact H2_)|(have H2_:=(Option.bind_some _ _).symm.trans H;with_reducible exact H2_)|with_reducible exact H|(rw [ce];exact H)|exact H
              have ds:=Aside0.mk ce;clear ce;have H':=Aside0.mk H;clear H
              go_wp2_with (first|((with_reducible refine gd 33 rfl ?_);refine Kd.R_make (Kd.int .i64) _ 3 rfl (N:=33) rfl 101 _ _ rfl aE rfl rfl Tryd.underlying101 (.int .i64 0) 8 info3 rfl (by decide) (by omega) 0 (ok:=fun _=>True) (okp:=fun _=>True) rfl (fun _ hk=>hk) trivial (oda) (Nat.le_trans (Nat.mul_le_mul_right _ (oda:aE.toNat≤35184372088832)) (by omega)) (Below.refl _ _) (Nat.le_refl _) ?_;intro ak al ho26 hb hg_ hnew_;have HSL118:=Aside0.mk (Kd.R_slice ho26);clear hg_ hnew_;(first|rw [←bG.out] at ho26|(simp only [Int.reduceToNat] at ho26;rw [←bG.out] at ho26));refine Ya3 (Kd.S_elder' (by (with_reducible repeat (first|apply Kd.S_alloc|apply Kd.S_drewN|apply Kd.S_drew));exact a5.out) (Kd.R_base ho26) hb) (Kd.R_lower ho26 (below_size (be HB.out))) (below_step (be HB.out) hb) ?_;clear a5 HB;intro a5 az HB;clear hb ho26;have p24:0≤(a2:Int):=oda;have q24:(a2:Int)<((ac.length:Int):Int):=oda;obtain ⟨_,ce24,hcl24,hM24,hcc24,hfr24,_,_⟩:=Kd.S_elem a5.out [] (a2:Int) p24 q24;obtain ⟨ve24_0,rfl,ge24_0⟩:=hM24;have bH:=hcc24 0 _ rfl;have hf24_0:=hfr24 0;(try simp only [show ((Kd.slice 3 (Kd.int .i64))).sz=1 from rfl,Nat.mul_one,Nat.add_zero] at bH);(try simp only [show ((Kd.slice 3 (Kd.int .i64))).sz=1 from rfl,Nat.mul_one,Nat.add_zero] at hf24_0);(try clear hM24);clear hcl24 hcc24 hfr24;replace p24:=eq_true p24;replace q24:=eq_true q24;have n_:=Aside0.mk (Kd.S_mono (ok':=(fun k_=>some k_≠(ak:Value).ownBlock)) a5.out (fun k_ hk=>hk.2));clear a5;have a5:=n_;clear n_;have aN:=Aside0.mk (show Kd.S (Kd.slice 3 (Kd.int .i64)) 101 al w.heap.size (fun k_=>((fun _=>True)) k_ ∧ ¬((fun k_=>some k_=(ak:Value).ownBlock)) k_) (.slice (some ⟨a8,0,none⟩) ac.length aq) ac from (by (with_reducible repeat (first|apply Kd.S_alloc|apply Kd.S_drewN|apply Kd.S_drew));exact Kd.S_mono a5.out (fun k_ hk=>⟨trivial,fun e_=>hk e_⟩)));obtain ⟨oki27,ce27,hcl27,hM27,hcc27,hfr27,hoki27,hH27⟩:=Kd.S_elem aN.out [] (a2:Int) (oda) (by have h_:(a2:Int)<((ac.length:Int):Int):=oda;first|exact h_|(have e_:=(Kd.S_reads' a5.out).1;omega)|simpa using h_);obtain ⟨ve27_0,rfl,ge27_0⟩:=hM27;have au:=Kd.S_seg hH27 (oda) (by have h_:(a2:Int)<((ac.length:Int):Int):=oda;first|exact h_|(have e_:=(Kd.S_reads' a5.out).1;omega)|simpa using h_) (seg:=[ak]) (j:=0) (show 1≤1 from by decide) (x':=bi) (Kd.M_row (Kd.R_mono (Kd.R_tight rfl (Kd.R_mono (ok':=fun k_=>((fun _=>True)) k_∧k_≠a8) (Kd.R_apart' (az.out) (Kd.S_typed a5.out) (by decide)) (fun k_ hk=>⟨trivial,fun e_=>(hk.2) (by rw [e_];rfl)⟩))) (fun _ h_=>Or.inr (h_)))) (fun _ hk=>hk) (fun k_ hk_=>((Kd.R_mono (ok':=fun k_=>((fun _=>True)) k_∧k_≠a8) (Kd.R_apart' (az.out) (Kd.S_typed a5.out) (by decide)) (fun k_ hk=>⟨trivial,fun e_=>(hk.2) (by rw [e_];rfl)⟩))).1 k_ hk_.symm);have aK:=hcc27 0 _ rfl;(try simp only [show ((Kd.slice 3 (Kd.int .i64))).sz=1 from rfl,Nat.mul_one,Nat.add_zero] at aK);have hf27_0:=hfr27 0;(try simp only [show ((Kd.slice 3 (Kd.int .i64))).sz=1 from rfl,Nat.mul_one,Nat.add_zero] at hf27_0);(try clear hM27);clear hcl27 hcc27 hfr27 hoki27 hH27;(try simp only [show ((Kd.slice 3 (Kd.int .i64))).sz=1 from rfl,Nat.mul_one,Nat.add_zero] at au))|((with_reducible refine gate_store (t:=101) (p:=34) rfl ?_);(try (rw [drewN_self al];generalize hq_:World.drewN al _=al;have ax:=Aside0.mk (Kd.S_at hq_ a5.out);have ay:=Aside0.mk (below_at hq_ HB.out);clear hq_ a5 HB;have a5:=ax;have HB:=ay;clear ax ay;(try (have n_:=Aside0.mk (Kd.S_mono (ok':=(fun k_=>some k_≠(ak:Value).ownBlock)) a5.out (fun k_ hk=>hk.2));clear a5;have a5:=n_;clear n_));(try (have aN:=Aside0.mk (show Kd.S (Kd.slice 3 (Kd.int .i64)) 101 al w.heap.size (fun k_=>((fun _=>True)) k_ ∧ ¬((fun k_=>some k_=(ak:Value).ownBlock)) k_) (.slice (some ⟨a8,0,none⟩) ac.length aq) ac from (by (with_reducible repeat (first|apply Kd.S_alloc|apply Kd.S_drewN|apply Kd.S_drew));exact Kd.S_mono a5.out (fun k_ hk=>⟨trivial,fun e_=>hk e_⟩)))));(try (obtain ⟨oki27,ce27,hcl27,hM27,hcc27,hfr27,hoki27,hH27⟩:=Kd.S_elem aN.out [] (a2:Int) (oda) (by have h_:(a2:Int)<((ac.length:Int):Int):=oda;first|exact h_|(have e_:=(Kd.S_reads' a5.out).1;omega)|simpa using h_)));(try (obtain ⟨ve27_0,rfl,ge27_0⟩:=hM27));(try (have au:=Kd.S_seg hH27 (oda) (by have h_:(a2:Int)<((ac.length:Int):Int):=oda;first|exact h_|(have e_:=(Kd.S_reads' a5.out).1;omega)|simpa using h_) (seg:=[ak]) (j:=0) (show 1≤1 from by decide) (x':=bi) (Kd.M_row (Kd.R_mono (Kd.R_tight rfl (Kd.R_mono (ok':=fun k_=>((fun _=>True)) k_∧k_≠a8) (Kd.R_apart' (az.out) (Kd.S_typed a5.out) (by decide)) (fun k_ hk=>⟨trivial,fun e_=>(hk.2) (by rw [e_];rfl)⟩))) (fun _ h_=>Or.inr (h_)))) (fun _ hk=>hk) (fun k_ hk_=>((Kd.R_mono (ok':=fun k_=>((fun _=>True)) k_∧k_≠a8) (Kd.R_apart' (az.out) (Kd.S_typed a5.out) (by decide)) (fun k_ hk=>⟨trivial,fun e_=>(hk.2) (by rw [e_];rfl)⟩))).1 k_ hk_.symm)));(try (have aK:=hcc27 0 _ rfl));(try (try simp only [show ((Kd.slice 3 (Kd.int .i64))).sz=1 from rfl,Nat.mul_one,Nat.add_zero] at aK));(try (have hf27_0:=hfr27 0));(try (try simp only [show ((Kd.slice 3 (Kd.int .i64))).sz=1 from rfl,Nat.mul_one,Nat.add_zero] at hf27_0));(try ((try clear hM27);clear hcl27 hcc27 hfr27 hoki27 hH27));(try (try simp only [show ((Kd.slice 3 (Kd.int .i64))).sz=1 from rfl,Nat.mul_one,Nat.add_zero] at au))));refine store_event (t:=101) (p:=34) (v:=?vo_w28) (w1:=(al.setCell ⟨a8,(a2:Int).toNat,none⟩ (ak))) ?hg ?ho ?hn ?hr ?_;(case ho=>rfl);(case hg=>rfl);(case hn=>rfl);(case hr=>first|(go_simp;done)|(go_simp;rfl)|(obtain ⟨A_,c_,e_⟩:=HSL118.out;subst e_;first|(go_simp;done)|(go_simp;rfl)));intro aO hw;have hg:al.grownBy aO (some a8):=(by rw [hw];exact au.2);have hp_:Kd.S (Kd.slice 3 (Kd.int .i64)) 101 aO w.heap.size (fun _=>True) (.slice (some ⟨a8,0,none⟩) ac.length aq) cd:=(by rw [hw,ds.out];exact au.1);clear au;refine Ya2 (hp_) ((by rw [hw];exact below_set (HB.out) bh.out:Below w.heap.size w aO)) ?_;clear a5 HB az;intro a5 HB;clear hg hw hp_))
              repeat (go_quiet (first|((with_reducible refine gd 33 rfl ?_);refine Kd.R_make (Kd.int .i64) _ 3 rfl (N:=33) rfl 101 _ _ rfl aE rfl rfl Tryd.underlying101 (.int .i64 0) 8 info3 rfl (by decide) (by omega) 0 (ok:=fun _=>True) (okp:=fun _=>True) rfl (fun _ hk=>hk) trivial (oda) (Nat.le_trans (Nat.mul_le_mul_right _ (oda:aE.toNat≤35184372088832)) (by omega)) (Below.refl _ _) (Nat.le_refl _) ?_;intro ak al ho26 hb hg_ hnew_;have HSL118:=Aside0.mk (Kd.R_slice ho26);clear hg_ hnew_;(first|rw [←bG.out] at ho26|(simp only [Int.reduceToNat] at ho26;rw [←bG.out] at ho26));refine Ya3 (Kd.S_elder' (by (with_reducible repeat (first|apply Kd.S_alloc|apply Kd.S_drewN|apply Kd.S_drew));exact a5.out) (Kd.R_base ho26) hb) (Kd.R_lower ho26 (below_size (be HB.out))) (below_step (be HB.out) hb) ?_;clear a5 HB;intro a5 az HB;clear hb ho26;have p24:0≤(a2:Int):=oda;have q24:(a2:Int)<((ac.length:Int):Int):=oda;obtain ⟨_,ce24,hcl24,hM24,hcc24,hfr24,_,_⟩:=Kd.S_elem a5.out [] (a2:Int) p24 q24;obtain ⟨ve24_0,rfl,ge24_0⟩:=hM24;have bH:=hcc24 0 _ rfl;have hf24_0:=hfr24 0;(try simp only [show ((Kd.slice 3 (Kd.int .i64))).sz=1 from rfl,Nat.mul_one,Nat.add_zero] at bH);(try simp only [show ((Kd.slice 3 (Kd.int .i64))).sz=1 from rfl,Nat.mul_one,Nat.add_zero] at hf24_0);(try clear hM24);clear hcl24 hcc24 hfr24;replace p24:=eq_true p24;replace q24:=eq_true q24;have n_:=Aside0.mk (Kd.S_mono (ok':=(fun k_=>some k_≠(ak:Value).ownBlock)) a5.out (fun k_ hk=>hk.2));clear a5;have a5:=n_;clear n_;have aN:=Aside0.mk (show Kd.S (Kd.slice 3 (Kd.int .i64)) 101 al w.heap.size (fun k_=>((fun _=>True)) k_ ∧ ¬((fun k_=>some k_=(ak:Value).ownBlock)) k_) (.slice (some ⟨a8,0,none⟩) ac.length aq) ac from (by (with_reducible repeat (first|apply Kd.S_alloc|apply Kd.S_drewN|apply Kd.S_drew));exact Kd.S_mono a5.out (fun k_ hk=>⟨trivial,fun e_=>hk e_⟩)));obtain ⟨oki27,ce27,hcl27,hM27,hcc27,hfr27,hoki27,hH27⟩:=Kd.S_elem aN.out [] (a2:Int) (oda) (by have h_:(a2:Int)<((ac.length:Int):Int):=oda;first|exact h_|(have e_:=(Kd.S_reads' a5.out).1;omega)|simpa using h_);obtain ⟨ve27_0,rfl,ge27_0⟩:=hM27;have au:=Kd.S_seg hH27 (oda) (by have h_:(a2:Int)<((ac.length:Int):Int):=oda;first|exact h_|(have e_:=(Kd.S_reads' a5.out).1;omega)|simpa using h_) (seg:=[ak]) (j:=0) (show 1≤1 from by decide) (x':=bi) (Kd.M_row (Kd.R_mono (Kd.R_tight rfl (Kd.R_mono (ok':=fun k_=>((fun _=>True)) k_∧k_≠a8) (Kd.R_apart' (az.out) (Kd.S_typed a5.out) (by decide)) (fun k_ hk=>⟨trivial,fun e_=>(hk.2) (by rw [e_];rfl)⟩))) (fun _ h_=>Or.inr (h_)))) (fun _ hk=>hk) (fun k_ hk_=>((Kd.R_mono (ok':=fun k_=>((fun _=>True)) k_∧k_≠a8) (Kd.R_apart' (az.out) (Kd.S_typed a5.out) (by decide)) (fun k_ hk=>⟨trivial,fun e_=>(hk.2) (by rw [e_];rfl)⟩))).1 k_ hk_.symm);have aK:=hcc27 0 _ rfl;(try simp only [show ((Kd.slice 3 (Kd.int .i64))).sz=1 from rfl,Nat.mul_one,Nat.add_zero] at aK);have hf27_0:=hfr27 0;(try simp only [show ((Kd.slice 3 (Kd.int .i64))).sz=1 from rfl,Nat.mul_one,Nat.add_zero] at hf27_0);(try clear hM27);clear hcl27 hcc27 hfr27 hoki27 hH27;(try simp only [show ((Kd.slice 3 (Kd.int .i64))).sz=1 from rfl,Nat.mul_one,Nat.add_zero] at au))|((with_reducible refine gate_store (t:=101) (p:=34) rfl ?_);(try (rw [drewN_self al];generalize hq_:World.drewN al _=al;have ax:=Aside0.mk (Kd.S_at hq_ a5.out);have ay:=Aside0.mk (below_at hq_ HB.out);clear hq_ a5 HB;have a5:=ax;have HB:=ay;clear ax ay;(try (have n_:=Aside0.mk (Kd.S_mono (ok':=(fun k_=>some k_≠(ak:Value).ownBlock)) a5.out (fun k_ hk=>hk.2));clear a5;have a5:=n_;clear n_));(try (have aN:=Aside0.mk (show Kd.S (Kd.slice 3 (Kd.int .i64)) 101 al w.heap.size (fun k_=>((fun _=>True)) k_ ∧ ¬((fun k_=>some k_=(ak:Value).ownBlock)) k_) (.slice (some ⟨a8,0,none⟩) ac.length aq) ac from (by (with_reducible repeat (first|apply Kd.S_alloc|apply Kd.S_drewN|apply Kd.S_drew));exact Kd.S_mono a5.out (fun k_ hk=>⟨trivial,fun e_=>hk e_⟩)))));(try (obtain ⟨oki27,ce27,hcl27,hM27,hcc27,hfr27,hoki27,hH27⟩:=Kd.S_elem aN.out [] (a2:Int) (oda) (by have h_:(a2:Int)<((ac.length:Int):Int):=oda;first|exact h_|(have e_:=(Kd.S_reads' a5.out).1;omega)|simpa using h_)));(try (obtain ⟨ve27_0,rfl,ge27_0⟩:=hM27));(try (have au:=Kd.S_seg hH27 (oda) (by have h_:(a2:Int)<((ac.length:Int):Int):=oda;first|exact h_|(have e_:=(Kd.S_reads' a5.out).1;omega)|simpa using h_) (seg:=[ak]) (j:=0) (show 1≤1 from by decide) (x':=bi) (Kd.M_row (Kd.R_mono (Kd.R_tight rfl (Kd.R_mono (ok':=fun k_=>((fun _=>True)) k_∧k_≠a8) (Kd.R_apart' (az.out) (Kd.S_typed a5.out) (by decide)) (fun k_ hk=>⟨trivial,fun e_=>(hk.2) (by rw [e_];rfl)⟩))) (fun _ h_=>Or.inr (h_)))) (fun _ hk=>hk) (fun k_ hk_=>((Kd.R_mono (ok':=fun k_=>((fun _=>True)) k_∧k_≠a8) (Kd.R_apart' (az.out) (Kd.S_typed a5.out) (by decide)) (fun k_ hk=>⟨trivial,fun e_=>(hk.2) (by rw [e_];rfl)⟩))).1 k_ hk_.symm)));(try (have aK:=hcc27 0 _ rfl));(try (try simp only [show ((Kd.slice 3 (Kd.int .i64))).sz=1 from rfl,Nat.mul_one,Nat.add_zero] at aK));(try (have hf27_0:=hfr27 0));(try (try simp only [show ((Kd.slice 3 (Kd.int .i64))).sz=1 from rfl,Nat.mul_one,Nat.add_zero] at hf27_0));(try ((try clear hM27);clear hcl27 hcc27 hfr27 hoki27 hH27));(try (try simp only [show ((Kd.slice 3 (Kd.int .i64))).sz=1 from rfl,Nat.mul_one,Nat.add_zero] at au))));refine store_event (t:=101) (p:=34) (v:=?vo_w28) (w1:=(al.setCell ⟨a8,(a2:Int).toNat,none⟩ (ak))) ?hg ?ho ?hn ?hr ?_;(case ho=>rfl);(case hg=>rfl);(case hn=>rfl);(case hr=>first|(go_simp;done)|(go_simp;rfl)|(obtain ⟨A_,c_,e_⟩:=HSL118.out;subst e_;first|(go_simp;done)|(go_simp;rfl)));intro aO hw;have hg:al.grownBy aO (some a8):=(by rw [hw];exact au.2);have hp_:Kd.S (Kd.slice 3 (Kd.int .i64)) 101 aO w.heap.size (fun _=>True) (.slice (some ⟨a8,0,none⟩) ac.length aq) cd:=(by rw [hw,ds.out];exact au.1);clear au;refine Ya2 (hp_) ((by rw [hw];exact below_set (HB.out) bh.out:Below w.heap.size w aO)) ?_;clear a5 HB az;intro a5 HB;clear hg hw hp_));try go_wp2_with (first|((with_reducible refine gd 33 rfl ?_);refine Kd.R_make (Kd.int .i64) _ 3 rfl (N:=33) rfl 101 _ _ rfl aE rfl rfl Tryd.underlying101 (.int .i64 0) 8 info3 rfl (by decide) (by omega) 0 (ok:=fun _=>True) (okp:=fun _=>True) rfl (fun _ hk=>hk) trivial (oda) (Nat.le_trans (Nat.mul_le_mul_right _ (oda:aE.toNat≤35184372088832)) (by omega)) (Below.refl _ _) (Nat.le_refl _) ?_;intro ak al ho26 hb hg_ hnew_;have HSL118:=Aside0.mk (Kd.R_slice ho26);clear hg_ hnew_;(first|rw [←bG.out] at ho26|(simp only [Int.reduceToNat] at ho26;rw [←bG.out] at ho26));refine Ya3 (Kd.S_elder' (by (with_reducible repeat (first|apply Kd.S_alloc|apply Kd.S_drewN|apply Kd.S_drew));exact a5.out) (Kd.R_base ho26) hb) (Kd.R_lower ho26 (below_size (be HB.out))) (below_step (be HB.out) hb) ?_;clear a5 HB;intro a5 az HB;clear hb ho26;have p24:0≤(a2:Int):=oda;have q24:(a2:Int)<((ac.length:Int):Int):=oda;obtain ⟨_,ce24,hcl24,hM24,hcc24,hfr24,_,_⟩:=Kd.S_elem a5.out [] (a2:Int) p24 q24;obtain ⟨ve24_0,rfl,ge24_0⟩:=hM24;have bH:=hcc24 0 _ rfl;have hf24_0:=hfr24 0;(try simp only [show ((Kd.slice 3 (Kd.int .i64))).sz=1 from rfl,Nat.mul_one,Nat.add_zero] at bH);(try simp only [show ((Kd.slice 3 (Kd.int .i64))).sz=1 from rfl,Nat.mul_one,Nat.add_zero] at hf24_0);(try clear hM24);clear hcl24 hcc24 hfr24;replace p24:=eq_true p24;replace q24:=eq_true q24;have n_:=Aside0.mk (Kd.S_mono (ok':=(fun k_=>some k_≠(ak:Value).ownBlock)) a5.out (fun k_ hk=>hk.2));clear a5;have a5:=n_;clear n_;have aN:=Aside0.mk (show Kd.S (Kd.slice 3 (Kd.int .i64)) 101 al w.heap.size (fun k_=>((fun _=>True)) k_ ∧ ¬((fun k_=>some k_=(ak:Value).ownBlock)) k_) (.slice (some ⟨a8,0,none⟩) ac.length aq) ac from (by (with_reducible repeat (first|apply Kd.S_alloc|apply Kd.S_drewN|apply Kd.S_drew));exact Kd.S_mono a5.out (fun k_ hk=>⟨trivial,fun e_=>hk e_⟩)));obtain ⟨oki27,ce27,hcl27,hM27,hcc27,hfr27,hoki27,hH27⟩:=Kd.S_elem aN.out [] (a2:Int) (oda) (by have h_:(a2:Int)<((ac.length:Int):Int):=oda;first|exact h_|(have e_:=(Kd.S_reads' a5.out).1;omega)|simpa using h_);obtain ⟨ve27_0,rfl,ge27_0⟩:=hM27;have au:=Kd.S_seg hH27 (oda) (by have h_:(a2:Int)<((ac.length:Int):Int):=oda;first|exact h_|(have e_:=(Kd.S_reads' a5.out).1;omega)|simpa using h_) (seg:=[ak]) (j:=0) (show 1≤1 from by decide) (x':=bi) (Kd.M_row (Kd.R_mono (Kd.R_tight rfl (Kd.R_mono (ok':=fun k_=>((fun _=>True)) k_∧k_≠a8) (Kd.R_apart' (az.out) (Kd.S_typed a5.out) (by decide)) (fun k_ hk=>⟨trivial,fun e_=>(hk.2) (by rw [e_];rfl)⟩))) (fun _ h_=>Or.inr (h_)))) (fun _ hk=>hk) (fun k_ hk_=>((Kd.R_mono (ok':=fun k_=>((fun _=>True)) k_∧k_≠a8) (Kd.R_apart' (az.out) (Kd.S_typed a5.out) (by decide)) (fun k_ hk=>⟨trivial,fun e_=>(hk.2) (by rw [e_];rfl)⟩))).1 k_ hk_.symm);have aK:=hcc27 0 _ rfl;(try simp only [show ((Kd.slice 3 (Kd.int .i64))).sz=1 from rfl,Nat.mul_one,Nat.add_zero] at aK);have hf27_0:=hfr27 0;(try simp only [show ((Kd.slice 3 (Kd.int .i64))).sz=1 from rfl,Nat.mul_one,Nat.add_zero] at hf27_0);(try clear hM27);clear hcl27 hcc27 hfr27 hoki27 hH27;(try simp only [show ((Kd.slice 3 (Kd.int .i64))).sz=1 from rfl,Nat.mul_one,Nat.add_zero] at au))|((with_reducible refine gate_store (t:=101) (p:=34) rfl ?_);(try (rw [drewN_self al];generalize hq_:World.drewN al _=al;have ax:=Aside0.mk (Kd.S_at hq_ a5.out);have ay:=Aside0.mk (below_at hq_ HB.out);clear hq_ a5 HB;have a5:=ax;have HB:=ay;clear ax ay;(try (have n_:=Aside0.mk (Kd.S_mono (ok':=(fun k_=>some k_≠(ak:Value).ownBlock)) a5.out (fun k_ hk=>hk.2));clear a5;have a5:=n_;clear n_));(try (have aN:=Aside0.mk (show Kd.S (Kd.slice 3 (Kd.int .i64)) 101 al w.heap.size (fun k_=>((fun _=>True)) k_ ∧ ¬((fun k_=>some k_=(ak:Value).ownBlock)) k_) (.slice (some ⟨a8,0,none⟩) ac.length aq) ac from (by (with_reducible repeat (first|apply Kd.S_alloc|apply Kd.S_drewN|apply Kd.S_drew));exact Kd.S_mono a5.out (fun k_ hk=>⟨trivial,fun e_=>hk e_⟩)))));(try (obtain ⟨oki27,ce27,hcl27,hM27,hcc27,hfr27,hoki27,hH27⟩:=Kd.S_elem aN.out [] (a2:Int) (oda) (by have h_:(a2:Int)<((ac.length:Int):Int):=oda;first|exact h_|(have e_:=(Kd.S_reads' a5.out).1;omega)|simpa using h_)));(try (obtain ⟨ve27_0,rfl,ge27_0⟩:=hM27));(try (have au:=Kd.S_seg hH27 (oda) (by have h_:(a2:Int)<((ac.length:Int):Int):=oda;first|exact h_|(have e_:=(Kd.S_reads' a5.out).1;omega)|simpa using h_) (seg:=[ak]) (j:=0) (show 1≤1 from by decide) (x':=bi) (Kd.M_row (Kd.R_mono (Kd.R_tight rfl (Kd.R_mono (ok':=fun k_=>((fun _=>True)) k_∧k_≠a8) (Kd.R_apart' (az.out) (Kd.S_typed a5.out) (by decide)) (fun k_ hk=>⟨trivial,fun e_=>(hk.2) (by rw [e_];rfl)⟩))) (fun _ h_=>Or.inr (h_)))) (fun _ hk=>hk) (fun k_ hk_=>((Kd.R_mono (ok':=fun k_=>((fun _=>True)) k_∧k_≠a8) (Kd.R_apart' (az.out) (Kd.S_typed a5.out) (by decide)) (fun k_ hk=>⟨trivial,fun e_=>(hk.2) (by rw [e_];rfl)⟩))).1 k_ hk_.symm)));(try (have aK:=hcc27 0 _ rfl));(try (try simp only [show ((Kd.slice 3 (Kd.int .i64))).sz=1 from rfl,Nat.mul_one,Nat.add_zero] at aK));(try (have hf27_0:=hfr27 0));(try (try simp only [show ((Kd.slice 3 (Kd.int .i64))).sz=1 from rfl,Nat.mul_one,Nat.add_zero] at hf27_0));(try ((try clear hM27);clear hcl27 hcc27 hfr27 hoki27 hH27));(try (try simp only [show ((Kd.slice 3 (Kd.int .i64))).sz=1 from rfl,Nat.mul_one,Nat.add_zero] at au))));refine store_event (t:=101) (p:=34) (v:=?vo_w28) (w1:=(al.setCell ⟨a8,(a2:Int).toNat,none⟩ (ak))) ?hg ?ho ?hn ?hr ?_;(case ho=>rfl);(case hg=>rfl);(case hn=>rfl);(case hr=>first|(go_simp;done)|(go_simp;rfl)|(obtain ⟨A_,c_,e_⟩:=HSL118.out;subst e_;first|(go_simp;done)|(go_simp;rfl)));intro aO hw;have hg:al.grownBy aO (some a8):=(by rw [hw];exact au.2);have hp_:Kd.S (Kd.slice 3 (Kd.int .i64)) 101 aO w.heap.size (fun _=>True) (.slice (some ⟨a8,0,none⟩) ac.length aq) cd:=(by rw [hw,ds.out];exact au.1);clear au;refine Ya2 (hp_) ((by rw [hw];exact below_set (HB.out) bh.out:Below w.heap.size w aO)) ?_;clear a5 HB az;intro a5 HB;clear hg hw hp_)))
              go_loopg [7] k1 (fun kq v7 w' => ∃ (a3:List (List Int)) (a4:Int),v7 = .int .i64 a4∧Aside0 (spec_l7Table.l1 kq l0 l1 a3 a2 a4=some r)∧Aside0 (kq≤k1)∧Aside0 (Kd.S (Kd.slice 3 (Kd.int .i64)) 101 w' w.heap.size (fun _=>True) (.slice (some ⟨a8,0,none⟩) ac.length aq) a3)∧Aside0 (Below w.heap.size w w'))
              case atStart=>exact ⟨(cd),(wrap64 ((l1.length:Int) - 1)),Ye1,H',⟨Nat.le_refl _⟩,⟨by (try simp only [hl5_1]);(with_reducible repeat (first|apply Kd.S_alloc|apply Kd.S_drewN|apply Kd.S_drew));exact a5.out⟩,⟨be HB.out⟩⟩
              case round =>
               clear H';(try clear c1);(try clear p1);(try clear q1);(try clear hx1);(try clear c2);(try clear p2);(try clear q2);(try clear hx2);(try clear hf2);(try clear c4);(try clear dG);(try clear dH);(try clear c5);(try clear dI);(try clear dJ);(try clear c6);(try clear p6);(try clear c7);(try clear dK);(try clear dL);(try clear c8);(try clear dM);(try clear dN);(try clear c9);(try clear dO);(try clear dP);(try clear c10);(try clear dQ);(try clear dR);(try clear c11);(try clear p11);(try clear q11);(try clear hx11);(try clear eK);(try clear c16);(try clear hx16);(try clear eL);(try clear bn);(try clear dT);(try clear bE);(try clear eM);(try clear eN);(try clear bF);(try clear eO);(try clear eP);(try clear ca);(try clear eQ);(try clear cc);(try clear eR);(try clear c24);(try clear p24);(try clear q24);(try clear hx24);(try clear hf24);(try clear c27);(try clear hx27);(try clear hf27);(try clear b5);(try clear aH);(try clear bH);(try clear aK);(try clear p1);(try clear p11);(try clear p2);(try clear p24);(try clear p6);(try clear q1);(try clear q11);(try clear q24);obtain ⟨a3,a4,rfl,HA,HK2,a5,HB⟩:=hrel;have hl5_2:=(Kd.S_reads' a5.out).1
               rw [hl5_2] at a5
               (try simp only [hl5_2])
               cases gk with
               | zero=>exact absurd HA.out (by simp [spec_l7Table.l1])
               | succ k2 =>
                have H:=HA.out;clear HA;simp only [spec_l7Table.l1] at H
                by_cases bI:a4 ≥ 0
                ·rw [if_pos bI] at H
                 have eS:decide (0≤a4)=true:=decide_eq_true bI;clear bI
                 obtain ⟨a6,dt⟩:∃ j_:Int,(wrap64 (a2+1))=j_:=⟨_,rfl⟩
                 replace H:(if 0≤(a6) then (if (a6)<(a3.length:Int) then (if 0≤a4 then (if a4<((rd_L2 a3 (a6)).length:Int) then (if 0≤a2 then (if a2<(a3.length:Int) then (if 0≤(wrap64 (a4+1)) then (if (wrap64 (a4+1))<((rd_L2 a3 a2).length:Int) then (if (rd (rd_L2 a3 a2) (wrap64 (a4+1)))>(rd (rd_L2 a3 (a6)) a4) then (if a2<(l0.length:Int) then (if a4<(l1.length:Int) then (if (rdOf ByteArray.empty l0 a2).toList=(rdOf ByteArray.empty l1 a4).toList then (if (wrap64 (a4+1))<((rd_L2 a3 (a6)).length:Int) then (if (wrap64 ((rd (rd_L2 a3 (a6)) (wrap64 (a4+1)))+1))>(rd (rd_L2 a3 a2) (wrap64 (a4+1))) then (if a4<((rd_L2 a3 a2).length:Int) then (spec_l7Table.l1 k2 l0 l1 (a3.set (a2:Int).toNat ((rd_L2 a3 a2).set (a4:Int).toNat (wrap64 ((rd (rd_L2 a3 (a6)) (wrap64 (a4+1)))+1)))) a2 (wrap64 (a4 - 1))) else (none)) else (if a4<((rd_L2 a3 a2).length:Int) then (spec_l7Table.l1 k2 l0 l1 (a3.set (a2:Int).toNat ((rd_L2 a3 a2).set (a4:Int).toNat (rd (rd_L2 a3 a2) (wrap64 (a4+1))))) a2 (wrap64 (a4 - 1))) else (none))) else (none)) else (if a4<((rd_L2 a3 a2).length:Int) then (spec_l7Table.l1 k2 l0 l1 (a3.set (a2:Int).toNat ((rd_L2 a3 a2).set (a4:Int).toNat (rd (rd_L2 a3 a2) (wrap64 (a4+1))))) a2 (wrap64 (a4 - 1))) else (none))) else (none)) else (none)) else (if a2<(l0.length:Int) then (if a4<(l1.length:Int) then (if (rdOf ByteArray.empty l0 a2).toList=(rdOf ByteArray.empty l1 a4).toList then (if (wrap64 (a4+1))<((rd_L2 a3 (a6)).length:Int) then (if (wrap64 ((rd (rd_L2 a3 (a6)) (wrap64 (a4+1)))+1))>(rd (rd_L2 a3 (a6)) a4) then (if a4<((rd_L2 a3 a2).length:Int) then (spec_l7Table.l1 k2 l0 l1 (a3.set (a2:Int).toNat ((rd_L2 a3 a2).set (a4:Int).toNat (wrap64 ((rd (rd_L2 a3 (a6)) (wrap64 (a4+1)))+1)))) a2 (wrap64 (a4 - 1))) else (none)) else (if a4<((rd_L2 a3 a2).length:Int) then (spec_l7Table.l1 k2 l0 l1 (a3.set (a2:Int).toNat ((rd_L2 a3 a2).set (a4:Int).toNat (rd (rd_L2 a3 (a6)) a4))) a2 (wrap64 (a4 - 1))) else (none))) else (none)) else (if a4<((rd_L2 a3 a2).length:Int) then (spec_l7Table.l1 k2 l0 l1 (a3.set (a2:Int).toNat ((rd_L2 a3 a2).set (a4:Int).toNat (rd (rd_L2 a3 (a6)) a4))) a2 (wrap64 (a4 - 1))) else (none))) else (none)) else (none))) else (none)) else (none)) else (none)) else (none)) else (none)) else (none)) else (none)) else (none))=some r:=by first|(rw [dt] at H;exact H)|(simp only [dt] at H ⊢; exact H)
                 have hji30w:(IntKind.i64.wrap (a2+1))=a6:=(i64_w _).trans dt
                 by_cases cP:0≤(a6)
                 ·rw [if_pos cP] at H
                  have c31b0:decide (0≤(a6))=true:=decide_eq_true cP;clear cP
                  by_cases cQ:(a6)<(a3.length:Int)
                  ·rw [if_pos cQ] at H
                   have c32b0:decide ((a6)<(a3.length:Int))=true:=decide_eq_true cQ;clear cQ
                   by_cases cR:0≤a4
                   ·rw [if_pos cR] at H
                    have c33b0:decide (0≤a4)=true:=decide_eq_true cR;clear cR
                    by_cases cS:a4<((rd_L2 a3 (a6)).length:Int)
                    ·rw [if_pos cS] at H
                     have c34b0:decide (a4<((rd_L2 a3 (a6)).length:Int))=true:=decide_eq_true cS;clear cS
                     by_cases cT:0≤a2
                     ·rw [if_pos cT] at H
                      have c35b0:decide (0≤a2)=true:=decide_eq_true cT;clear cT
                      by_cases cU:a2<(a3.length:Int)
                      ·rw [if_pos cU] at H
                       have c36b0:decide (a2<(a3.length:Int))=true:=decide_eq_true cU;clear cU
                       obtain ⟨a7,du⟩:∃ j_:Int,(wrap64 (a4+1))=j_:=⟨_,rfl⟩
                       replace H:(if 0≤(a7) then (if (a7)<((rd_L2 a3 a2).length:Int) then (if (rd (rd_L2 a3 a2) (a7))>(rd (rd_L2 a3 (a6)) a4) then (if a2<(l0.length:Int) then (if a4<(l1.length:Int) then (if (rdOf ByteArray.empty l0 a2).toList=(rdOf ByteArray.empty l1 a4).toList then (if (a7)<((rd_L2 a3 (a6)).length:Int) then (if (wrap64 ((rd (rd_L2 a3 (a6)) (a7))+1))>(rd (rd_L2 a3 a2) (a7)) then (if a4<((rd_L2 a3 a2).length:Int) then (spec_l7Table.l1 k2 l0 l1 (a3.set (a2:Int).toNat ((rd_L2 a3 a2).set (a4:Int).toNat (wrap64 ((rd (rd_L2 a3 (a6)) (a7))+1)))) a2 (wrap64 (a4 - 1))) else (none)) else (if a4<((rd_L2 a3 a2).length:Int) then (spec_l7Table.l1 k2 l0 l1 (a3.set (a2:Int).toNat ((rd_L2 a3 a2).set (a4:Int).toNat (rd (rd_L2 a3 a2) (a7)))) a2 (wrap64 (a4 - 1))) else (none))) else (none)) else (if a4<((rd_L2 a3 a2).length:Int) then (spec_l7Table.l1 k2 l0 l1 (a3.set (a2:Int).toNat ((rd_L2 a3 a2).set (a4:Int).toNat (rd (rd_L2 a3 a2) (a7)))) a2 (wrap64 (a4 - 1))) else (none))) else (none)) else (none)) else (if a2<(l0.length:Int) then (if a4<(l1.length:Int) then (if (rdOf ByteArray.empty l0 a2).toList=(rdOf ByteArray.empty l1 a4).toList then (if (a7)<((rd_L2 a3 (a6)).length:Int) then (if (wrap64 ((rd (rd_L2 a3 (a6)) (a7))+1))>(rd (rd_L2 a3 (a6)) a4) then (if a4<((rd_L2 a3 a2).length:Int) then (spec_l7Table.l1 k2 l0 l1 (a3.set (a2:Int).toNat ((rd_L2 a3 a2).set (a4:Int).toNat (wrap64 ((rd (rd_L2 a3 (a6)) (a7))+1)))) a2 (wrap64 (a4 - 1))) else (none)) else (if a4<((rd_L2 a3 a2).length:Int) then (spec_l7Table.l1 k2 l0 l1 (a3.set (a2:Int).toNat ((rd_L2 a3 a2).set (a4:Int).toNat (rd (rd_L2 a3 (a6)) a4))) a2 (wrap64 (a4 - 1))) else (none))) else (none)) else (if a4<((rd_L2 a3 a2).length:Int) then (spec_l7Table.l1 k2 l0 l1 (a3.set (a2:Int).toNat ((rd_L2 a3 a2).set (a4:Int).toNat (rd (rd_L2 a3 (a6)) a4))) a2 (wrap64 (a4 - 1))) else (none))) else (none)) else (none))) else (none)) else (none))=some r:=by first|(rw [du] at H;exact H)|(simp only [du] at H ⊢; exact H)
                       have hji37w:(IntKind.i64.wrap (a4+1))=a7:=(i64_w _).trans du
                       by_cases cV:0≤(a7)
                       ·rw [if_pos cV] at H
                        have c38b0:decide (0≤(a7))=true:=decide_eq_true cV;clear cV
                        by_cases cW:(a7)<((rd_L2 a3 a2).length:Int)
                        ·rw [if_pos cW] at H
                         have c39b0:decide ((a7)<((rd_L2 a3 a2).length:Int))=true:=decide_eq_true cW;clear cW
                         by_cases bJ:(rd (rd_L2 a3 a2) (a7))>(rd (rd_L2 a3 (a6)) a4)
                         ·rw [if_pos bJ] at H
                          have eT:decide ((rd (rd_L2 a3 (a6)) a4)<(rd (rd_L2 a3 a2) (a7)))=true:=decide_eq_true bJ;clear bJ
                          by_cases cX:a2<(l0.length:Int)
                          ·rw [if_pos cX] at H
                           have c41b0:decide (a2<(l0.length:Int))=true:=decide_eq_true cX;clear cX
                           by_cases cY:a4<(l1.length:Int)
                           ·rw [if_pos cY] at H
                            have c42b0:decide (a4<(l1.length:Int))=true:=decide_eq_true cY;clear cY
                            by_cases bo:(rdOf ByteArray.empty l0 a2).toList=(rdOf ByteArray.empty l1 a4).toList
                            ·rw [if_pos bo] at H
                             have eU:((rdOf ByteArray.empty l0 a2).toList==(rdOf ByteArray.empty l1 a4).toList)=true:=beq_iff_eq.mpr bo;have eV:((rdOf ByteArray.empty l0 a2).toList != (rdOf ByteArray.empty l1 a4).toList)=false:=bne_eq_false_iff_eq.mpr bo;clear bo
                             by_cases cZ:(a7)<((rd_L2 a3 (a6)).length:Int)
                             ·rw [if_pos cZ] at H
                              have c44b0:decide ((a7)<((rd_L2 a3 (a6)).length:Int))=true:=decide_eq_true cZ;clear cZ
                              by_cases bK:(wrap64 ((rd (rd_L2 a3 (a6)) (a7))+1))>(rd (rd_L2 a3 a2) (a7))
                              ·rw [if_pos bK] at H
                               have eW:decide ((rd (rd_L2 a3 a2) (a7))<(wrap64 ((rd (rd_L2 a3 (a6)) (a7))+1)))=true:=decide_eq_true bK;clear bK
                               by_cases d0:a4<((rd_L2 a3 a2).length:Int)
                               ·rw [if_pos d0] at H
                                have c46b0:decide (a4<((rd_L2 a3 a2).length:Int))=true:=decide_eq_true d0;clear d0
                                obtain ⟨dU,cf⟩:∃ y_:List Int,y_=((rd_L2 a3 a2).set (a4:Int).toNat (wrap64 ((rd (rd_L2 a3 (a6)) (a7))+1))):=⟨_,rfl⟩
                                replace H:(spec_l7Table.l1 k2 l0 l1 (a3.set (a2:Int).toNat dU) a2 (wrap64 (a4 - 1)))=some r:=by first|(rw [cf];with_reducible exact H)|(have H2_:=(Option.bind_some _ _).symm.trans H;rw [cf];with_reducible exact H2_)|(have H2_:=(Option.bind_some _ _).symm.trans H;with_reducible exact H2_)|with_reducible exact H|(rw [cf];exact H)|exact H
                                have eX:=Aside0.mk cf;clear cf
                                obtain ⟨dV,cg⟩:∃ y_:List (List Int),y_=(a3.set (a2:Int).toNat dU):=⟨_,rfl⟩
                                replace H:(spec_l7Table.l1 k2 l0 l1 dV a2 (wrap64 (a4 - 1)))=some r:=by first|(rw [cg];with_reducible exact H)|(have H2_:=(Option.bind_some _ _).symm.trans H;rw [cg];with_reducible exact H2_)|(have H2_:=(Option.bind_some _ _).symm.trans H;with_reducible exact H2_)|with_reducible exact H|(rw [cg];exact H)|exact H
                                have eY:=Aside0.mk cg;clear cg;have H':=Aside0.mk H;clear H;have ae:0≤((a6):Int):=oda;have af:(a6)<(a3.length:Int):=oda;obtain ⟨aP,ch,ci,aQ,ad,hl121_0,hi121_0⟩:=at_L2 (Kd.S_reads' a5.out).2.2 (a6) ae af
                                obtain rfl:(⟨a8,0,none⟩:Addr)=aP:=(by injection aQ)
                                obtain ⟨ce121,hce121,hMe121,hcc121⟩:=Kd.S_get a5.out [] (a6) ae (by first|exact af|exact oda|(have e_:=(Kd.S_reads' a5.out).1;omega));obtain ⟨ve121_0,rfl,ge121_0⟩:=hMe121;have hv121_0:=hcc121 0 _ rfl
                                rw [Nat.add_zero,show ((Kd.slice 3 (Kd.int .i64))).sz=1 from rfl,Nat.mul_one] at hv121_0
                                replace hv121_0:=Option.some.inj (hv121_0.symm.trans ad)
                                rw [hv121_0] at ge121_0
                                have cj:=Aside0.mk (show Kd.R (Kd.int .i64) 3 _ _ _ _ (rd_L2 a3 (a6)) from ge121_0);clear hv121_0 ge121_0;have ck:=Aside0.mk ad;clear hcc121 hce121;(first|simp only [add_plain] at ad|simp only [add_at] at ad|simp only [Addr.add,Nat.zero_add] at ad|skip);have aA:=Aside0.mk hi121_0;have cl:=Aside0.mk hl121_0;clear hi121_0 hl121_0;replace ae:=eq_true ae;replace af:=eq_true af;have am:0≤(a4:Int):=oda;have an:a4<((rd_L2 a3 (a6)).length:Int):=oda;obtain ⟨cm,aR,cn⟩:=Kd.at_int (by repeat (first|(with_reducible exact aA.out)|(with_reducible refine Kd.C_alloc ?_ _)|(with_reducible refine Kd.C_drewN ?_ _)|(with_reducible refine Kd.C_drew ?_)|exact aA.out)) a4 am an
                                cases aR
                                replace am:=eq_true am;replace an:=eq_true an;have ag:0≤(a2:Int):=oda;have ah:a2<(a3.length:Int):=oda;obtain ⟨aS,co,cp,aT,ab,hl123_0,hi123_0⟩:=at_L2 (Kd.S_reads' a5.out).2.2 a2 ag ah
                                obtain rfl:(⟨a8,0,none⟩:Addr)=aS:=(by injection aT)
                                obtain ⟨ce123,hce123,hMe123,hcc123⟩:=Kd.S_get a5.out [] a2 ag (by first|exact ah|exact oda|(have e_:=(Kd.S_reads' a5.out).1;omega));obtain ⟨ve123_0,rfl,ge123_0⟩:=hMe123;have hv123_0:=hcc123 0 _ rfl
                                rw [Nat.add_zero,show ((Kd.slice 3 (Kd.int .i64))).sz=1 from rfl,Nat.mul_one] at hv123_0
                                replace hv123_0:=Option.some.inj (hv123_0.symm.trans ab)
                                rw [hv123_0] at ge123_0
                                have cq:=Aside0.mk (show Kd.R (Kd.int .i64) 3 _ _ _ _ (rd_L2 a3 a2) from ge123_0);clear hv123_0 ge123_0;have cr:=Aside0.mk ab;clear hcc123 hce123;(first|simp only [add_plain] at ab|simp only [add_at] at ab|simp only [Addr.add,Nat.zero_add] at ab|skip);have aB:=Aside0.mk hi123_0;have cs:=Aside0.mk hl123_0;clear hi123_0 hl123_0;replace ag:=eq_true ag;replace ah:=eq_true ah;have ao:0≤((a7):Int):=oda;have ap:(a7)<((rd_L2 a3 a2).length:Int):=oda;obtain ⟨ct,aU,bj⟩:=Kd.at_int (by repeat (first|(with_reducible exact aB.out)|(with_reducible refine Kd.C_alloc ?_ _)|(with_reducible refine Kd.C_drewN ?_ _)|(with_reducible refine Kd.C_drew ?_)|exact aB.out)) (a7) ao ap
                                cases aU
                                replace ao:=eq_true ao;replace ap:=eq_true ap;have aF:0≤(a2:Int):=oda;have aG:a2<(a3.length:Int):=oda;obtain ⟨cu,dW,dX,cv,av,hl125_0,hi125_0⟩:=at_L2 (Kd.S_reads' a5.out).2.2 a2 aF aG
                                obtain rfl:(⟨a8,0,none⟩:Addr)=cu:=(by injection cv)
                                obtain ⟨ce125,hce125,hMe125,hcc125⟩:=Kd.S_get a5.out [] a2 aF (by first|exact aG|exact oda|(have e_:=(Kd.S_reads' a5.out).1;omega));obtain ⟨ve125_0,rfl,ge125_0⟩:=hMe125;have hv125_0:=hcc125 0 _ rfl
                                rw [Nat.add_zero,show ((Kd.slice 3 (Kd.int .i64))).sz=1 from rfl,Nat.mul_one] at hv125_0
                                replace hv125_0:=Option.some.inj (hv125_0.symm.trans av)
                                rw [hv125_0] at ge125_0
                                have dY:=Aside0.mk (show Kd.R (Kd.int .i64) 3 _ _ _ _ (rd_L2 a3 a2) from ge125_0);clear hv125_0 ge125_0;have dZ:=Aside0.mk av;clear hcc125 hce125;(first|simp only [add_plain] at av|simp only [add_at] at av|simp only [Addr.add,Nat.zero_add] at av|skip);have bm:=Aside0.mk hi125_0;have e0:=Aside0.mk hl125_0;clear hi125_0 hl125_0;replace aF:=eq_true aF;replace aG:=eq_true aG;have ea_:=Option.some.inj (ab.symm.trans av)
                                injection ea_ with ea_ en_ ec_
                                subst ea_;subst ec_;clear en_;have aV:0≤((a7):Int):=oda;have aW:(a7)<((rd_L2 a3 a2).length:Int):=oda;obtain ⟨e1,cw,cx⟩:=Kd.at_int (by repeat (first|(with_reducible exact bm.out)|(with_reducible refine Kd.C_alloc ?_ _)|(with_reducible refine Kd.C_drewN ?_ _)|(with_reducible refine Kd.C_drew ?_)|exact bm.out)) (a7) aV aW
                                cases cw
                                replace aV:=eq_true aV;replace aW:=eq_true aW;have aX:0≤(a2:Int):=oda;have aY:a2<(l0.length:Int):=oda;obtain ⟨e2,cy,e3⟩:=Kd.at_string (Kd.C_below bA.out HB.out) a2 aX aY
                                cases cy
                                replace aX:=eq_true aX;replace aY:=eq_true aY;have aZ:0≤(a4:Int):=oda;have b0:a4<(l1.length:Int):=oda;obtain ⟨e4,cz,e5⟩:=Kd.at_string (Kd.C_below bB.out HB.out) a4 aZ b0
                                cases cz
                                replace aZ:=eq_true aZ;replace b0:=eq_true b0;have b6:0≤((a6):Int):=oda;have b7:(a6)<(a3.length:Int):=oda;obtain ⟨dv,eZ,f0,dw,aI,hl129_0,hi129_0⟩:=at_L2 (Kd.S_reads' a5.out).2.2 (a6) b6 b7
                                obtain rfl:(⟨a8,0,none⟩:Addr)=dv:=(by injection dw)
                                obtain ⟨ce129,hce129,hMe129,hcc129⟩:=Kd.S_get a5.out [] (a6) b6 (by first|exact b7|exact oda|(have e_:=(Kd.S_reads' a5.out).1;omega));obtain ⟨ve129_0,rfl,ge129_0⟩:=hMe129;have hv129_0:=hcc129 0 _ rfl
                                rw [Nat.add_zero,show ((Kd.slice 3 (Kd.int .i64))).sz=1 from rfl,Nat.mul_one] at hv129_0
                                replace hv129_0:=Option.some.inj (hv129_0.symm.trans aI)
                                rw [hv129_0] at ge129_0
                                have f1:=Aside0.mk (show Kd.R (Kd.int .i64) 3 _ _ _ _ (rd_L2 a3 (a6)) from ge129_0);clear hv129_0 ge129_0;have f2:=Aside0.mk aI;clear hcc129 hce129;(first|simp only [add_plain] at aI|simp only [add_at] at aI|simp only [Addr.add,Nat.zero_add] at aI|skip);have cA:=Aside0.mk hi129_0;have f3:=Aside0.mk hl129_0;clear hi129_0 hl129_0;replace b6:=eq_true b6;replace b7:=eq_true b7;have ea_:=Option.some.inj (ad.symm.trans aI)
                                injection ea_ with ea_ en_ ec_
                                subst ea_;subst ec_;clear en_;have bq:0≤((a7):Int):=oda;have bu:(a7)<((rd_L2 a3 (a6)).length:Int):=oda;obtain ⟨f4,dx,f5⟩:=Kd.at_int (by repeat (first|(with_reducible exact cA.out)|(with_reducible refine Kd.C_alloc ?_ _)|(with_reducible refine Kd.C_drewN ?_ _)|(with_reducible refine Kd.C_drew ?_)|exact cA.out)) (a7) bq bu
                                cases dx
                                replace bq:=eq_true bq;replace bu:=eq_true bu;have d1:0≤((a6):Int):=oda;have d2:(a6)<(a3.length:Int):=oda;obtain ⟨f6,fV,fW,f7,bL,hl131_0,hi131_0⟩:=at_L2 (Kd.S_reads' a5.out).2.2 (a6) d1 d2
                                obtain rfl:(⟨a8,0,none⟩:Addr)=f6:=(by injection f7)
                                obtain ⟨ce131,hce131,hMe131,hcc131⟩:=Kd.S_get a5.out [] (a6) d1 (by first|exact d2|exact oda|(have e_:=(Kd.S_reads' a5.out).1;omega));obtain ⟨ve131_0,rfl,ge131_0⟩:=hMe131;have hv131_0:=hcc131 0 _ rfl
                                rw [Nat.add_zero,show ((Kd.slice 3 (Kd.int .i64))).sz=1 from rfl,Nat.mul_one] at hv131_0
                                replace hv131_0:=Option.some.inj (hv131_0.symm.trans bL)
                                rw [hv131_0] at ge131_0
                                have fX:=Aside0.mk (show Kd.R (Kd.int .i64) 3 _ _ _ _ (rd_L2 a3 (a6)) from ge131_0);clear hv131_0 ge131_0;have fY:=Aside0.mk bL;clear hcc131 hce131;(first|simp only [add_plain] at bL|simp only [add_at] at bL|simp only [Addr.add,Nat.zero_add] at bL|skip);have e6:=Aside0.mk hi131_0;have fZ:=Aside0.mk hl131_0;clear hi131_0 hl131_0;replace d1:=eq_true d1;replace d2:=eq_true d2;have ea_:=Option.some.inj (ad.symm.trans bL)
                                injection ea_ with ea_ en_ ec_
                                subst ea_;subst ec_;clear en_;have dy:0≤((a7):Int):=oda;have dA:(a7)<((rd_L2 a3 (a6)).length:Int):=oda;obtain ⟨ad132,f8,g0⟩:=Kd.at_int (by repeat (first|(with_reducible exact e6.out)|(with_reducible refine Kd.C_alloc ?_ _)|(with_reducible refine Kd.C_drewN ?_ _)|(with_reducible refine Kd.C_drew ?_)|exact e6.out)) (a7) dy dA
                                cases f8
                                replace dy:=eq_true dy;replace dA:=eq_true dA;have d3:0≤(a2:Int):=oda;have d4:a2<(a3.length:Int):=oda;obtain ⟨f9,g1,g2,fa,bM,hl133_0,hi133_0⟩:=at_L2 (Kd.S_reads' a5.out).2.2 a2 d3 d4
                                obtain rfl:(⟨a8,0,none⟩:Addr)=f9:=(by injection fa)
                                obtain ⟨ce133,hce133,hMe133,hcc133⟩:=Kd.S_get a5.out [] a2 d3 (by first|exact d4|exact oda|(have e_:=(Kd.S_reads' a5.out).1;omega));obtain ⟨ve133_0,rfl,ge133_0⟩:=hMe133;have hv133_0:=hcc133 0 _ rfl
                                rw [Nat.add_zero,show ((Kd.slice 3 (Kd.int .i64))).sz=1 from rfl,Nat.mul_one] at hv133_0
                                replace hv133_0:=Option.some.inj (hv133_0.symm.trans bM)
                                rw [hv133_0] at ge133_0
                                have e7:=Aside0.mk (show Kd.R (Kd.int .i64) 3 _ _ _ _ (rd_L2 a3 a2) from ge133_0);clear hv133_0 ge133_0;have fc:=Aside0.mk bM;clear hcc133 hce133;(first|simp only [add_plain] at bM|simp only [add_at] at bM|simp only [Addr.add,Nat.zero_add] at bM|skip);have g3:=Aside0.mk hi133_0;have g4:=Aside0.mk hl133_0;clear hi133_0 hl133_0;replace d3:=eq_true d3;replace d4:=eq_true d4;have ea_:=Option.some.inj (ab.symm.trans bM)
                                injection ea_ with ea_ en_ ec_
                                subst ea_;subst ec_;clear en_;have p47:0≤(a4:Int):=oda;have q47:(a4:Int)<(((rd_L2 a3 a2).length:Int):Int):=oda;obtain ⟨go47,co47,e8,e9,gl47,cl47,HG47⟩:=Kd.R_form e7.out (by omega);(first|cases e8|(injection e8 with ea_ en_ ec_;(first|subst ea_|(injection ea_ with ea_;subst ea_));subst ec_;clear en_));have fd:=Aside0.mk e9;have GG47:=Aside0.mk HG47;clear e9 gl47 HG47;(first|simp only [add_plain] at cx|skip);obtain ⟨g5,hf47_0⟩:=Kd.R_celln 0 e7.out (a4:Int) p47 q47;replace p47:=eq_true p47;replace q47:=eq_true q47
                                have hq48:(a2:Int)<(a3.length:Int):=(by have h_:(a2:Int)<((a3.length:Int):Int):=oda;first|exact h_|(have e_:=(Kd.S_reads' a5.out).1;omega)|simpa only [List.length_set,List.length_set] using h_)
                                obtain ⟨oki48,ce48,hcl48,hM48,hcc48,hok48,hbk48⟩:=Kd.S_borrow a5.out [] (a2:Int) (oda) hq48;obtain ⟨ve48_0,rfl,ge48_0⟩:=hM48;have hv48:=hcc48 0 _ rfl
                                rw [Nat.add_zero,show ((Kd.slice 3 (Kd.int .i64))).sz=1 from rfl,Nat.mul_one] at hv48
                                replace hv48:=Option.some.inj (hv48.symm.trans fc.out);subst hv48;clear hcc48 hcl48
                                replace ge48_0:=(show Kd.R (Kd.int .i64) 3 _ _ _ _ (rd_L2 a3 a2) from ge48_0)
                                have ea:=Kd.R_putg ge48_0 (a4:Int) (wrap64 ((rd (rd_L2 a3 (a6)) (a7))+1))
                                go_wp2
                                repeat (go_quiet (fail);try go_wp2)
                                (try simp only [←hl5_2])
                                go_roundg k2
                                case measure=>have:=HK1.out;have:=HK2.out;omega
                                case rel=>exact ⟨(dV),(wrap64 (a4 - 1)),Ye1,H',⟨by have:=HK1.out;have:=HK2.out;omega⟩,⟨by (try simp only [hl5_1]);(try simp only [hl5_2]);rw [eY.out,eX.out];exact Kd.S_drewN (hbk48 ea.2 (fun k_ e_=>by cases e_;exact ge48_0.1 _ rfl) ⟨_,rfl,ea.1⟩) nq⟩,⟨below_set (pw_below_drewN HB.out _) fd.out⟩⟩
                               ·rw [if_neg d0] at H
                                exact absurd H (by simp)
                              ·rw [if_neg bK] at H
                               have eW:decide ((rd (rd_L2 a3 a2) (a7))<(wrap64 ((rd (rd_L2 a3 (a6)) (a7))+1)))=false:=decide_eq_false bK;clear bK
                               by_cases d5:a4<((rd_L2 a3 a2).length:Int)
                               ·rw [if_pos d5] at H
                                have c50b0:decide (a4<((rd_L2 a3 a2).length:Int))=true:=decide_eq_true d5;clear d5
                                obtain ⟨eb,cB⟩:∃ y_:List Int,y_=((rd_L2 a3 a2).set (a4:Int).toNat (rd (rd_L2 a3 a2) (a7))):=⟨_,rfl⟩
                                replace H:(spec_l7Table.l1 k2 l0 l1 (a3.set (a2:Int).toNat eb) a2 (wrap64 (a4 - 1)))=some r:=by first|(rw [cB];with_reducible exact H)|(have H2_:=(Option.bind_some _ _).symm.trans H;rw [cB];with_reducible exact H2_)|(have H2_:=(Option.bind_some _ _).symm.trans H;with_reducible exact H2_)|with_reducible exact H|(rw [cB];exact H)|exact H
                                have fe:=Aside0.mk cB;clear cB
                                obtain ⟨ec,cC⟩:∃ y_:List (List Int),y_=(a3.set (a2:Int).toNat eb):=⟨_,rfl⟩
                                replace H:(spec_l7Table.l1 k2 l0 l1 ec a2 (wrap64 (a4 - 1)))=some r:=by first|(rw [cC];with_reducible exact H)|(have H2_:=(Option.bind_some _ _).symm.trans H;rw [cC];with_reducible exact H2_)|(have H2_:=(Option.bind_some _ _).symm.trans H;with_reducible exact H2_)|with_reducible exact H|(rw [cC];exact H)|exact H
                                have ff:=Aside0.mk cC;clear cC;have H':=Aside0.mk H;clear H;have ae:0≤((a6):Int):=oda;have af:(a6)<(a3.length:Int):=oda;obtain ⟨aP,ch,ci,aQ,ad,hl121_0,hi121_0⟩:=at_L2 (Kd.S_reads' a5.out).2.2 (a6) ae af
                                obtain rfl:(⟨a8,0,none⟩:Addr)=aP:=(by injection aQ)
                                obtain ⟨ce121,hce121,hMe121,hcc121⟩:=Kd.S_get a5.out [] (a6) ae (by first|exact af|exact oda|(have e_:=(Kd.S_reads' a5.out).1;omega));obtain ⟨ve121_0,rfl,ge121_0⟩:=hMe121;have hv121_0:=hcc121 0 _ rfl
                                rw [Nat.add_zero,show ((Kd.slice 3 (Kd.int .i64))).sz=1 from rfl,Nat.mul_one] at hv121_0
                                replace hv121_0:=Option.some.inj (hv121_0.symm.trans ad)
                                rw [hv121_0] at ge121_0
                                have cj:=Aside0.mk (show Kd.R (Kd.int .i64) 3 _ _ _ _ (rd_L2 a3 (a6)) from ge121_0);clear hv121_0 ge121_0;have ck:=Aside0.mk ad;clear hcc121 hce121;(first|simp only [add_plain] at ad|simp only [add_at] at ad|simp only [Addr.add,Nat.zero_add] at ad|skip);have aA:=Aside0.mk hi121_0;have cl:=Aside0.mk hl121_0;clear hi121_0 hl121_0;replace ae:=eq_true ae;replace af:=eq_true af;have am:0≤(a4:Int):=oda;have an:a4<((rd_L2 a3 (a6)).length:Int):=oda;obtain ⟨cm,aR,cn⟩:=Kd.at_int (by repeat (first|(with_reducible exact aA.out)|(with_reducible refine Kd.C_alloc ?_ _)|(with_reducible refine Kd.C_drewN ?_ _)|(with_reducible refine Kd.C_drew ?_)|exact aA.out)) a4 am an
                                cases aR
                                replace am:=eq_true am;replace an:=eq_true an;have ag:0≤(a2:Int):=oda;have ah:a2<(a3.length:Int):=oda;obtain ⟨aS,co,cp,aT,ab,hl123_0,hi123_0⟩:=at_L2 (Kd.S_reads' a5.out).2.2 a2 ag ah
                                obtain rfl:(⟨a8,0,none⟩:Addr)=aS:=(by injection aT)
                                obtain ⟨ce123,hce123,hMe123,hcc123⟩:=Kd.S_get a5.out [] a2 ag (by first|exact ah|exact oda|(have e_:=(Kd.S_reads' a5.out).1;omega));obtain ⟨ve123_0,rfl,ge123_0⟩:=hMe123;have hv123_0:=hcc123 0 _ rfl
                                rw [Nat.add_zero,show ((Kd.slice 3 (Kd.int .i64))).sz=1 from rfl,Nat.mul_one] at hv123_0
                                replace hv123_0:=Option.some.inj (hv123_0.symm.trans ab)
                                rw [hv123_0] at ge123_0
                                have cq:=Aside0.mk (show Kd.R (Kd.int .i64) 3 _ _ _ _ (rd_L2 a3 a2) from ge123_0);clear hv123_0 ge123_0;have cr:=Aside0.mk ab;clear hcc123 hce123;(first|simp only [add_plain] at ab|simp only [add_at] at ab|simp only [Addr.add,Nat.zero_add] at ab|skip);have aB:=Aside0.mk hi123_0;have cs:=Aside0.mk hl123_0;clear hi123_0 hl123_0;replace ag:=eq_true ag;replace ah:=eq_true ah;have ao:0≤((a7):Int):=oda;have ap:(a7)<((rd_L2 a3 a2).length:Int):=oda;obtain ⟨ct,aU,bj⟩:=Kd.at_int (by repeat (first|(with_reducible exact aB.out)|(with_reducible refine Kd.C_alloc ?_ _)|(with_reducible refine Kd.C_drewN ?_ _)|(with_reducible refine Kd.C_drew ?_)|exact aB.out)) (a7) ao ap
                                cases aU
                                replace ao:=eq_true ao;replace ap:=eq_true ap;have aF:0≤(a2:Int):=oda;have aG:a2<(a3.length:Int):=oda;obtain ⟨cu,dW,dX,cv,av,hl125_0,hi125_0⟩:=at_L2 (Kd.S_reads' a5.out).2.2 a2 aF aG
                                obtain rfl:(⟨a8,0,none⟩:Addr)=cu:=(by injection cv)
                                obtain ⟨ce125,hce125,hMe125,hcc125⟩:=Kd.S_get a5.out [] a2 aF (by first|exact aG|exact oda|(have e_:=(Kd.S_reads' a5.out).1;omega));obtain ⟨ve125_0,rfl,ge125_0⟩:=hMe125;have hv125_0:=hcc125 0 _ rfl
                                rw [Nat.add_zero,show ((Kd.slice 3 (Kd.int .i64))).sz=1 from rfl,Nat.mul_one] at hv125_0
                                replace hv125_0:=Option.some.inj (hv125_0.symm.trans av)
                                rw [hv125_0] at ge125_0
                                have dY:=Aside0.mk (show Kd.R (Kd.int .i64) 3 _ _ _ _ (rd_L2 a3 a2) from ge125_0);clear hv125_0 ge125_0;have dZ:=Aside0.mk av;clear hcc125 hce125;(first|simp only [add_plain] at av|simp only [add_at] at av|simp only [Addr.add,Nat.zero_add] at av|skip);have bm:=Aside0.mk hi125_0;have e0:=Aside0.mk hl125_0;clear hi125_0 hl125_0;replace aF:=eq_true aF;replace aG:=eq_true aG;have ea_:=Option.some.inj (ab.symm.trans av)
                                injection ea_ with ea_ en_ ec_
                                subst ea_;subst ec_;clear en_;have aV:0≤((a7):Int):=oda;have aW:(a7)<((rd_L2 a3 a2).length:Int):=oda;obtain ⟨e1,cw,cx⟩:=Kd.at_int (by repeat (first|(with_reducible exact bm.out)|(with_reducible refine Kd.C_alloc ?_ _)|(with_reducible refine Kd.C_drewN ?_ _)|(with_reducible refine Kd.C_drew ?_)|exact bm.out)) (a7) aV aW
                                cases cw
                                replace aV:=eq_true aV;replace aW:=eq_true aW;have aX:0≤(a2:Int):=oda;have aY:a2<(l0.length:Int):=oda;obtain ⟨e2,cy,e3⟩:=Kd.at_string (Kd.C_below bA.out HB.out) a2 aX aY
                                cases cy
                                replace aX:=eq_true aX;replace aY:=eq_true aY;have aZ:0≤(a4:Int):=oda;have b0:a4<(l1.length:Int):=oda;obtain ⟨e4,cz,e5⟩:=Kd.at_string (Kd.C_below bB.out HB.out) a4 aZ b0
                                cases cz
                                replace aZ:=eq_true aZ;replace b0:=eq_true b0;have b6:0≤((a6):Int):=oda;have b7:(a6)<(a3.length:Int):=oda;obtain ⟨dv,eZ,f0,dw,aI,hl129_0,hi129_0⟩:=at_L2 (Kd.S_reads' a5.out).2.2 (a6) b6 b7
                                obtain rfl:(⟨a8,0,none⟩:Addr)=dv:=(by injection dw)
                                obtain ⟨ce129,hce129,hMe129,hcc129⟩:=Kd.S_get a5.out [] (a6) b6 (by first|exact b7|exact oda|(have e_:=(Kd.S_reads' a5.out).1;omega));obtain ⟨ve129_0,rfl,ge129_0⟩:=hMe129;have hv129_0:=hcc129 0 _ rfl
                                rw [Nat.add_zero,show ((Kd.slice 3 (Kd.int .i64))).sz=1 from rfl,Nat.mul_one] at hv129_0
                                replace hv129_0:=Option.some.inj (hv129_0.symm.trans aI)
                                rw [hv129_0] at ge129_0
                                have f1:=Aside0.mk (show Kd.R (Kd.int .i64) 3 _ _ _ _ (rd_L2 a3 (a6)) from ge129_0);clear hv129_0 ge129_0;have f2:=Aside0.mk aI;clear hcc129 hce129;(first|simp only [add_plain] at aI|simp only [add_at] at aI|simp only [Addr.add,Nat.zero_add] at aI|skip);have cA:=Aside0.mk hi129_0;have f3:=Aside0.mk hl129_0;clear hi129_0 hl129_0;replace b6:=eq_true b6;replace b7:=eq_true b7;have ea_:=Option.some.inj (ad.symm.trans aI)
                                injection ea_ with ea_ en_ ec_
                                subst ea_;subst ec_;clear en_;have bq:0≤((a7):Int):=oda;have bu:(a7)<((rd_L2 a3 (a6)).length:Int):=oda;obtain ⟨f4,dx,f5⟩:=Kd.at_int (by repeat (first|(with_reducible exact cA.out)|(with_reducible refine Kd.C_alloc ?_ _)|(with_reducible refine Kd.C_drewN ?_ _)|(with_reducible refine Kd.C_drew ?_)|exact cA.out)) (a7) bq bu
                                cases dx
                                replace bq:=eq_true bq;replace bu:=eq_true bu;have d6:0≤(a2:Int):=oda;have d7:a2<(a3.length:Int):=oda;obtain ⟨fg,g6,g7,fh,bN,hl137_0,hi137_0⟩:=at_L2 (Kd.S_reads' a5.out).2.2 a2 d6 d7
                                obtain rfl:(⟨a8,0,none⟩:Addr)=fg:=(by injection fh)
                                obtain ⟨ce137,hce137,hMe137,hcc137⟩:=Kd.S_get a5.out [] a2 d6 (by first|exact d7|exact oda|(have e_:=(Kd.S_reads' a5.out).1;omega));obtain ⟨ve137_0,rfl,ge137_0⟩:=hMe137;have hv137_0:=hcc137 0 _ rfl
                                rw [Nat.add_zero,show ((Kd.slice 3 (Kd.int .i64))).sz=1 from rfl,Nat.mul_one] at hv137_0
                                replace hv137_0:=Option.some.inj (hv137_0.symm.trans bN)
                                rw [hv137_0] at ge137_0
                                have ed:=Aside0.mk (show Kd.R (Kd.int .i64) 3 _ _ _ _ (rd_L2 a3 a2) from ge137_0);clear hv137_0 ge137_0;have fi:=Aside0.mk bN;clear hcc137 hce137;(first|simp only [add_plain] at bN|simp only [add_at] at bN|simp only [Addr.add,Nat.zero_add] at bN|skip);have g8:=Aside0.mk hi137_0;have g9:=Aside0.mk hl137_0;clear hi137_0 hl137_0;replace d6:=eq_true d6;replace d7:=eq_true d7;have ea_:=Option.some.inj (ab.symm.trans bN)
                                injection ea_ with ea_ en_ ec_
                                subst ea_;subst ec_;clear en_;have p51:0≤(a4:Int):=oda;have q51:(a4:Int)<(((rd_L2 a3 a2).length:Int):Int):=oda;obtain ⟨go51,co51,ee,ef,gl51,cl51,HG51⟩:=Kd.R_form ed.out (by omega);(first|cases ee|(injection ee with ea_ en_ ec_;(first|subst ea_|(injection ea_ with ea_;subst ea_));subst ec_;clear en_));have fj:=Aside0.mk ef;have GG51:=Aside0.mk HG51;clear ef gl51 HG51;(first|simp only [add_plain] at cx|skip);obtain ⟨ga,hf51_0⟩:=Kd.R_celln 0 ed.out (a4:Int) p51 q51;replace p51:=eq_true p51;replace q51:=eq_true q51
                                have hq52:(a2:Int)<(a3.length:Int):=(by have h_:(a2:Int)<((a3.length:Int):Int):=oda;first|exact h_|(have e_:=(Kd.S_reads' a5.out).1;omega)|simpa only [List.length_set,List.length_set] using h_)
                                obtain ⟨oki52,ce52,hcl52,hM52,hcc52,hok52,hbk52⟩:=Kd.S_borrow a5.out [] (a2:Int) (oda) hq52;obtain ⟨ve52_0,rfl,ge52_0⟩:=hM52;have hv52:=hcc52 0 _ rfl
                                rw [Nat.add_zero,show ((Kd.slice 3 (Kd.int .i64))).sz=1 from rfl,Nat.mul_one] at hv52
                                replace hv52:=Option.some.inj (hv52.symm.trans fi.out);subst hv52;clear hcc52 hcl52
                                replace ge52_0:=(show Kd.R (Kd.int .i64) 3 _ _ _ _ (rd_L2 a3 a2) from ge52_0)
                                have eg:=Kd.R_putg ge52_0 (a4:Int) (rd (rd_L2 a3 a2) (a7))
                                go_wp2
                                repeat (go_quiet (fail);try go_wp2)
                                (try simp only [←hl5_2])
                                go_roundg k2
                                case measure=>have:=HK1.out;have:=HK2.out;omega
                                case rel=>exact ⟨(ec),(wrap64 (a4 - 1)),Ye1,H',⟨by have:=HK1.out;have:=HK2.out;omega⟩,⟨by (try simp only [hl5_1]);(try simp only [hl5_2]);rw [ff.out,fe.out];exact Kd.S_drewN (hbk52 eg.2 (fun k_ e_=>by cases e_;exact ge52_0.1 _ rfl) ⟨_,rfl,eg.1⟩) nq⟩,⟨below_set (pw_below_drewN HB.out _) fj.out⟩⟩
                               ·rw [if_neg d5] at H
                                exact absurd H (by simp)
                             ·rw [if_neg cZ] at H
                              exact absurd H (by simp)
                            ·rw [if_neg bo] at H
                             have eU:((rdOf ByteArray.empty l0 a2).toList==(rdOf ByteArray.empty l1 a4).toList)=false:=beq_eq_false_iff_ne.mpr bo;have eV:((rdOf ByteArray.empty l0 a2).toList != (rdOf ByteArray.empty l1 a4).toList)=true:=bne_iff_ne.mpr bo
                             by_cases d8:a4<((rd_L2 a3 a2).length:Int)
                             ·rw [if_pos d8] at H
                              have c54b0:decide (a4<((rd_L2 a3 a2).length:Int))=true:=decide_eq_true d8;clear d8
                              obtain ⟨eh,cD⟩:∃ y_:List Int,y_=((rd_L2 a3 a2).set (a4:Int).toNat (rd (rd_L2 a3 a2) (a7))):=⟨_,rfl⟩
                              replace H:(spec_l7Table.l1 k2 l0 l1 (a3.set (a2:Int).toNat eh) a2 (wrap64 (a4 - 1)))=some r:=by first|(rw [cD];with_reducible exact H)|(have H2_:=(Option.bind_some _ _).symm.trans H;rw [cD];with_reducible exact H2_)|(have H2_:=(Option.bind_some _ _).symm.trans H;with_reducible exact H2_)|with_reducible exact H|(rw [cD];exact H)|exact H
                              have fk:=Aside0.mk cD;clear cD
                              obtain ⟨ei,cE⟩:∃ y_:List (List Int),y_=(a3.set (a2:Int).toNat eh):=⟨_,rfl⟩
                              replace H:(spec_l7Table.l1 k2 l0 l1 ei a2 (wrap64 (a4 - 1)))=some r:=by first|(rw [cE];with_reducible exact H)|(have H2_:=(Option.bind_some _ _).symm.trans H;rw [cE];with_reducible exact H2_)|(have H2_:=(Option.bind_some _ _).symm.trans H;with_reducible exact H2_)|with_reducible exact H|(rw [cE];exact H)|exact H
                              have fl:=Aside0.mk cE;clear cE;have H':=Aside0.mk H;clear H;have ae:0≤((a6):Int):=oda;have af:(a6)<(a3.length:Int):=oda;obtain ⟨aP,ch,ci,aQ,ad,hl121_0,hi121_0⟩:=at_L2 (Kd.S_reads' a5.out).2.2 (a6) ae af
                              obtain rfl:(⟨a8,0,none⟩:Addr)=aP:=(by injection aQ)
                              obtain ⟨ce121,hce121,hMe121,hcc121⟩:=Kd.S_get a5.out [] (a6) ae (by first|exact af|exact oda|(have e_:=(Kd.S_reads' a5.out).1;omega));obtain ⟨ve121_0,rfl,ge121_0⟩:=hMe121;have hv121_0:=hcc121 0 _ rfl
                              rw [Nat.add_zero,show ((Kd.slice 3 (Kd.int .i64))).sz=1 from rfl,Nat.mul_one] at hv121_0
                              replace hv121_0:=Option.some.inj (hv121_0.symm.trans ad)
                              rw [hv121_0] at ge121_0
                              have cj:=Aside0.mk (show Kd.R (Kd.int .i64) 3 _ _ _ _ (rd_L2 a3 (a6)) from ge121_0);clear hv121_0 ge121_0;have ck:=Aside0.mk ad;clear hcc121 hce121;(first|simp only [add_plain] at ad|simp only [add_at] at ad|simp only [Addr.add,Nat.zero_add] at ad|skip);have aA:=Aside0.mk hi121_0;have cl:=Aside0.mk hl121_0;clear hi121_0 hl121_0;replace ae:=eq_true ae;replace af:=eq_true af;have am:0≤(a4:Int):=oda;have an:a4<((rd_L2 a3 (a6)).length:Int):=oda;obtain ⟨cm,aR,cn⟩:=Kd.at_int (by repeat (first|(with_reducible exact aA.out)|(with_reducible refine Kd.C_alloc ?_ _)|(with_reducible refine Kd.C_drewN ?_ _)|(with_reducible refine Kd.C_drew ?_)|exact aA.out)) a4 am an
                              cases aR
                              replace am:=eq_true am;replace an:=eq_true an;have ag:0≤(a2:Int):=oda;have ah:a2<(a3.length:Int):=oda;obtain ⟨aS,co,cp,aT,ab,hl123_0,hi123_0⟩:=at_L2 (Kd.S_reads' a5.out).2.2 a2 ag ah
                              obtain rfl:(⟨a8,0,none⟩:Addr)=aS:=(by injection aT)
                              obtain ⟨ce123,hce123,hMe123,hcc123⟩:=Kd.S_get a5.out [] a2 ag (by first|exact ah|exact oda|(have e_:=(Kd.S_reads' a5.out).1;omega));obtain ⟨ve123_0,rfl,ge123_0⟩:=hMe123;have hv123_0:=hcc123 0 _ rfl
                              rw [Nat.add_zero,show ((Kd.slice 3 (Kd.int .i64))).sz=1 from rfl,Nat.mul_one] at hv123_0
                              replace hv123_0:=Option.some.inj (hv123_0.symm.trans ab)
                              rw [hv123_0] at ge123_0
                              have cq:=Aside0.mk (show Kd.R (Kd.int .i64) 3 _ _ _ _ (rd_L2 a3 a2) from ge123_0);clear hv123_0 ge123_0;have cr:=Aside0.mk ab;clear hcc123 hce123;(first|simp only [add_plain] at ab|simp only [add_at] at ab|simp only [Addr.add,Nat.zero_add] at ab|skip);have aB:=Aside0.mk hi123_0;have cs:=Aside0.mk hl123_0;clear hi123_0 hl123_0;replace ag:=eq_true ag;replace ah:=eq_true ah;have ao:0≤((a7):Int):=oda;have ap:(a7)<((rd_L2 a3 a2).length:Int):=oda;obtain ⟨ct,aU,bj⟩:=Kd.at_int (by repeat (first|(with_reducible exact aB.out)|(with_reducible refine Kd.C_alloc ?_ _)|(with_reducible refine Kd.C_drewN ?_ _)|(with_reducible refine Kd.C_drew ?_)|exact aB.out)) (a7) ao ap
                              cases aU
                              replace ao:=eq_true ao;replace ap:=eq_true ap;have aF:0≤(a2:Int):=oda;have aG:a2<(a3.length:Int):=oda;obtain ⟨cu,dW,dX,cv,av,hl125_0,hi125_0⟩:=at_L2 (Kd.S_reads' a5.out).2.2 a2 aF aG
                              obtain rfl:(⟨a8,0,none⟩:Addr)=cu:=(by injection cv)
                              obtain ⟨ce125,hce125,hMe125,hcc125⟩:=Kd.S_get a5.out [] a2 aF (by first|exact aG|exact oda|(have e_:=(Kd.S_reads' a5.out).1;omega));obtain ⟨ve125_0,rfl,ge125_0⟩:=hMe125;have hv125_0:=hcc125 0 _ rfl
                              rw [Nat.add_zero,show ((Kd.slice 3 (Kd.int .i64))).sz=1 from rfl,Nat.mul_one] at hv125_0
                              replace hv125_0:=Option.some.inj (hv125_0.symm.trans av)
                              rw [hv125_0] at ge125_0
                              have dY:=Aside0.mk (show Kd.R (Kd.int .i64) 3 _ _ _ _ (rd_L2 a3 a2) from ge125_0);clear hv125_0 ge125_0;have dZ:=Aside0.mk av;clear hcc125 hce125;(first|simp only [add_plain] at av|simp only [add_at] at av|simp only [Addr.add,Nat.zero_add] at av|skip);have bm:=Aside0.mk hi125_0;have e0:=Aside0.mk hl125_0;clear hi125_0 hl125_0;replace aF:=eq_true aF;replace aG:=eq_true aG;have ea_:=Option.some.inj (ab.symm.trans av)
                              injection ea_ with ea_ en_ ec_
                              subst ea_;subst ec_;clear en_;have aV:0≤((a7):Int):=oda;have aW:(a7)<((rd_L2 a3 a2).length:Int):=oda;obtain ⟨e1,cw,cx⟩:=Kd.at_int (by repeat (first|(with_reducible exact bm.out)|(with_reducible refine Kd.C_alloc ?_ _)|(with_reducible refine Kd.C_drewN ?_ _)|(with_reducible refine Kd.C_drew ?_)|exact bm.out)) (a7) aV aW
                              cases cw
                              replace aV:=eq_true aV;replace aW:=eq_true aW;have aX:0≤(a2:Int):=oda;have aY:a2<(l0.length:Int):=oda;obtain ⟨e2,cy,e3⟩:=Kd.at_string (Kd.C_below bA.out HB.out) a2 aX aY
                              cases cy
                              replace aX:=eq_true aX;replace aY:=eq_true aY;have aZ:0≤(a4:Int):=oda;have b0:a4<(l1.length:Int):=oda;obtain ⟨e4,cz,e5⟩:=Kd.at_string (Kd.C_below bB.out HB.out) a4 aZ b0
                              cases cz
                              replace aZ:=eq_true aZ;replace b0:=eq_true b0;have d9:0≤(a2:Int):=oda;have da:a2<(a3.length:Int):=oda;obtain ⟨fm,gb,gg,fn,bO,hl141_0,hi141_0⟩:=at_L2 (Kd.S_reads' a5.out).2.2 a2 d9 da
                              obtain rfl:(⟨a8,0,none⟩:Addr)=fm:=(by injection fn)
                              obtain ⟨ce141,hce141,hMe141,hcc141⟩:=Kd.S_get a5.out [] a2 d9 (by first|exact da|exact oda|(have e_:=(Kd.S_reads' a5.out).1;omega));obtain ⟨ve141_0,rfl,ge141_0⟩:=hMe141;have hv141_0:=hcc141 0 _ rfl
                              rw [Nat.add_zero,show ((Kd.slice 3 (Kd.int .i64))).sz=1 from rfl,Nat.mul_one] at hv141_0
                              replace hv141_0:=Option.some.inj (hv141_0.symm.trans bO)
                              rw [hv141_0] at ge141_0
                              have ej:=Aside0.mk (show Kd.R (Kd.int .i64) 3 _ _ _ _ (rd_L2 a3 a2) from ge141_0);clear hv141_0 ge141_0;have fo:=Aside0.mk bO;clear hcc141 hce141;(first|simp only [add_plain] at bO|simp only [add_at] at bO|simp only [Addr.add,Nat.zero_add] at bO|skip);have gh:=Aside0.mk hi141_0;have gi:=Aside0.mk hl141_0;clear hi141_0 hl141_0;replace d9:=eq_true d9;replace da:=eq_true da;have ea_:=Option.some.inj (ab.symm.trans bO)
                              injection ea_ with ea_ en_ ec_
                              subst ea_;subst ec_;clear en_;have p55:0≤(a4:Int):=oda;have q55:(a4:Int)<(((rd_L2 a3 a2).length:Int):Int):=oda;obtain ⟨go55,co55,ek,el,gl55,cl55,HG55⟩:=Kd.R_form ej.out (by omega);(first|cases ek|(injection ek with ea_ en_ ec_;(first|subst ea_|(injection ea_ with ea_;subst ea_));subst ec_;clear en_));have fp:=Aside0.mk el;have GG55:=Aside0.mk HG55;clear el gl55 HG55;(first|simp only [add_plain] at cx|skip);obtain ⟨gj,hf55_0⟩:=Kd.R_celln 0 ej.out (a4:Int) p55 q55;replace p55:=eq_true p55;replace q55:=eq_true q55
                              have hq56:(a2:Int)<(a3.length:Int):=(by have h_:(a2:Int)<((a3.length:Int):Int):=oda;first|exact h_|(have e_:=(Kd.S_reads' a5.out).1;omega)|simpa only [List.length_set,List.length_set] using h_)
                              obtain ⟨oki56,ce56,hcl56,hM56,hcc56,hok56,hbk56⟩:=Kd.S_borrow a5.out [] (a2:Int) (oda) hq56;obtain ⟨ve56_0,rfl,ge56_0⟩:=hM56;have hv56:=hcc56 0 _ rfl
                              rw [Nat.add_zero,show ((Kd.slice 3 (Kd.int .i64))).sz=1 from rfl,Nat.mul_one] at hv56
                              replace hv56:=Option.some.inj (hv56.symm.trans fo.out);subst hv56;clear hcc56 hcl56
                              replace ge56_0:=(show Kd.R (Kd.int .i64) 3 _ _ _ _ (rd_L2 a3 a2) from ge56_0)
                              have em:=Kd.R_putg ge56_0 (a4:Int) (rd (rd_L2 a3 a2) (a7))
                              go_wp2
                              repeat (go_quiet (fail);try go_wp2)
                              (try simp only [←hl5_2])
                              go_roundg k2
                              case measure=>have:=HK1.out;have:=HK2.out;omega
                              case rel=>exact ⟨(ei),(wrap64 (a4 - 1)),Ye1,H',⟨by have:=HK1.out;have:=HK2.out;omega⟩,⟨by (try simp only [hl5_1]);(try simp only [hl5_2]);rw [fl.out,fk.out];exact Kd.S_drewN (hbk56 em.2 (fun k_ e_=>by cases e_;exact ge56_0.1 _ rfl) ⟨_,rfl,em.1⟩) nq⟩,⟨below_set (pw_below_drewN HB.out _) fp.out⟩⟩
                             ·rw [if_neg d8] at H
                              exact absurd H (by simp)
                           ·rw [if_neg cY] at H
                            exact absurd H (by simp)
                          ·rw [if_neg cX] at H
                           exact absurd H (by simp)
                         ·rw [if_neg bJ] at H
                          have eT:decide ((rd (rd_L2 a3 (a6)) a4)<(rd (rd_L2 a3 a2) (a7)))=false:=decide_eq_false bJ;clear bJ
                          by_cases db:a2<(l0.length:Int)
                          ·rw [if_pos db] at H
                           have c58b0:decide (a2<(l0.length:Int))=true:=decide_eq_true db;clear db
                           by_cases dc:a4<(l1.length:Int)
                           ·rw [if_pos dc] at H
                            have c59b0:decide (a4<(l1.length:Int))=true:=decide_eq_true dc;clear dc
                            by_cases bv:(rdOf ByteArray.empty l0 a2).toList=(rdOf ByteArray.empty l1 a4).toList
                            ·rw [if_pos bv] at H
                             have fq:((rdOf ByteArray.empty l0 a2).toList==(rdOf ByteArray.empty l1 a4).toList)=true:=beq_iff_eq.mpr bv;have fr:((rdOf ByteArray.empty l0 a2).toList != (rdOf ByteArray.empty l1 a4).toList)=false:=bne_eq_false_iff_eq.mpr bv;clear bv
                             by_cases dd:(a7)<((rd_L2 a3 (a6)).length:Int)
                             ·rw [if_pos dd] at H
                              have c61b0:decide ((a7)<((rd_L2 a3 (a6)).length:Int))=true:=decide_eq_true dd;clear dd
                              by_cases bP:(wrap64 ((rd (rd_L2 a3 (a6)) (a7))+1))>(rd (rd_L2 a3 (a6)) a4)
                              ·rw [if_pos bP] at H
                               have fs:decide ((rd (rd_L2 a3 (a6)) a4)<(wrap64 ((rd (rd_L2 a3 (a6)) (a7))+1)))=true:=decide_eq_true bP;clear bP
                               by_cases de:a4<((rd_L2 a3 a2).length:Int)
                               ·rw [if_pos de] at H
                                have c63b0:decide (a4<((rd_L2 a3 a2).length:Int))=true:=decide_eq_true de;clear de
                                obtain ⟨en,cF⟩:∃ y_:List Int,y_=((rd_L2 a3 a2).set (a4:Int).toNat (wrap64 ((rd (rd_L2 a3 (a6)) (a7))+1))):=⟨_,rfl⟩
                                replace H:(spec_l7Table.l1 k2 l0 l1 (a3.set (a2:Int).toNat en) a2 (wrap64 (a4 - 1)))=some r:=by first|(rw [cF];with_reducible exact H)|(have H2_:=(Option.bind_some _ _).symm.trans H;rw [cF];with_reducible exact H2_)|(have H2_:=(Option.bind_some _ _).symm.trans H;with_reducible exact H2_)|with_reducible exact H|(rw [cF];exact H)|exact H
                                have ft:=Aside0.mk cF;clear cF
                                obtain ⟨eo,cG⟩:∃ y_:List (List Int),y_=(a3.set (a2:Int).toNat en):=⟨_,rfl⟩
                                replace H:(spec_l7Table.l1 k2 l0 l1 eo a2 (wrap64 (a4 - 1)))=some r:=by first|(rw [cG];with_reducible exact H)|(have H2_:=(Option.bind_some _ _).symm.trans H;rw [cG];with_reducible exact H2_)|(have H2_:=(Option.bind_some _ _).symm.trans H;with_reducible exact H2_)|with_reducible exact H|(rw [cG];exact H)|exact H
                                have fu:=Aside0.mk cG;clear cG;have H':=Aside0.mk H;clear H;have ae:0≤((a6):Int):=oda;have af:(a6)<(a3.length:Int):=oda;obtain ⟨aP,ch,ci,aQ,ad,hl121_0,hi121_0⟩:=at_L2 (Kd.S_reads' a5.out).2.2 (a6) ae af
                                obtain rfl:(⟨a8,0,none⟩:Addr)=aP:=(by injection aQ)
                                obtain ⟨ce121,hce121,hMe121,hcc121⟩:=Kd.S_get a5.out [] (a6) ae (by first|exact af|exact oda|(have e_:=(Kd.S_reads' a5.out).1;omega));obtain ⟨ve121_0,rfl,ge121_0⟩:=hMe121;have hv121_0:=hcc121 0 _ rfl
                                rw [Nat.add_zero,show ((Kd.slice 3 (Kd.int .i64))).sz=1 from rfl,Nat.mul_one] at hv121_0
                                replace hv121_0:=Option.some.inj (hv121_0.symm.trans ad)
                                rw [hv121_0] at ge121_0
                                have cj:=Aside0.mk (show Kd.R (Kd.int .i64) 3 _ _ _ _ (rd_L2 a3 (a6)) from ge121_0);clear hv121_0 ge121_0;have ck:=Aside0.mk ad;clear hcc121 hce121;(first|simp only [add_plain] at ad|simp only [add_at] at ad|simp only [Addr.add,Nat.zero_add] at ad|skip);have aA:=Aside0.mk hi121_0;have cl:=Aside0.mk hl121_0;clear hi121_0 hl121_0;replace ae:=eq_true ae;replace af:=eq_true af;have am:0≤(a4:Int):=oda;have an:a4<((rd_L2 a3 (a6)).length:Int):=oda;obtain ⟨cm,aR,cn⟩:=Kd.at_int (by repeat (first|(with_reducible exact aA.out)|(with_reducible refine Kd.C_alloc ?_ _)|(with_reducible refine Kd.C_drewN ?_ _)|(with_reducible refine Kd.C_drew ?_)|exact aA.out)) a4 am an
                                cases aR
                                replace am:=eq_true am;replace an:=eq_true an;have ag:0≤(a2:Int):=oda;have ah:a2<(a3.length:Int):=oda;obtain ⟨aS,co,cp,aT,ab,hl123_0,hi123_0⟩:=at_L2 (Kd.S_reads' a5.out).2.2 a2 ag ah
                                obtain rfl:(⟨a8,0,none⟩:Addr)=aS:=(by injection aT)
                                obtain ⟨ce123,hce123,hMe123,hcc123⟩:=Kd.S_get a5.out [] a2 ag (by first|exact ah|exact oda|(have e_:=(Kd.S_reads' a5.out).1;omega));obtain ⟨ve123_0,rfl,ge123_0⟩:=hMe123;have hv123_0:=hcc123 0 _ rfl
                                rw [Nat.add_zero,show ((Kd.slice 3 (Kd.int .i64))).sz=1 from rfl,Nat.mul_one] at hv123_0
                                replace hv123_0:=Option.some.inj (hv123_0.symm.trans ab)
                                rw [hv123_0] at ge123_0
                                have cq:=Aside0.mk (show Kd.R (Kd.int .i64) 3 _ _ _ _ (rd_L2 a3 a2) from ge123_0);clear hv123_0 ge123_0;have cr:=Aside0.mk ab;clear hcc123 hce123;(first|simp only [add_plain] at ab|simp only [add_at] at ab|simp only [Addr.add,Nat.zero_add] at ab|skip);have aB:=Aside0.mk hi123_0;have cs:=Aside0.mk hl123_0;clear hi123_0 hl123_0;replace ag:=eq_true ag;replace ah:=eq_true ah;have ao:0≤((a7):Int):=oda;have ap:(a7)<((rd_L2 a3 a2).length:Int):=oda;obtain ⟨ct,aU,bj⟩:=Kd.at_int (by repeat (first|(with_reducible exact aB.out)|(with_reducible refine Kd.C_alloc ?_ _)|(with_reducible refine Kd.C_drewN ?_ _)|(with_reducible refine Kd.C_drew ?_)|exact aB.out)) (a7) ao ap
                                cases aU
                                replace ao:=eq_true ao;replace ap:=eq_true ap;have b1:0≤(a2:Int):=oda;have b2:a2<(l0.length:Int):=oda;obtain ⟨ep,cH,eq⟩:=Kd.at_string (Kd.C_below bA.out HB.out) a2 b1 b2
                                cases cH
                                replace b1:=eq_true b1;replace b2:=eq_true b2;have b3:0≤(a4:Int):=oda;have b4:a4<(l1.length:Int):=oda;obtain ⟨er,cI,es⟩:=Kd.at_string (Kd.C_below bB.out HB.out) a4 b3 b4
                                cases cI
                                replace b3:=eq_true b3;replace b4:=eq_true b4;have b8:0≤((a6):Int):=oda;have b9:(a6)<(a3.length:Int):=oda;obtain ⟨dB,fv,fw,dC,aJ,hl147_0,hi147_0⟩:=at_L2 (Kd.S_reads' a5.out).2.2 (a6) b8 b9
                                obtain rfl:(⟨a8,0,none⟩:Addr)=dB:=(by injection dC)
                                obtain ⟨ce147,hce147,hMe147,hcc147⟩:=Kd.S_get a5.out [] (a6) b8 (by first|exact b9|exact oda|(have e_:=(Kd.S_reads' a5.out).1;omega));obtain ⟨ve147_0,rfl,ge147_0⟩:=hMe147;have hv147_0:=hcc147 0 _ rfl
                                rw [Nat.add_zero,show ((Kd.slice 3 (Kd.int .i64))).sz=1 from rfl,Nat.mul_one] at hv147_0
                                replace hv147_0:=Option.some.inj (hv147_0.symm.trans aJ)
                                rw [hv147_0] at ge147_0
                                have fx:=Aside0.mk (show Kd.R (Kd.int .i64) 3 _ _ _ _ (rd_L2 a3 (a6)) from ge147_0);clear hv147_0 ge147_0;have fy:=Aside0.mk aJ;clear hcc147 hce147;(first|simp only [add_plain] at aJ|simp only [add_at] at aJ|simp only [Addr.add,Nat.zero_add] at aJ|skip);have cJ:=Aside0.mk hi147_0;have fz:=Aside0.mk hl147_0;clear hi147_0 hl147_0;replace b8:=eq_true b8;replace b9:=eq_true b9;have ea_:=Option.some.inj (ad.symm.trans aJ)
                                injection ea_ with ea_ en_ ec_
                                subst ea_;subst ec_;clear en_;have bw:0≤((a7):Int):=oda;have bz:(a7)<((rd_L2 a3 (a6)).length:Int):=oda;obtain ⟨fA,dD,fB⟩:=Kd.at_int (by repeat (first|(with_reducible exact cJ.out)|(with_reducible refine Kd.C_alloc ?_ _)|(with_reducible refine Kd.C_drewN ?_ _)|(with_reducible refine Kd.C_drew ?_)|exact cJ.out)) (a7) bw bz
                                cases dD
                                replace bw:=eq_true bw;replace bz:=eq_true bz;have df:0≤((a6):Int):=oda;have dg:(a6)<(a3.length:Int):=oda;obtain ⟨fC,gm,gn,fD,bQ,hl149_0,hi149_0⟩:=at_L2 (Kd.S_reads' a5.out).2.2 (a6) df dg
                                obtain rfl:(⟨a8,0,none⟩:Addr)=fC:=(by injection fD)
                                obtain ⟨ce149,hce149,hMe149,hcc149⟩:=Kd.S_get a5.out [] (a6) df (by first|exact dg|exact oda|(have e_:=(Kd.S_reads' a5.out).1;omega));obtain ⟨ve149_0,rfl,ge149_0⟩:=hMe149;have hv149_0:=hcc149 0 _ rfl
                                rw [Nat.add_zero,show ((Kd.slice 3 (Kd.int .i64))).sz=1 from rfl,Nat.mul_one] at hv149_0
                                replace hv149_0:=Option.some.inj (hv149_0.symm.trans bQ)
                                rw [hv149_0] at ge149_0
                                have gp:=Aside0.mk (show Kd.R (Kd.int .i64) 3 _ _ _ _ (rd_L2 a3 (a6)) from ge149_0);clear hv149_0 ge149_0;have gq:=Aside0.mk bQ;clear hcc149 hce149;(first|simp only [add_plain] at bQ|simp only [add_at] at bQ|simp only [Addr.add,Nat.zero_add] at bQ|skip);have et:=Aside0.mk hi149_0;have gr:=Aside0.mk hl149_0;clear hi149_0 hl149_0;replace df:=eq_true df;replace dg:=eq_true dg;have ea_:=Option.some.inj (ad.symm.trans bQ)
                                injection ea_ with ea_ en_ ec_
                                subst ea_;subst ec_;clear en_;have dE:0≤((a7):Int):=oda;have dF:(a7)<((rd_L2 a3 (a6)).length:Int):=oda;obtain ⟨ad150,fE,gt⟩:=Kd.at_int (by repeat (first|(with_reducible exact et.out)|(with_reducible refine Kd.C_alloc ?_ _)|(with_reducible refine Kd.C_drewN ?_ _)|(with_reducible refine Kd.C_drew ?_)|exact et.out)) (a7) dE dF
                                cases fE
                                replace dE:=eq_true dE;replace dF:=eq_true dF;have dh:0≤(a2:Int):=oda;have di:a2<(a3.length:Int):=oda;obtain ⟨fF,gu,gv,fG,bR,hl151_0,hi151_0⟩:=at_L2 (Kd.S_reads' a5.out).2.2 a2 dh di
                                obtain rfl:(⟨a8,0,none⟩:Addr)=fF:=(by injection fG)
                                obtain ⟨ce151,hce151,hMe151,hcc151⟩:=Kd.S_get a5.out [] a2 dh (by first|exact di|exact oda|(have e_:=(Kd.S_reads' a5.out).1;omega));obtain ⟨ve151_0,rfl,ge151_0⟩:=hMe151;have hv151_0:=hcc151 0 _ rfl
                                rw [Nat.add_zero,show ((Kd.slice 3 (Kd.int .i64))).sz=1 from rfl,Nat.mul_one] at hv151_0
                                replace hv151_0:=Option.some.inj (hv151_0.symm.trans bR)
                                rw [hv151_0] at ge151_0
                                have eu:=Aside0.mk (show Kd.R (Kd.int .i64) 3 _ _ _ _ (rd_L2 a3 a2) from ge151_0);clear hv151_0 ge151_0;have fH:=Aside0.mk bR;clear hcc151 hce151;(first|simp only [add_plain] at bR|simp only [add_at] at bR|simp only [Addr.add,Nat.zero_add] at bR|skip);have gw:=Aside0.mk hi151_0;have gx:=Aside0.mk hl151_0;clear hi151_0 hl151_0;replace dh:=eq_true dh;replace di:=eq_true di;have ea_:=Option.some.inj (ab.symm.trans bR)
                                injection ea_ with ea_ en_ ec_
                                subst ea_;subst ec_;clear en_;have p64:0≤(a4:Int):=oda;have q64:(a4:Int)<(((rd_L2 a3 a2).length:Int):Int):=oda;obtain ⟨go64,co64,ev,ew,gl64,cl64,HG64⟩:=Kd.R_form eu.out (by omega);(first|cases ev|(injection ev with ea_ en_ ec_;(first|subst ea_|(injection ea_ with ea_;subst ea_));subst ec_;clear en_));have fI:=Aside0.mk ew;have GG64:=Aside0.mk HG64;clear ew gl64 HG64;(first|simp only [add_plain] at bj|skip);obtain ⟨gy,hf64_0⟩:=Kd.R_celln 0 eu.out (a4:Int) p64 q64;replace p64:=eq_true p64;replace q64:=eq_true q64
                                have hq65:(a2:Int)<(a3.length:Int):=(by have h_:(a2:Int)<((a3.length:Int):Int):=oda;first|exact h_|(have e_:=(Kd.S_reads' a5.out).1;omega)|simpa only [List.length_set,List.length_set] using h_)
                                obtain ⟨oki65,ce65,hcl65,hM65,hcc65,hok65,hbk65⟩:=Kd.S_borrow a5.out [] (a2:Int) (oda) hq65;obtain ⟨ve65_0,rfl,ge65_0⟩:=hM65;have hv65:=hcc65 0 _ rfl
                                rw [Nat.add_zero,show ((Kd.slice 3 (Kd.int .i64))).sz=1 from rfl,Nat.mul_one] at hv65
                                replace hv65:=Option.some.inj (hv65.symm.trans fH.out);subst hv65;clear hcc65 hcl65
                                replace ge65_0:=(show Kd.R (Kd.int .i64) 3 _ _ _ _ (rd_L2 a3 a2) from ge65_0)
                                have ex:=Kd.R_putg ge65_0 (a4:Int) (wrap64 ((rd (rd_L2 a3 (a6)) (a7))+1))
                                go_wp2
                                repeat (go_quiet (fail);try go_wp2)
                                (try simp only [←hl5_2])
                                go_roundg k2
                                case measure=>have:=HK1.out;have:=HK2.out;omega
                                case rel=>exact ⟨(eo),(wrap64 (a4 - 1)),Ye1,H',⟨by have:=HK1.out;have:=HK2.out;omega⟩,⟨by (try simp only [hl5_1]);(try simp only [hl5_2]);rw [fu.out,ft.out];exact Kd.S_drewN (hbk65 ex.2 (fun k_ e_=>by cases e_;exact ge65_0.1 _ rfl) ⟨_,rfl,ex.1⟩) nq⟩,⟨below_set (pw_below_drewN HB.out _) fI.out⟩⟩
                               ·rw [if_neg de] at H
                                exact absurd H (by simp)
                              ·rw [if_neg bP] at H
                               have fs:decide ((rd (rd_L2 a3 (a6)) a4)<(wrap64 ((rd (rd_L2 a3 (a6)) (a7))+1)))=false:=decide_eq_false bP;clear bP
                               by_cases dj:a4<((rd_L2 a3 a2).length:Int)
                               ·rw [if_pos dj] at H
                                have c67b0:decide (a4<((rd_L2 a3 a2).length:Int))=true:=decide_eq_true dj;clear dj
                                obtain ⟨ey,cK⟩:∃ y_:List Int,y_=((rd_L2 a3 a2).set (a4:Int).toNat (rd (rd_L2 a3 (a6)) a4)):=⟨_,rfl⟩
                                replace H:(spec_l7Table.l1 k2 l0 l1 (a3.set (a2:Int).toNat ey) a2 (wrap64 (a4 - 1)))=some r:=by first|(rw [cK];with_reducible exact H)|(have H2_:=(Option.bind_some _ _).symm.trans H;rw [cK];with_reducible exact H2_)|(have H2_:=(Option.bind_some _ _).symm.trans H;with_reducible exact H2_)|with_reducible exact H|(rw [cK];exact H)|exact H
                                have fJ:=Aside0.mk cK;clear cK
                                obtain ⟨ez,cL⟩:∃ y_:List (List Int),y_=(a3.set (a2:Int).toNat ey):=⟨_,rfl⟩
                                replace H:(spec_l7Table.l1 k2 l0 l1 ez a2 (wrap64 (a4 - 1)))=some r:=by first|(rw [cL];with_reducible exact H)|(have H2_:=(Option.bind_some _ _).symm.trans H;rw [cL];with_reducible exact H2_)|(have H2_:=(Option.bind_some _ _).symm.trans H;with_reducible exact H2_)|with_reducible exact H|(rw [cL];exact H)|exact H
                                have fK:=Aside0.mk cL;clear cL;have H':=Aside0.mk H;clear H;have ae:0≤((a6):Int):=oda;have af:(a6)<(a3.length:Int):=oda;obtain ⟨aP,ch,ci,aQ,ad,hl121_0,hi121_0⟩:=at_L2 (Kd.S_reads' a5.out).2.2 (a6) ae af
                                obtain rfl:(⟨a8,0,none⟩:Addr)=aP:=(by injection aQ)
                                obtain ⟨ce121,hce121,hMe121,hcc121⟩:=Kd.S_get a5.out [] (a6) ae (by first|exact af|exact oda|(have e_:=(Kd.S_reads' a5.out).1;omega));obtain ⟨ve121_0,rfl,ge121_0⟩:=hMe121;have hv121_0:=hcc121 0 _ rfl
                                rw [Nat.add_zero,show ((Kd.slice 3 (Kd.int .i64))).sz=1 from rfl,Nat.mul_one] at hv121_0
                                replace hv121_0:=Option.some.inj (hv121_0.symm.trans ad)
                                rw [hv121_0] at ge121_0
                                have cj:=Aside0.mk (show Kd.R (Kd.int .i64) 3 _ _ _ _ (rd_L2 a3 (a6)) from ge121_0);clear hv121_0 ge121_0;have ck:=Aside0.mk ad;clear hcc121 hce121;(first|simp only [add_plain] at ad|simp only [add_at] at ad|simp only [Addr.add,Nat.zero_add] at ad|skip);have aA:=Aside0.mk hi121_0;have cl:=Aside0.mk hl121_0;clear hi121_0 hl121_0;replace ae:=eq_true ae;replace af:=eq_true af;have am:0≤(a4:Int):=oda;have an:a4<((rd_L2 a3 (a6)).length:Int):=oda;obtain ⟨cm,aR,cn⟩:=Kd.at_int (by repeat (first|(with_reducible exact aA.out)|(with_reducible refine Kd.C_alloc ?_ _)|(with_reducible refine Kd.C_drewN ?_ _)|(with_reducible refine Kd.C_drew ?_)|exact aA.out)) a4 am an
                                cases aR
                                replace am:=eq_true am;replace an:=eq_true an;have ag:0≤(a2:Int):=oda;have ah:a2<(a3.length:Int):=oda;obtain ⟨aS,co,cp,aT,ab,hl123_0,hi123_0⟩:=at_L2 (Kd.S_reads' a5.out).2.2 a2 ag ah
                                obtain rfl:(⟨a8,0,none⟩:Addr)=aS:=(by injection aT)
                                obtain ⟨ce123,hce123,hMe123,hcc123⟩:=Kd.S_get a5.out [] a2 ag (by first|exact ah|exact oda|(have e_:=(Kd.S_reads' a5.out).1;omega));obtain ⟨ve123_0,rfl,ge123_0⟩:=hMe123;have hv123_0:=hcc123 0 _ rfl
                                rw [Nat.add_zero,show ((Kd.slice 3 (Kd.int .i64))).sz=1 from rfl,Nat.mul_one] at hv123_0
                                replace hv123_0:=Option.some.inj (hv123_0.symm.trans ab)
                                rw [hv123_0] at ge123_0
                                have cq:=Aside0.mk (show Kd.R (Kd.int .i64) 3 _ _ _ _ (rd_L2 a3 a2) from ge123_0);clear hv123_0 ge123_0;have cr:=Aside0.mk ab;clear hcc123 hce123;(first|simp only [add_plain] at ab|simp only [add_at] at ab|simp only [Addr.add,Nat.zero_add] at ab|skip);have aB:=Aside0.mk hi123_0;have cs:=Aside0.mk hl123_0;clear hi123_0 hl123_0;replace ag:=eq_true ag;replace ah:=eq_true ah;have ao:0≤((a7):Int):=oda;have ap:(a7)<((rd_L2 a3 a2).length:Int):=oda;obtain ⟨ct,aU,bj⟩:=Kd.at_int (by repeat (first|(with_reducible exact aB.out)|(with_reducible refine Kd.C_alloc ?_ _)|(with_reducible refine Kd.C_drewN ?_ _)|(with_reducible refine Kd.C_drew ?_)|exact aB.out)) (a7) ao ap
                                cases aU
                                replace ao:=eq_true ao;replace ap:=eq_true ap;have b1:0≤(a2:Int):=oda;have b2:a2<(l0.length:Int):=oda;obtain ⟨ep,cH,eq⟩:=Kd.at_string (Kd.C_below bA.out HB.out) a2 b1 b2
                                cases cH
                                replace b1:=eq_true b1;replace b2:=eq_true b2;have b3:0≤(a4:Int):=oda;have b4:a4<(l1.length:Int):=oda;obtain ⟨er,cI,es⟩:=Kd.at_string (Kd.C_below bB.out HB.out) a4 b3 b4
                                cases cI
                                replace b3:=eq_true b3;replace b4:=eq_true b4;have b8:0≤((a6):Int):=oda;have b9:(a6)<(a3.length:Int):=oda;obtain ⟨dB,fv,fw,dC,aJ,hl147_0,hi147_0⟩:=at_L2 (Kd.S_reads' a5.out).2.2 (a6) b8 b9
                                obtain rfl:(⟨a8,0,none⟩:Addr)=dB:=(by injection dC)
                                obtain ⟨ce147,hce147,hMe147,hcc147⟩:=Kd.S_get a5.out [] (a6) b8 (by first|exact b9|exact oda|(have e_:=(Kd.S_reads' a5.out).1;omega));obtain ⟨ve147_0,rfl,ge147_0⟩:=hMe147;have hv147_0:=hcc147 0 _ rfl
                                rw [Nat.add_zero,show ((Kd.slice 3 (Kd.int .i64))).sz=1 from rfl,Nat.mul_one] at hv147_0
                                replace hv147_0:=Option.some.inj (hv147_0.symm.trans aJ)
                                rw [hv147_0] at ge147_0
                                have fx:=Aside0.mk (show Kd.R (Kd.int .i64) 3 _ _ _ _ (rd_L2 a3 (a6)) from ge147_0);clear hv147_0 ge147_0;have fy:=Aside0.mk aJ;clear hcc147 hce147;(first|simp only [add_plain] at aJ|simp only [add_at] at aJ|simp only [Addr.add,Nat.zero_add] at aJ|skip);have cJ:=Aside0.mk hi147_0;have fz:=Aside0.mk hl147_0;clear hi147_0 hl147_0;replace b8:=eq_true b8;replace b9:=eq_true b9;have ea_:=Option.some.inj (ad.symm.trans aJ)
                                injection ea_ with ea_ en_ ec_
                                subst ea_;subst ec_;clear en_;have bw:0≤((a7):Int):=oda;have bz:(a7)<((rd_L2 a3 (a6)).length:Int):=oda;obtain ⟨fA,dD,fB⟩:=Kd.at_int (by repeat (first|(with_reducible exact cJ.out)|(with_reducible refine Kd.C_alloc ?_ _)|(with_reducible refine Kd.C_drewN ?_ _)|(with_reducible refine Kd.C_drew ?_)|exact cJ.out)) (a7) bw bz
                                cases dD
                                replace bw:=eq_true bw;replace bz:=eq_true bz;have dk:0≤(a2:Int):=oda;have dl:a2<(a3.length:Int):=oda;obtain ⟨fL,gz,gA,fM,bS,hl155_0,hi155_0⟩:=at_L2 (Kd.S_reads' a5.out).2.2 a2 dk dl
                                obtain rfl:(⟨a8,0,none⟩:Addr)=fL:=(by injection fM)
                                obtain ⟨ce155,hce155,hMe155,hcc155⟩:=Kd.S_get a5.out [] a2 dk (by first|exact dl|exact oda|(have e_:=(Kd.S_reads' a5.out).1;omega));obtain ⟨ve155_0,rfl,ge155_0⟩:=hMe155;have hv155_0:=hcc155 0 _ rfl
                                rw [Nat.add_zero,show ((Kd.slice 3 (Kd.int .i64))).sz=1 from rfl,Nat.mul_one] at hv155_0
                                replace hv155_0:=Option.some.inj (hv155_0.symm.trans bS)
                                rw [hv155_0] at ge155_0
                                have eA:=Aside0.mk (show Kd.R (Kd.int .i64) 3 _ _ _ _ (rd_L2 a3 a2) from ge155_0);clear hv155_0 ge155_0;have fN:=Aside0.mk bS;clear hcc155 hce155;(first|simp only [add_plain] at bS|simp only [add_at] at bS|simp only [Addr.add,Nat.zero_add] at bS|skip);have gB:=Aside0.mk hi155_0;have gC:=Aside0.mk hl155_0;clear hi155_0 hl155_0;replace dk:=eq_true dk;replace dl:=eq_true dl;have ea_:=Option.some.inj (ab.symm.trans bS)
                                injection ea_ with ea_ en_ ec_
                                subst ea_;subst ec_;clear en_;have p68:0≤(a4:Int):=oda;have q68:(a4:Int)<(((rd_L2 a3 a2).length:Int):Int):=oda;obtain ⟨go68,co68,eB,eC,gl68,cl68,HG68⟩:=Kd.R_form eA.out (by omega);(first|cases eB|(injection eB with ea_ en_ ec_;(first|subst ea_|(injection ea_ with ea_;subst ea_));subst ec_;clear en_));have fO:=Aside0.mk eC;have GG68:=Aside0.mk HG68;clear eC gl68 HG68;(first|simp only [add_plain] at bj|skip);obtain ⟨gD,hf68_0⟩:=Kd.R_celln 0 eA.out (a4:Int) p68 q68;replace p68:=eq_true p68;replace q68:=eq_true q68
                                have hq69:(a2:Int)<(a3.length:Int):=(by have h_:(a2:Int)<((a3.length:Int):Int):=oda;first|exact h_|(have e_:=(Kd.S_reads' a5.out).1;omega)|simpa only [List.length_set,List.length_set] using h_)
                                obtain ⟨oki69,ce69,hcl69,hM69,hcc69,hok69,hbk69⟩:=Kd.S_borrow a5.out [] (a2:Int) (oda) hq69;obtain ⟨ve69_0,rfl,ge69_0⟩:=hM69;have hv69:=hcc69 0 _ rfl
                                rw [Nat.add_zero,show ((Kd.slice 3 (Kd.int .i64))).sz=1 from rfl,Nat.mul_one] at hv69
                                replace hv69:=Option.some.inj (hv69.symm.trans fN.out);subst hv69;clear hcc69 hcl69
                                replace ge69_0:=(show Kd.R (Kd.int .i64) 3 _ _ _ _ (rd_L2 a3 a2) from ge69_0)
                                have eD:=Kd.R_putg ge69_0 (a4:Int) (rd (rd_L2 a3 (a6)) a4)
                                go_wp2
                                repeat (go_quiet (fail);try go_wp2)
                                (try simp only [←hl5_2])
                                go_roundg k2
                                case measure=>have:=HK1.out;have:=HK2.out;omega
                                case rel=>exact ⟨(ez),(wrap64 (a4 - 1)),Ye1,H',⟨by have:=HK1.out;have:=HK2.out;omega⟩,⟨by (try simp only [hl5_1]);(try simp only [hl5_2]);rw [fK.out,fJ.out];exact Kd.S_drewN (hbk69 eD.2 (fun k_ e_=>by cases e_;exact ge69_0.1 _ rfl) ⟨_,rfl,eD.1⟩) nq⟩,⟨below_set (pw_below_drewN HB.out _) fO.out⟩⟩
                               ·rw [if_neg dj] at H
                                exact absurd H (by simp)
                             ·rw [if_neg dd] at H
                              exact absurd H (by simp)
                            ·rw [if_neg bv] at H
                             have fq:((rdOf ByteArray.empty l0 a2).toList==(rdOf ByteArray.empty l1 a4).toList)=false:=beq_eq_false_iff_ne.mpr bv;have fr:((rdOf ByteArray.empty l0 a2).toList != (rdOf ByteArray.empty l1 a4).toList)=true:=bne_iff_ne.mpr bv
                             by_cases dm:a4<((rd_L2 a3 a2).length:Int)
                             ·rw [if_pos dm] at H
                              have c71b0:decide (a4<((rd_L2 a3 a2).length:Int))=true:=decide_eq_true dm;clear dm
                              obtain ⟨eE,cM⟩:∃ y_:List Int,y_=((rd_L2 a3 a2).set (a4:Int).toNat (rd (rd_L2 a3 (a6)) a4)):=⟨_,rfl⟩
                              replace H:(spec_l7Table.l1 k2 l0 l1 (a3.set (a2:Int).toNat eE) a2 (wrap64 (a4 - 1)))=some r:=by first|(rw [cM];with_reducible exact H)|(have H2_:=(Option.bind_some _ _).symm.trans H;rw [cM];with_reducible exact H2_)|(have H2_:=(Option.bind_some _ _).symm.trans H;with_reducible exact H2_)|with_reducible exact H|(rw [cM];exact H)|exact H
                              have fP:=Aside0.mk cM;clear cM
                              obtain ⟨eF,cN⟩:∃ y_:List (List Int),y_=(a3.set (a2:Int).toNat eE):=⟨_,rfl⟩
                              replace H:(spec_l7Table.l1 k2 l0 l1 eF a2 (wrap64 (a4 - 1)))=some r:=by first|(rw [cN];with_reducible exact H)|(have H2_:=(Option.bind_some _ _).symm.trans H;rw [cN];with_reducible exact H2_)|(have H2_:=(Option.bind_some _ _).symm.trans H;with_reducible exact H2_)|with_reducible exact H|(rw [cN];exact H)|exact H
                              have fQ:=Aside0.mk cN;clear cN;have H':=Aside0.mk H;clear H;have ae:0≤((a6):Int):=oda;have af:(a6)<(a3.length:Int):=oda;obtain ⟨aP,ch,ci,aQ,ad,hl121_0,hi121_0⟩:=at_L2 (Kd.S_reads' a5.out).2.2 (a6) ae af
                              obtain rfl:(⟨a8,0,none⟩:Addr)=aP:=(by injection aQ)
                              obtain ⟨ce121,hce121,hMe121,hcc121⟩:=Kd.S_get a5.out [] (a6) ae (by first|exact af|exact oda|(have e_:=(Kd.S_reads' a5.out).1;omega));obtain ⟨ve121_0,rfl,ge121_0⟩:=hMe121;have hv121_0:=hcc121 0 _ rfl
                              rw [Nat.add_zero,show ((Kd.slice 3 (Kd.int .i64))).sz=1 from rfl,Nat.mul_one] at hv121_0
                              replace hv121_0:=Option.some.inj (hv121_0.symm.trans ad)
                              rw [hv121_0] at ge121_0
                              have cj:=Aside0.mk (show Kd.R (Kd.int .i64) 3 _ _ _ _ (rd_L2 a3 (a6)) from ge121_0);clear hv121_0 ge121_0;have ck:=Aside0.mk ad;clear hcc121 hce121;(first|simp only [add_plain] at ad|simp only [add_at] at ad|simp only [Addr.add,Nat.zero_add] at ad|skip);have aA:=Aside0.mk hi121_0;have cl:=Aside0.mk hl121_0;clear hi121_0 hl121_0;replace ae:=eq_true ae;replace af:=eq_true af;have am:0≤(a4:Int):=oda;have an:a4<((rd_L2 a3 (a6)).length:Int):=oda;obtain ⟨cm,aR,cn⟩:=Kd.at_int (by repeat (first|(with_reducible exact aA.out)|(with_reducible refine Kd.C_alloc ?_ _)|(with_reducible refine Kd.C_drewN ?_ _)|(with_reducible refine Kd.C_drew ?_)|exact aA.out)) a4 am an
                              cases aR
                              replace am:=eq_true am;replace an:=eq_true an;have ag:0≤(a2:Int):=oda;have ah:a2<(a3.length:Int):=oda;obtain ⟨aS,co,cp,aT,ab,hl123_0,hi123_0⟩:=at_L2 (Kd.S_reads' a5.out).2.2 a2 ag ah
                              obtain rfl:(⟨a8,0,none⟩:Addr)=aS:=(by injection aT)
                              obtain ⟨ce123,hce123,hMe123,hcc123⟩:=Kd.S_get a5.out [] a2 ag (by first|exact ah|exact oda|(have e_:=(Kd.S_reads' a5.out).1;omega));obtain ⟨ve123_0,rfl,ge123_0⟩:=hMe123;have hv123_0:=hcc123 0 _ rfl
                              rw [Nat.add_zero,show ((Kd.slice 3 (Kd.int .i64))).sz=1 from rfl,Nat.mul_one] at hv123_0
                              replace hv123_0:=Option.some.inj (hv123_0.symm.trans ab)
                              rw [hv123_0] at ge123_0
                              have cq:=Aside0.mk (show Kd.R (Kd.int .i64) 3 _ _ _ _ (rd_L2 a3 a2) from ge123_0);clear hv123_0 ge123_0;have cr:=Aside0.mk ab;clear hcc123 hce123;(first|simp only [add_plain] at ab|simp only [add_at] at ab|simp only [Addr.add,Nat.zero_add] at ab|skip);have aB:=Aside0.mk hi123_0;have cs:=Aside0.mk hl123_0;clear hi123_0 hl123_0;replace ag:=eq_true ag;replace ah:=eq_true ah;have ao:0≤((a7):Int):=oda;have ap:(a7)<((rd_L2 a3 a2).length:Int):=oda;obtain ⟨ct,aU,bj⟩:=Kd.at_int (by repeat (first|(with_reducible exact aB.out)|(with_reducible refine Kd.C_alloc ?_ _)|(with_reducible refine Kd.C_drewN ?_ _)|(with_reducible refine Kd.C_drew ?_)|exact aB.out)) (a7) ao ap
                              cases aU
                              replace ao:=eq_true ao;replace ap:=eq_true ap;have b1:0≤(a2:Int):=oda;have b2:a2<(l0.length:Int):=oda;obtain ⟨ep,cH,eq⟩:=Kd.at_string (Kd.C_below bA.out HB.out) a2 b1 b2
                              cases cH
                              replace b1:=eq_true b1;replace b2:=eq_true b2;have b3:0≤(a4:Int):=oda;have b4:a4<(l1.length:Int):=oda;obtain ⟨er,cI,es⟩:=Kd.at_string (Kd.C_below bB.out HB.out) a4 b3 b4
                              cases cI
                              replace b3:=eq_true b3;replace b4:=eq_true b4;have dn:0≤(a2:Int):=oda;have dp:a2<(a3.length:Int):=oda;obtain ⟨fR,gE,gF,fS,bT,hl159_0,hi159_0⟩:=at_L2 (Kd.S_reads' a5.out).2.2 a2 dn dp
                              obtain rfl:(⟨a8,0,none⟩:Addr)=fR:=(by injection fS)
                              obtain ⟨ce159,hce159,hMe159,hcc159⟩:=Kd.S_get a5.out [] a2 dn (by first|exact dp|exact oda|(have e_:=(Kd.S_reads' a5.out).1;omega));obtain ⟨ve159_0,rfl,ge159_0⟩:=hMe159;have hv159_0:=hcc159 0 _ rfl
                              rw [Nat.add_zero,show ((Kd.slice 3 (Kd.int .i64))).sz=1 from rfl,Nat.mul_one] at hv159_0
                              replace hv159_0:=Option.some.inj (hv159_0.symm.trans bT)
                              rw [hv159_0] at ge159_0
                              have eG:=Aside0.mk (show Kd.R (Kd.int .i64) 3 _ _ _ _ (rd_L2 a3 a2) from ge159_0);clear hv159_0 ge159_0;have fT:=Aside0.mk bT;clear hcc159 hce159;(first|simp only [add_plain] at bT|simp only [add_at] at bT|simp only [Addr.add,Nat.zero_add] at bT|skip);have gG:=Aside0.mk hi159_0;have gH:=Aside0.mk hl159_0;clear hi159_0 hl159_0;replace dn:=eq_true dn;replace dp:=eq_true dp;have ea_:=Option.some.inj (ab.symm.trans bT)
                              injection ea_ with ea_ en_ ec_
                              subst ea_;subst ec_;clear en_;have p72:0≤(a4:Int):=oda;have q72:(a4:Int)<(((rd_L2 a3 a2).length:Int):Int):=oda;obtain ⟨go72,co72,eH,eI,gl72,cl72,HG72⟩:=Kd.R_form eG.out (by omega);(first|cases eH|(injection eH with ea_ en_ ec_;(first|subst ea_|(injection ea_ with ea_;subst ea_));subst ec_;clear en_));have fU:=Aside0.mk eI;have GG72:=Aside0.mk HG72;clear eI gl72 HG72;(first|simp only [add_plain] at bj|skip);obtain ⟨gI,hf72_0⟩:=Kd.R_celln 0 eG.out (a4:Int) p72 q72;replace p72:=eq_true p72;replace q72:=eq_true q72
                              have hq73:(a2:Int)<(a3.length:Int):=(by have h_:(a2:Int)<((a3.length:Int):Int):=oda;first|exact h_|(have e_:=(Kd.S_reads' a5.out).1;omega)|simpa only [List.length_set,List.length_set] using h_)
                              obtain ⟨oki73,ce73,hcl73,hM73,hcc73,hok73,hbk73⟩:=Kd.S_borrow a5.out [] (a2:Int) (oda) hq73;obtain ⟨ve73_0,rfl,ge73_0⟩:=hM73;have hv73:=hcc73 0 _ rfl
                              rw [Nat.add_zero,show ((Kd.slice 3 (Kd.int .i64))).sz=1 from rfl,Nat.mul_one] at hv73
                              replace hv73:=Option.some.inj (hv73.symm.trans fT.out);subst hv73;clear hcc73 hcl73
                              replace ge73_0:=(show Kd.R (Kd.int .i64) 3 _ _ _ _ (rd_L2 a3 a2) from ge73_0)
                              have eJ:=Kd.R_putg ge73_0 (a4:Int) (rd (rd_L2 a3 (a6)) a4)
                              go_wp2
                              repeat (go_quiet (fail);try go_wp2)
                              (try simp only [←hl5_2])
                              go_roundg k2
                              case measure=>have:=HK1.out;have:=HK2.out;omega
                              case rel=>exact ⟨(eF),(wrap64 (a4 - 1)),Ye1,H',⟨by have:=HK1.out;have:=HK2.out;omega⟩,⟨by (try simp only [hl5_1]);(try simp only [hl5_2]);rw [fQ.out,fP.out];exact Kd.S_drewN (hbk73 eJ.2 (fun k_ e_=>by cases e_;exact ge73_0.1 _ rfl) ⟨_,rfl,eJ.1⟩) nq⟩,⟨below_set (pw_below_drewN HB.out _) fU.out⟩⟩
                             ·rw [if_neg dm] at H
                              exact absurd H (by simp)
                           ·rw [if_neg dc] at H
                            exact absurd H (by simp)
                          ·rw [if_neg db] at H
                           exact absurd H (by simp)
                        ·rw [if_neg cW] at H
                         exact absurd H (by simp)
                       ·rw [if_neg cV] at H
                        exact absurd H (by simp)
                      ·rw [if_neg cU] at H
                       exact absurd H (by simp)
                     ·rw [if_neg cT] at H
                      exact absurd H (by simp)
                    ·rw [if_neg cS] at H
                     exact absurd H (by simp)
                   ·rw [if_neg cR] at H
                    exact absurd H (by simp)
                  ·rw [if_neg cQ] at H
                   exact absurd H (by simp)
                 ·rw [if_neg cP] at H
                  exact absurd H (by simp)
                ·rw [if_neg bI] at H
                 have eS:decide (0≤a4)=false:=decide_eq_false bI;clear bI;have H':=Aside0.mk H;clear H
                 go_wp2
                 repeat (go_quiet (fail);try go_wp2)
                 (try simp only [←hl5_1,←hl5_2])
                 go_roundg k2
                 case measure=>have:=HK1.out;have:=HK2.out;omega
                 case rel=>exact ⟨(a3),(wrap64 (a2 - 1)),Ye1,H',⟨by have:=HK1.out;have:=HK2.out;omega⟩,⟨by (try simp only [hl5_1]);(try simp only [hl5_2]);(with_reducible repeat (first|apply Kd.S_alloc|apply Kd.S_drewN|apply Kd.S_drew));exact a5.out⟩,⟨be HB.out⟩⟩
             ·rw [if_neg cc] at H
              exact absurd H (by simp)
            ·rw [if_neg ca] at H
             exact absurd H (by simp)
           ·rw [if_neg bF] at H
            exact absurd H (by simp)
          ·rw [if_neg bE] at H
           exact absurd H (by simp)
         ·rw [if_neg bn] at H
          have dT:decide (0≤a2)=false:=decide_eq_false bn;clear bn;obtain rfl:=Option.some.inj H
          go_wp2
          repeat (go_quiet (fail);try go_wp2)
          go_ret
          exact ⟨_,by first|rfl|(simp [errW_none,errW_some] <;> rfl)|(simp only [←cO,←bV];first|rfl|(simp [errW_none,errW_some] <;> rfl))|(simp [*,errW_none,errW_some] <;> rfl),by (with_reducible repeat (first|apply Kd.S_alloc|apply Kd.S_drewN|apply Kd.S_drew));exact a5.out,be HB.out⟩
      ·rw [if_neg c10] at H
       exact absurd H (by simp)
     ·rw [if_neg c9] at H
      exact absurd H (by simp)
    ·rw [if_neg c8] at H
     exact absurd H (by simp)
   ·rw [if_neg c7] at H
    exact absurd H (by simp)
  ·rw [if_neg c5] at H
   exact absurd H (by simp)
 ·rw [if_neg c4] at H
  exact absurd H (by simp)

end Go.Proofs.YtkmfnmeilooogaaDoor.P


namespace Go.Proofs.YtkmfnmeilooogaaDoor.P
open Go.RowKit Go.Proofs.YtkmfnmeilooogaaDoorW.PrintWords Go.Proofs.YtkmfnmeilooogaaDoorW.PrintLast Go.Proofs.YtkmfnmeilooogaaDoorW.PrintMore
attribute [local go_sem] max2_int min2_int max_two min_two max_three min_three max_four min_four
set_option linter.unusedVariables false
set_option linter.unusedSimpArgs false

mutual
def spec_Common.j0:Nat→List ByteArray→List ByteArray→List (S63)→Bool→Option ((List (S63)))
 | 0,_,_,_,_=>none
 | k+1,x0,x1,x5,x18=>if x18=true then (some x5) else ((spec_l7Table.f k x0 x1).bind fun a3=>(spec_Common.l0 k x0 x1 x5 a3 0 0))
def spec_Common.l0:Nat→List ByteArray→List ByteArray→List (S63)→List (List Int)→Int→Int→Option ((List (S63)))
 | 0,_,_,_,_,_,_=>none
 | k+1,x0,x1,x5,x6,x7,x8=>if 0≤x7 then (if x7<(x6.length:Int) then (if 0≤x8 then (if x8<((rd_L2 x6 x7).length:Int) then (if (rd (rd_L2 x6 x7) x8)>0 then ((spec_l7First.f k x0 x1 x6 x7 x8).bind fun bt184=>(if x5.length<8796093022208 then (spec_Common.l0 k x0 x1 (x5 ++ [(⟨bt184.1,bt184.2⟩:S63)]) x6 (wrap64 (bt184.1+1)) (wrap64 (bt184.2+1))) else (none))) else (some x5)) else (none)) else (none)) else (none)) else (none)
end
def spec_Common.f (k:Nat) (l0:List ByteArray) (l1:List ByteArray):Option ((List (S63))):=(some (([]:List (S63)):List (S63))).bind fun a7=>(if (l0.length:Int)>1500 then (spec_Common.j0 k l0 l1 a7 true) else (spec_Common.j0 k l0 l1 a7 (decide ((l1.length:Int)>1500))))
theorem spec_Common.mono_l:∀ k,(∀ y0 y1 y2 y3,LeO (spec_Common.j0 k y0 y1 y2 y3) (spec_Common.j0 (k+1) y0 y1 y2 y3))∧(∀ y0 y1 y2 y3 y4 y5,LeO (spec_Common.l0 k y0 y1 y2 y3 y4 y5) (spec_Common.l0 (k+1) y0 y1 y2 y3 y4 y5))
 | 0=>⟨fun _ _ _ _ r h=>by simp [spec_Common.j0] at h,fun _ _ _ _ _ _ r h=>by simp [spec_Common.l0] at h⟩
 | k + 1 => by
  obtain ⟨ih0,ih1⟩:=spec_Common.mono_l k;refine ⟨?_,?_⟩
  ·intro y0 y1 y2 y3
   unfold spec_Common.j0
   repeat' first
   | (with_reducible exact ih0 _ _ _ _)
   | (with_reducible exact ih1 _ _ _ _ _ _)
   | (with_reducible exact spec_l7First.mono _ _ _ _ _ _)
   | (with_reducible exact spec_l7Table.mono _ _ _)
   | (with_reducible exact LeO.refl _)
   | (with_reducible exact LeO.none _)
   | (with_reducible refine LeO.ite ?_ ?_)
   | (with_reducible refine LeO.bind ?_ (fun _ => ?_))
   | exact ih0 _ _ _ _
   | exact ih1 _ _ _ _ _ _
   | exact spec_l7First.mono _ _ _ _ _ _
   | exact spec_l7Table.mono _ _ _
   | exact LeO.none _
   | refine LeO.ite ?_ ?_
   | refine LeO.bind ?_ (fun _ => ?_)
  ·intro y0 y1 y2 y3 y4 y5
   unfold spec_Common.l0
   repeat' first
   | (with_reducible exact ih0 _ _ _ _)
   | (with_reducible exact ih1 _ _ _ _ _ _)
   | (with_reducible exact spec_l7First.mono _ _ _ _ _ _)
   | (with_reducible exact spec_l7Table.mono _ _ _)
   | (with_reducible exact LeO.refl _)
   | (with_reducible exact LeO.none _)
   | (with_reducible refine LeO.ite ?_ ?_)
   | (with_reducible refine LeO.bind ?_ (fun _ => ?_))
   | exact ih0 _ _ _ _
   | exact ih1 _ _ _ _ _ _
   | exact spec_l7First.mono _ _ _ _ _ _
   | exact spec_l7Table.mono _ _ _
   | exact LeO.none _
   | refine LeO.ite ?_ ?_
   | refine LeO.bind ?_ (fun _ => ?_)
theorem spec_Common.mono:∀ a0 a1 k,LeO (spec_Common.f k a0 a1) (spec_Common.f (k+1) a0 a1):=by
 intro a0 a1 k;obtain ⟨ih0,ih1⟩:=spec_Common.mono_l k
 unfold spec_Common.f
 repeat' first
   | (with_reducible exact ih0 _ _ _ _)
   | (with_reducible exact ih1 _ _ _ _ _ _)
   | (with_reducible exact spec_l7First.mono _ _ _ _ _ _)
   | (with_reducible exact spec_l7Table.mono _ _ _)
   | (with_reducible exact LeO.refl _)
   | (with_reducible exact LeO.none _)
   | (with_reducible refine LeO.ite ?_ ?_)
   | (with_reducible refine LeO.bind ?_ (fun _ => ?_))
   | exact ih0 _ _ _ _
   | exact ih1 _ _ _ _ _ _
   | exact spec_l7First.mono _ _ _ _ _ _
   | exact spec_l7Table.mono _ _ _
   | exact LeO.none _
   | refine LeO.ite ?_ ?_
   | refine LeO.bind ?_ (fun _ => ?_)
set_option maxHeartbeats 8000000 in
set_option maxRecDepth 100000 in
theorem spec_Common.calls (k : Nat) (A0 : Option Addr) (c0 : Nat) (l0 : List ByteArray) (A1 : Option Addr) (c1 : Nat) (l1 : List ByteArray) (r : List (S63)) (w : World) (hr0 : Kd.C Kd.string w A0 l0.length l0) (hc0 : l0.length ≤ c0) (hr1 : Kd.C Kd.string w A1 l1.length l1) (hc1 : l1.length ≤ c1) (h : spec_Common.f k l0 l1 = some r) :
  Calls Tryd.prog 25 #[.slice A0 l0.length c0,.slice A1 l1.length c1] w fun e w' => ∃ v0_:Value,e = .returned (v0_)∧Kd.R k63 63 w' w.heap.size (fun _=>True) v0_ r∧Below w.heap.size w w':=by
 have hu63:=Tryd.underlying63;have HR0:=Aside0.mk hr0;have HC0:=Aside0.mk hc0;clear hr0 hc0;have HR1:=Aside0.mk hr1;have HC1:=Aside0.mk hc1;clear hr1 hc1;have HB:=Aside0.mk (Below.refl w.heap.size w);have H:((some (([]:List (S63)):List (S63))).bind fun a7=>(if (l0.length:Int)>1500 then (spec_Common.j0 k l0 l1 a7 true) else (spec_Common.j0 k l0 l1 a7 (decide ((l1.length:Int)>1500)))))=some r:=h;clear h
 obtain ⟨a7,am⟩:∃ y_:List (S63),y_=(([]:List (S63))):=⟨_,rfl⟩
 replace H:(if (l0.length:Int)>1500 then (spec_Common.j0 k l0 l1 a7 true) else (spec_Common.j0 k l0 l1 a7 (decide ((l1.length:Int)>1500))))=some r:=by first|(rw [am];with_reducible exact H)|(have H2_:=(Option.bind_some _ _).symm.trans H;rw [am];with_reducible exact H2_)|(have H2_:=(Option.bind_some _ _).symm.trans H;with_reducible exact H2_)|with_reducible exact H|(rw [am];exact H)|exact H
 have aA:=Aside0.mk am;clear am;have av:=Aside0.mk H;clear H
 go_enter Tryd.func25,Tryd.ntmps25
 go_upto_region 2 with (first|((with_reducible refine gd 10 rfl ?_);(try (refine gate_guard (by rfl) ?_;dsimp only));refine Kd.R_lit k63 _ 63 ?hg (N:=10) ?hd (xs:=([]:List (S63))) (inner:=[]) (ok:=fun _=>True) (okp:=fun _=>True) ?hr ?hp (fun _ hk=>hk) trivial (Below.refl _ _) (Nat.le_refl _) (by simp) ?_;(case hd=>rfl);(case hg=>rfl);(case hr=>first|(go_simp;done)|(go_simp;rfl));(case hp=>exact (Reps.none _ _));intro aH w4 ho5 hb hg_ hnew_;clear hg_ hnew_;(first|rw [←aA.out] at ho5|(simp only [Int.reduceToNat] at ho5;rw [←aA.out] at ho5));refine Ya2 (Kd.R_lower ho5 (below_size (be HB.out))) (below_step (be HB.out) hb) ?_;clear HB;intro aC HB;clear hb ho5))
 (try simp only [Act.put,List.setIfInBounds_toArray,List.set_cons_zero,List.set_cons_succ])
 go_cut [18] (fun v18 wc => ∃ (kq:Nat) (ao:Bool),v18 = .bool ao∧Aside0 (spec_Common.j0 kq l0 l1 a7 ao=some r)∧Aside0 (kq≤k)∧Aside0 (Kd.R k63 63 wc w.heap.size (fun _=>True) aH a7)∧Aside0 (Below w.heap.size w wc))
 case first =>
  have H:=av.out;clear av
  by_cases c6:(l0.length:Int)>1500
  ·rw [if_pos c6] at H
   have ah:decide (1500<(l0.length:Int))=true:=decide_eq_true c6;have aw:decide (1500<l0.length)=true:=decide_eq_true (by omega);clear c6;(first|rw [ah]|(simp only [i64_w,i32_w];rw [ah])|skip);have H':=Aside0.mk H;clear H
   go_wp2
   go_meet
   case rel=>exact ⟨_,(true),Ye1,H',⟨by first|omega|exact Nat.le_refl _⟩,⟨kr aC.out⟩,⟨be HB.out⟩⟩
  ·rw [if_neg c6] at H
   have ah:decide (1500<(l0.length:Int))=false:=decide_eq_false c6;have aw:decide (1500<l0.length)=false:=decide_eq_false (by omega);clear c6;(first|rw [ah]|(simp only [i64_w,i32_w];rw [ah])|skip);have H':=Aside0.mk H;clear H
   go_wp2
   go_meet
   case rel=>exact ⟨_,(decide ((l1.length:Int)>1500)),Ye1,H',⟨by first|omega|exact Nat.le_refl _⟩,⟨kr aC.out⟩,⟨be HB.out⟩⟩
 case rest =>
  clear av;(try clear c1);(try clear c2);(try clear p2);(try clear c6);(try clear ah);(try clear aw);obtain ⟨kq,ao,rfl,HA,HJ2,a5,HB⟩:=hcut
  cases kq with
  | zero=>exact absurd HA.out (by simp [spec_Common.j0])
  | succ ak =>
   have H:=HA.out;clear HA;simp only [spec_Common.j0] at H
   by_cases c7:ao=true
   ·subst c7
    have H1:(some a7)=some r:=by rw [if_pos rfl] at H;exact H
    clear H;have H:=H1;clear H1;obtain rfl:=Option.some.inj H
    go_wp2
    go_ret
    exact ⟨_,Ye2,kr a5.out,be HB.out⟩
   ·replace c7 := Bool.eq_false_iff.mpr c7; subst c7
    have H1:((spec_l7Table.f ak l0 l1).bind fun a3=>(spec_Common.l0 ak l0 l1 a7 a3 0 0))=some r:=by rw [if_neg (show ¬(false=true) by decide)] at H;exact H
    clear H;have H:=H1;clear H1;replace H:=Option.bind_eq_some_iff.mp H;obtain ⟨a3,A80,H⟩:=H;replace H:(spec_Common.l0 ak l0 l1 a7 a3 0 0)=some r:=H;have A8:=Aside0.mk A80;clear A80;have H':=Aside0.mk H;clear H
    go_wp2_with (first|((with_reducible refine gc 61 rfl ?_);refine gl (some 22) _ (#[.slice A0 l0.length c0,.slice A1 l1.length c1]) Tryd.func61 ?_;(with_reducible refine (spec_l7Table.calls ak _ _ l0 _ _ l1 a3 _ ?side1 ?side2 ?side3 ?side4 A8.out).mono ?_);(case side1=>exact cb (Kd.C_below HR0.out HB.out));(case side2=>exact HC0.out);(case side3=>exact cb (Kd.C_below HR1.out HB.out));(case side4=>exact HC1.out);rintro e w9 ⟨aI,rfl,ho0,hb⟩;refine ⟨_,rfl,?_⟩;refine Ya3 (Kd.R_below (kr a5.out) hb) (Kd.S_lower ho0 (below_size (be HB.out))) (below_step (be HB.out) hb) ?_;clear a5 HB;intro a5 aJ HB;(try clear hb);(try clear hb2);(try clear hk);(try clear hi);(try clear ho0)))
    go_loopg [5,7,8] ak (fun kq v5 v7 v8 w' => ∃ (af:List (S63)) (a2:Int) (a6:Int),v7 = .int .i64 a2∧v8 = .int .i64 a6∧Aside0 (spec_Common.l0 kq l0 l1 af a3 a2 a6=some r)∧Aside0 (kq≤ak)∧Aside0 (Kd.R k63 63 w' w.heap.size (fun _=>True) v5 af)∧Aside0 (Kd.S (Kd.slice 3 (Kd.int .i64)) 101 w' w.heap.size (fun _=>True) aI a3)∧Aside0 (Below w.heap.size w w'))
    case atStart=>exact ⟨(a7),(0),(0),Ye1,Ye1,H',⟨Nat.le_refl _⟩,⟨kr a5.out⟩,⟨by (with_reducible repeat (first|apply Kd.S_alloc|apply Kd.S_drewN|apply Kd.S_drew));exact aJ.out⟩,⟨be HB.out⟩⟩
    case round =>
     clear H';(try clear c1);(try clear c2);(try clear p2);(try clear c6);(try clear ah);(try clear aw);(try clear c7);(try clear p2);obtain ⟨af,a2,a6,rfl,rfl,HA,HK2,a5,a4,HB⟩:=hrel
     cases gk with
     | zero=>exact absurd HA.out (by simp [spec_Common.l0])
     | succ k2 =>
      have H:=HA.out;clear HA;simp only [spec_Common.l0] at H
      by_cases c10:0≤a2
      ·rw [if_pos c10] at H
       have c10b0:decide (0≤a2)=true:=decide_eq_true c10;clear c10
       by_cases ap:a2<(a3.length:Int)
       ·rw [if_pos ap] at H
        have c11b0:decide (a2<(a3.length:Int))=true:=decide_eq_true ap;clear ap
        by_cases aq:0≤a6
        ·rw [if_pos aq] at H
         have c12b0:decide (0≤a6)=true:=decide_eq_true aq;clear aq
         by_cases ar:a6<((rd_L2 a3 a2).length:Int)
         ·rw [if_pos ar] at H
          have c13b0:decide (a6<((rd_L2 a3 a2).length:Int))=true:=decide_eq_true ar;clear ar
          by_cases al:(rd (rd_L2 a3 a2) a6)>0
          ·rw [if_pos al] at H
           have aK:decide (0<(rd (rd_L2 a3 a2) a6))=true:=decide_eq_true al;clear al;replace H:=Option.bind_eq_some_iff.mp H;obtain ⟨⟨a8,a9⟩,aD,H⟩:=H;replace H:(if af.length<8796093022208 then (spec_Common.l0 k2 l0 l1 (af ++ [(⟨a8,a9⟩:S63)]) a3 (wrap64 (a8+1)) (wrap64 (a9+1))) else (none))=some r:=H;have A15:=Aside0.mk aD;clear aD
           by_cases au:af.length<8796093022208
           ·rw [if_pos au] at H
            have aM:=Aside0.mk au;clear au
            obtain ⟨aE,an⟩:∃ y_:List (S63),y_=(af ++ [(⟨a8,a9⟩:S63)]):=⟨_,rfl⟩
            replace H:(spec_Common.l0 k2 l0 l1 aE a3 (wrap64 (a8+1)) (wrap64 (a9+1)))=some r:=by first|(rw [an];with_reducible exact H)|(have H2_:=(Option.bind_some _ _).symm.trans H;rw [an];with_reducible exact H2_)|(have H2_:=(Option.bind_some _ _).symm.trans H;with_reducible exact H2_)|with_reducible exact H|(rw [an];exact H)|exact H
            have aN:=Aside0.mk an;clear an;have H':=Aside0.mk H;clear H;obtain ⟨Ao17,aQ,aR⟩:=Kd.S_slice a4.out;subst aR;have ac:0≤(a2:Int):=oda;have ad:a2<(a3.length:Int):=oda;obtain ⟨aG,aT,aU,ax,ay,hl182_0,hi182_0⟩:=at_L2 (Kd.S_reads' a4.out).2.2 a2 ac ad
            cases ax
            obtain ⟨ce182,hce182,hMe182,hcc182⟩:=Kd.S_get a4.out [] a2 ac (by first|exact ad|exact oda|(have e_:=(Kd.S_reads' a4.out).1;omega));obtain ⟨ve182_0,rfl,ge182_0⟩:=hMe182;have hv182_0:=hcc182 0 _ rfl
            rw [Nat.add_zero,show ((Kd.slice 3 (Kd.int .i64))).sz=1 from rfl,Nat.mul_one] at hv182_0
            replace hv182_0:=Option.some.inj (hv182_0.symm.trans ay)
            rw [hv182_0] at ge182_0
            have ab:=Aside0.mk (show Kd.R (Kd.int .i64) 3 _ _ _ _ (rd_L2 a3 a2) from ge182_0);clear hv182_0 ge182_0;clear hcc182 hce182;have aa:=Aside0.mk hi182_0;have aV:=Aside0.mk hl182_0;clear hi182_0 hl182_0;replace ac:=eq_true ac;replace ad:=eq_true ad;have ai:0≤(a6:Int):=oda;have aj:a6<((rd_L2 a3 a2).length:Int):=oda;obtain ⟨aW,az,aX⟩:=Kd.at_int (by repeat (first|(with_reducible exact aa.out)|(with_reducible refine Kd.C_alloc ?_ _)|(with_reducible refine Kd.C_drewN ?_ _)|(with_reducible refine Kd.C_drew ?_)|exact aa.out)) a6 ai aj
            cases az
            replace ai:=eq_true ai;replace aj:=eq_true aj
            go_wp2_with (first|((with_reducible refine gc 62 rfl ?_);refine gl (some 36) _ (#[.slice A0 l0.length c0,.slice A1 l1.length c1,.slice (some aG) a3.length aQ,.int .i64 a2,.int .i64 a6]) Tryd.func62 ?_;(with_reducible refine (spec_l7First.calls k2 _ _ l0 _ _ l1 _ _ a3 a2 a6 a8 a9 _ ?side1 ?side2 ?side3 ?side4 ?side5 ?side6 A15.out).mono ?_);(case side1=>exact cb (Kd.C_below HR0.out HB.out));(case side2=>exact HC0.out);(case side3=>exact cb (Kd.C_below HR1.out HB.out));(case side4=>exact HC1.out);(case side5=>repeat (first|exact (Kd.S_reads' a4.out).2.2|(with_reducible refine Kd.C_alloc ?_ _)|(with_reducible refine Kd.C_drewN ?_ _)|(with_reducible refine Kd.C_drew ?_)));(case side6=>exact (Kd.S_reads' a4.out).2.1);rintro e w18 ⟨rfl,hb⟩;refine ⟨_,rfl,?_⟩;refine Ya5 (Kd.R_below (kr a5.out) hb) (Kd.S_below (by (with_reducible repeat (first|apply Kd.S_alloc|apply Kd.S_drewN|apply Kd.S_drew));exact a4.out) hb) (Kd.R_below (kr ab.out) hb) (Kd.C_below (by repeat (first|(with_reducible exact aa.out)|(with_reducible refine Kd.C_alloc ?_ _)|(with_reducible refine Kd.C_drewN ?_ _)|(with_reducible refine Kd.C_drew ?_)|exact aa.out)) hb) (below_step (be HB.out) hb) ?_;clear a5 a4 ab aa HB;intro a5 a4 ab aa HB;(try clear hb);(try clear hb2);(try clear hk);(try clear hi))|((with_reducible refine gd 9 rfl ?_);(try (refine gate_guard (by rfl) ?_;dsimp only));refine bx 9 63 (#[.int .i64 0,.int .i64 0]) ?_;intro ae hg w19 hbox hb;refine Ya8 (Kd.R_below (Kd.R_elderB (kr a5.out) ae (Nat.le_of_eq hg.symm)) hb) (Kd.S_below (by (with_reducible repeat (first|apply Kd.S_alloc|apply Kd.S_drewN|apply Kd.S_drew));exact a4.out) hb) (Kd.R_below (kr ab.out) hb) (Kd.C_below (by repeat (first|(with_reducible exact aa.out)|(with_reducible refine Kd.C_alloc ?_ _)|(with_reducible refine Kd.C_drewN ?_ _)|(with_reducible refine Kd.C_drew ?_)|exact aa.out)) hb) (below_step (be HB.out) hb) (hbox) (bs hg (be HB.out)) (bs hg (be HB.out)) ?_;clear a5 a4 ab aa HB;intro a5 a4 ab aa HB ag GW186 GE186;clear hb hbox hg;have ⟨b0,b1,b2,b3⟩:=Yc2 ag.out)|((with_reducible refine gate_builtin (b:=.append) (xs:=#[.tmp 37,.tmp 39]) rfl ?_);(try (refine gate_guard (by rfl) ?_;dsimp only));at_builtin;refine Kd.R_append k63 (w0:=w) w.heap.size rfl (.tmp 37) (.tmp 39) 57 63 (.agg #[(.int .i64 0),(.int .i64 0)]) 16 rfl Tryd.underlying57 info63 rfl (by decide) (by omega) u5 af (⟨a8,a9⟩:S63) [.int .i64 a8,.int .i64 a9] (fun k_=>k_≠ae) (fun _=>False) rfl (by first|(go_simp;done)|(go_simp;rfl)) ?aP (fun _ hk=>hk.elim) ?aF ?aO ?aB ?aS ?aL ?_;(case aP=>exact k63_mkM _ _ _ (⟨a8,a9⟩:S63));(case aB=>exact (bf HB.out));(case aF=>exact (fun k_ hk=>Kd.freshB (g:=ae) (o:=.cells #[.int .i64 a8,.int .i64 a9] 63 (0,0)) (bp ag.out) k_ hk));(case aO=>exact (by (with_reducible repeat (first|apply Kd.R_alloc|apply Kd.R_drewN|apply Kd.R_drew));exact Kd.R_mono (Kd.R_far (p:=⟨ae,1,none⟩) (Kd.R_far (p:=⟨ae,0,none⟩) (Kd.R_mono a5.out (fun k_ hk=>(⟨hk,hk.2⟩:_∧k_≠ae))) (fun _ hk=>hk.2) (.int .i64 a8)) (fun _ hk=>hk.2) (.int .i64 a9)) (fun _ hk=>hk.1.2)));(case aS=>exact (below_size (bf HB.out)));(case aL=>have:=aM.out;omega);intro v188 w21 ho hb hg hat;rw [←aN.out] at ho;refine Ya5 (Kd.S_over' (by (with_reducible repeat (first|apply Kd.S_alloc|apply Kd.S_drewN|apply Kd.S_drew));exact (Kd.S_mono (Kd.S_far (p:=⟨ae,1,none⟩) (Kd.S_far (p:=⟨ae,0,none⟩) (Kd.S_types a4.out ag.out (by decide)) (fun _ hk=>hk.2) (.int .i64 a8)) (fun _ hk=>hk.2) (.int .i64 a9)) (fun _ h_=>h_.1))) (Kd.R_typed (rp a5.out (fun k_ hk=>hk.2))) (by decide) hg) (Kd.R_over' (rf ab ag) (Kd.R_typed (rp a5.out (fun k_ hk=>hk.2))) (by decide) hg) (blk_grown (g:=ae) (o:=.cells #[.int .i64 a8,.int .i64 a9] 63 (0,0)) (bp ag.out) hg (Kd.R_away a5.out (fun _ hk=>hk.2))) (hb) (ho) ?_;clear a4 ab ag HB a5;intro a4 ab ag HB aY;clear ho hb hg hat;have ⟨b4,b5,b6,b7⟩:=Yc2 ag.out))
            go_roundg k2
            case measure=>have:=HJ2.out;have:=HK2.out;omega
            case rel=>exact ⟨(aE),(wrap64 (a8+1)),(wrap64 (a9+1)),Ye1,Ye1,H',⟨by have:=HJ2.out;have:=HK2.out;omega⟩,⟨by (with_reducible repeat (first|apply Kd.R_alloc|apply Kd.R_drewN|apply Kd.R_drew));exact Kd.R_mono aY.out (fun _ hk=>trivial)⟩,⟨by (with_reducible repeat (first|apply Kd.S_alloc|apply Kd.S_drewN|apply Kd.S_drew));exact a4.out⟩,⟨bf HB.out⟩⟩
           ·rw [if_neg au] at H
            exact absurd H (by simp)
          ·rw [if_neg al] at H
           have aK:decide (0<(rd (rd_L2 a3 a2) a6))=false:=decide_eq_false al;clear al;obtain rfl:=Option.some.inj H;obtain ⟨Ao23,co23,aZ⟩:=Kd.S_slice a4.out;subst aZ;have ac:0≤(a2:Int):=oda;have ad:a2<(a3.length:Int):=oda;obtain ⟨aG,aT,aU,ax,ay,hl182_0,hi182_0⟩:=at_L2 (Kd.S_reads' a4.out).2.2 a2 ac ad
           cases ax
           obtain ⟨ce182,hce182,hMe182,hcc182⟩:=Kd.S_get a4.out [] a2 ac (by first|exact ad|exact oda|(have e_:=(Kd.S_reads' a4.out).1;omega));obtain ⟨ve182_0,rfl,ge182_0⟩:=hMe182;have hv182_0:=hcc182 0 _ rfl
           rw [Nat.add_zero,show ((Kd.slice 3 (Kd.int .i64))).sz=1 from rfl,Nat.mul_one] at hv182_0
           replace hv182_0:=Option.some.inj (hv182_0.symm.trans ay)
           rw [hv182_0] at ge182_0
           have ab:=Aside0.mk (show Kd.R (Kd.int .i64) 3 _ _ _ _ (rd_L2 a3 a2) from ge182_0);clear hv182_0 ge182_0;clear hcc182 hce182;have aa:=Aside0.mk hi182_0;have aV:=Aside0.mk hl182_0;clear hi182_0 hl182_0;replace ac:=eq_true ac;replace ad:=eq_true ad;have ai:0≤(a6:Int):=oda;have aj:a6<((rd_L2 a3 a2).length:Int):=oda;obtain ⟨aW,az,aX⟩:=Kd.at_int (by repeat (first|(with_reducible exact aa.out)|(with_reducible refine Kd.C_alloc ?_ _)|(with_reducible refine Kd.C_drewN ?_ _)|(with_reducible refine Kd.C_drew ?_)|exact aa.out)) a6 ai aj
           cases az
           replace ai:=eq_true ai;replace aj:=eq_true aj
           go_wp2
           go_ret
           exact ⟨_,Ye2,kr a5.out,be HB.out⟩
         ·rw [if_neg ar] at H
          exact absurd H (by simp)
        ·rw [if_neg aq] at H
         exact absurd H (by simp)
       ·rw [if_neg ap] at H
        exact absurd H (by simp)
      ·rw [if_neg c10] at H
       exact absurd H (by simp)

end Go.Proofs.YtkmfnmeilooogaaDoor.P


namespace Go.Proofs.YtkmfnmeilooogaaDoor.P
open Go.RowKit Go.Proofs.YtkmfnmeilooogaaDoorW.PrintWords Go.Proofs.YtkmfnmeilooogaaDoorW.PrintLast Go.Proofs.YtkmfnmeilooogaaDoorW.PrintMore
attribute [local go_sem] max2_int min2_int max_two min_two max_three min_three max_four min_four
set_option linter.unusedVariables false
set_option linter.unusedSimpArgs false

def spec_Lines.l0:Nat→ByteArray→List ByteArray→Int→Int→Option (List ByteArray)
 | 0,_,_,_,_=>none
 | k+1,x0,x3,x4,x5=>if x5<(x0.size:Int) then (if 0≤x5 then (if (bt x0 x5)=10 then (if 0≤x4 then (if x4≤(wrap64 (x5+1)) then (if (wrap64 (x5+1))≤(x0.size:Int) then (if x3.length<8796093022208 then (spec_Lines.l0 k x0 (x3 ++ [x0.extract (x4:Int).toNat ((wrap64 (x5+1)):Int).toNat]) (wrap64 (x5+1)) (wrap64 (x5+1))) else (none)) else (none)) else (none)) else (none)) else (spec_Lines.l0 k x0 x3 x4 (wrap64 (x5+1)))) else (none)) else (if x4<(x0.size:Int) then (if 0≤x4 then (if x4≤(x0.size:Int) then (if x3.length<8796093022208 then (some (x3 ++ [x0.extract (x4:Int).toNat x0.size])) else (none)) else (none)) else (none)) else (some x3))
def spec_Lines.f (k:Nat) (a0:ByteArray):Option (List ByteArray):=(some (([]:List ByteArray):List ByteArray)).bind fun a4=>(if (a0.size:Int)>1500 then (some a4) else (spec_Lines.l0 k a0 a4 0 0))
theorem spec_Lines.mono_l:∀ k,(∀ y0 y1 y2 y3,LeO (spec_Lines.l0 k y0 y1 y2 y3) (spec_Lines.l0 (k+1) y0 y1 y2 y3))
 | 0=>fun _ _ _ _ r h=>by simp [spec_Lines.l0] at h
 | k + 1 => by
  have ih0:=spec_Lines.mono_l k
  ·intro y0 y1 y2 y3
   unfold spec_Lines.l0
   repeat' first
   | (with_reducible exact ih0 _ _ _ _)
   | (with_reducible exact LeO.refl _)
   | (with_reducible exact LeO.none _)
   | (with_reducible refine LeO.ite ?_ ?_)
   | (with_reducible refine LeO.bind ?_ (fun _ => ?_))
   | exact ih0 _ _ _ _
   | exact LeO.none _
   | refine LeO.ite ?_ ?_
   | refine LeO.bind ?_ (fun _ => ?_)
theorem spec_Lines.mono:∀ a0 k,LeO (spec_Lines.f k a0) (spec_Lines.f (k+1) a0):=by
 intro a0 k;have ih0:=spec_Lines.mono_l k
 unfold spec_Lines.f
 repeat' first
   | (with_reducible exact ih0 _ _ _ _)
   | (with_reducible exact LeO.refl _)
   | (with_reducible exact LeO.none _)
   | (with_reducible refine LeO.ite ?_ ?_)
   | (with_reducible refine LeO.bind ?_ (fun _ => ?_))
   | exact ih0 _ _ _ _
   | exact LeO.none _
   | refine LeO.ite ?_ ?_
   | refine LeO.bind ?_ (fun _ => ?_)
set_option maxHeartbeats 8000000 in
set_option maxRecDepth 100000 in
theorem spec_Lines.calls (k : Nat) (a0 : ByteArray) (r : List ByteArray) (w : World) (h : spec_Lines.f k a0 = some r) :
  Calls Tryd.prog 24 #[.string a0] w fun e w' => ∃ v0_:Value,e = .returned (v0_)∧Kd.R Kd.string 9 w' w.heap.size (fun _=>True) v0_ r∧Below w.heap.size w w':=by
 have HB:=Aside0.mk (Below.refl w.heap.size w);have H:((some (([]:List ByteArray):List ByteArray)).bind fun a4=>(if (a0.size:Int)>1500 then (some a4) else (spec_Lines.l0 k a0 a4 0 0)))=some r:=h;clear h
 obtain ⟨a4,a7⟩:∃ y_:List ByteArray,y_=(([]:List ByteArray)):=⟨_,rfl⟩
 replace H:(if (a0.size:Int)>1500 then (some a4) else (spec_Lines.l0 k a0 a4 0 0))=some r:=by first|(rw [a7];with_reducible exact H)|(have H2_:=(Option.bind_some _ _).symm.trans H;rw [a7];with_reducible exact H2_)|(have H2_:=(Option.bind_some _ _).symm.trans H;with_reducible exact H2_)|with_reducible exact H|(rw [a7];exact H)|exact H
 have ad:=Aside0.mk a7;clear a7
 by_cases c2:(a0.size:Int)>1500
 ·rw [if_pos c2] at H
  have aj:decide (1500<(a0.size:Int))=true:=decide_eq_true c2;have ak:decide (1500<a0.size)=true:=decide_eq_true (by omega);clear c2;obtain rfl:=Option.some.inj H
  go_enter Tryd.func24,Tryd.ntmps24
  go_wp2_with (first|((with_reducible refine gd 6 rfl ?_);refine Kd.R_lit Kd.string _ 9 ?hg (N:=6) ?hd (xs:=([]:List ByteArray)) (inner:=[]) (ok:=fun _=>True) (okp:=fun _=>True) ?hr ?hp (fun _ hk=>hk) trivial (Below.refl _ _) (Nat.le_refl _) (by simp) ?_;(case hd=>rfl);(case hg=>rfl);(case hr=>first|(go_simp;done)|(go_simp;rfl));(case hp=>exact (Reps.none _ _));intro am w3 ho4 hb hg_ hnew_;clear hg_ hnew_;(first|rw [←ad.out] at ho4|(simp only [Int.reduceToNat] at ho4;rw [←ad.out] at ho4));refine Ya2 (Kd.R_lower ho4 (below_size (be HB.out))) (below_step (be HB.out) hb) ?_;clear HB;intro ai HB;clear hb ho4))
  go_ret
  exact ⟨_,Ye2,kr ai.out,be HB.out⟩
 ·rw [if_neg c2] at H
  have aj:decide (1500<(a0.size:Int))=false:=decide_eq_false c2;have ak:decide (1500<a0.size)=false:=decide_eq_false (by omega);clear c2;have H':=Aside0.mk H;clear H
  go_enter Tryd.func24,Tryd.ntmps24
  go_wp2_with (first|((with_reducible refine gd 6 rfl ?_);refine Kd.R_lit Kd.string _ 9 ?hg (N:=6) ?hd (xs:=([]:List ByteArray)) (inner:=[]) (ok:=fun _=>True) (okp:=fun _=>True) ?hr ?hp (fun _ hk=>hk) trivial (Below.refl _ _) (Nat.le_refl _) (by simp) ?_;(case hd=>rfl);(case hg=>rfl);(case hr=>first|(go_simp;done)|(go_simp;rfl));(case hp=>exact (Reps.none _ _));intro am w5 ho6 hb hg_ hnew_;clear hg_ hnew_;(first|rw [←ad.out] at ho6|(simp only [Int.reduceToNat] at ho6;rw [←ad.out] at ho6));refine Ya2 (Kd.R_lower ho6 (below_size (be HB.out))) (below_step (be HB.out) hb) ?_;clear HB;intro ai HB;clear hb ho6))
  go_loopg [3,4,5] k (fun kq v3 v4 v5 w' => ∃ (a3:List ByteArray) (a2:Int) (a1:Int),v4 = .int .i64 a2∧v5 = .int .i64 a1∧Aside0 (spec_Lines.l0 kq a0 a3 a2 a1=some r)∧Aside0 (kq≤k)∧Aside0 (Kd.R Kd.string 9 w' w.heap.size (fun _=>True) v3 a3)∧Aside0 (Below w.heap.size w w'))
  case atStart=>exact ⟨(a4),(0),(0),Ye1,Ye1,H',⟨Nat.le_refl _⟩,⟨kr ai.out⟩,⟨be HB.out⟩⟩
  case round =>
   clear H';(try clear c2);(try clear aj);(try clear ak);(try clear p2);obtain ⟨a3,a2,a1,rfl,rfl,HA,HK1,a5,HB⟩:=hrel
   cases gk with
   | zero=>exact absurd HA.out (by simp [spec_Lines.l0])
   | succ k1 =>
    have H:=HA.out;clear HA;simp only [spec_Lines.l0] at H
    by_cases c7:a1<(a0.size:Int)
    ·rw [if_pos c7] at H
     have an:decide (a1<(a0.size:Int))=true:=decide_eq_true c7;clear c7
     by_cases c8:0≤a1
     ·rw [if_pos c8] at H
      have c8b0:decide (0≤a1)=true:=decide_eq_true c8;clear c8
      by_cases c10:(bt a0 a1)=10
      ·rw [if_pos c10] at H
       have ao:((bt a0 a1)==10)=true:=beq_iff_eq.mpr c10;have ap:((bt a0 a1) != 10)=false:=bne_eq_false_iff_eq.mpr c10;clear c10
       by_cases a8:0≤a2
       ·rw [if_pos a8] at H
        have c11b0:=eq_true a8;have c11b1:decide (0≤a2)=true:=decide_eq_true a8;clear a8
        by_cases ae:a2≤(wrap64 (a1+1))
        ·rw [if_pos ae] at H
         have c12b0:=eq_true ae;have c12b1:decide (a2≤(wrap64 (a1+1)))=true:=decide_eq_true ae
         by_cases af:(wrap64 (a1+1))≤(a0.size:Int)
         ·rw [if_pos af] at H
          have c13b0:=eq_true af;have c13b1:decide ((wrap64 (a1+1))≤(a0.size:Int))=true:=decide_eq_true af
          by_cases ag:a3.length<8796093022208
          ·rw [if_pos ag] at H
           have aq:=Aside0.mk ag;clear ag
           obtain ⟨al,a9⟩:∃ y_:List ByteArray,y_=(a3 ++ [a0.extract (a2:Int).toNat ((wrap64 (a1+1)):Int).toNat]):=⟨_,rfl⟩
           replace H:(spec_Lines.l0 k1 a0 al (wrap64 (a1+1)) (wrap64 (a1+1)))=some r:=by first|(rw [a9];with_reducible exact H)|(have H2_:=(Option.bind_some _ _).symm.trans H;rw [a9];with_reducible exact H2_)|(have H2_:=(Option.bind_some _ _).symm.trans H;with_reducible exact H2_)|with_reducible exact H|(rw [a9];exact H)|exact H
           have ar:=Aside0.mk a9;clear a9;have H':=Aside0.mk H;clear H;have p9:0≤(a1:Int):=oda;have q9:a1<(a0.size:Int):=oda;have hx9:=bt_at a0 a1;replace p9:=eq_true p9;replace q9:=eq_true q9
           go_wp2_with (first|((with_reducible refine gate_builtin (b:=.append) (xs:=#[.tmp 21,.tmp 27]) rfl ?_);at_builtin;refine Kd.R_append Kd.string (w0:=w) w.heap.size rfl (.tmp 21) (.tmp 27) 29 9 (.string ⟨#[]⟩) 16 rfl Tryd.underlying29 info9 rfl (by decide) (by omega) u3 a3 (a0.extract (a2:Int).toNat ((wrap64 (a1+1)):Int).toNat) [.string (a0.extract (a2:Int).toNat ((wrap64 (a1+1)):Int).toNat)] (fun _=>True) (fun _=>False) rfl rfl ?aP (fun _ hk=>hk.elim) ?aF ?aO ?aB ?aS ?aL ?_;(case aP=>exact rfl);(case aB=>exact (be HB.out));(case aF=>exact (fun _ _=>trivial));(case aO=>exact (kr a5.out));(case aS=>exact (below_size (be HB.out)));(case aL=>have:=aq.out;omega);intro v105 w15 ho hb hg hat;rw [←ar.out] at ho;refine Ya2 (hb) (ho) ?_;clear HB a5;intro HB au;clear ho hb hg hat))
           go_roundg k1
           case measure=>have:=HK1.out;omega
           case rel=>exact ⟨(al),(wrap64 (a1+1)),(wrap64 (a1+1)),Ye1,Ye1,H',⟨by have:=HK1.out;omega⟩,⟨kr au.out⟩,⟨be HB.out⟩⟩
          ·rw [if_neg ag] at H
           exact absurd H (by simp)
         ·rw [if_neg af] at H
          exact absurd H (by simp)
        ·rw [if_neg ae] at H
         exact absurd H (by simp)
       ·rw [if_neg a8] at H
        exact absurd H (by simp)
      ·rw [if_neg c10] at H
       have ao:((bt a0 a1)==10)=false:=beq_eq_false_iff_ne.mpr c10;have ap:((bt a0 a1) != 10)=true:=bne_iff_ne.mpr c10;have H':=Aside0.mk H;clear H;have p9:0≤(a1:Int):=oda;have q9:a1<(a0.size:Int):=oda;have hx9:=bt_at a0 a1;replace p9:=eq_true p9;replace q9:=eq_true q9
       go_wp2
       go_roundg k1
       case measure=>have:=HK1.out;omega
       case rel=>exact ⟨(a3),(a2),(wrap64 (a1+1)),Ye1,Ye1,H',⟨by have:=HK1.out;omega⟩,⟨kr a5.out⟩,⟨be HB.out⟩⟩
     ·rw [if_neg c8] at H
      exact absurd H (by simp)
    ·rw [if_neg c7] at H
     have an:decide (a1<(a0.size:Int))=false:=decide_eq_false c7;clear c7
     by_cases a6:a2<(a0.size:Int)
     ·rw [if_pos a6] at H
      have av:decide (a2<(a0.size:Int))=true:=decide_eq_true a6;clear a6
      by_cases aa:0≤a2
      ·rw [if_pos aa] at H
       have c17b0:=eq_true aa;have c17b1:decide (0≤a2)=true:=decide_eq_true aa;clear aa
       by_cases ab:a2≤(a0.size:Int)
       ·rw [if_pos ab] at H
        have c18b0:=eq_true ab;have c18b1:decide (a2≤(a0.size:Int))=true:=decide_eq_true ab;clear ab
        by_cases ah:a3.length<8796093022208
        ·rw [if_pos ah] at H
         have aw:=Aside0.mk ah;clear ah
         obtain ⟨ax,ac⟩:∃ y_:List ByteArray,y_=(a3 ++ [a0.extract (a2:Int).toNat a0.size]):=⟨_,rfl⟩
         replace H:(some ax)=some r:=by first|(rw [ac];with_reducible exact H)|(have H2_:=(Option.bind_some _ _).symm.trans H;rw [ac];with_reducible exact H2_)|(have H2_:=(Option.bind_some _ _).symm.trans H;with_reducible exact H2_)|with_reducible exact H|(rw [ac];exact H)|exact H
         have ay:=Aside0.mk ac;clear ac;obtain rfl:=Option.some.inj H
         go_wp2_with (first|((with_reducible refine gate_builtin (b:=.append) (xs:=#[.tmp 35,.tmp 39]) rfl ?_);at_builtin;refine Kd.R_append Kd.string (w0:=w) w.heap.size rfl (.tmp 35) (.tmp 39) 29 9 (.string ⟨#[]⟩) 16 rfl Tryd.underlying29 info9 rfl (by decide) (by omega) u3 a3 (a0.extract (a2:Int).toNat a0.size) [.string (a0.extract (a2:Int).toNat a0.size)] (fun _=>True) (fun _=>False) rfl rfl ?aP (fun _ hk=>hk.elim) ?aF ?aO ?aB ?aS ?aL ?_;(case aP=>exact rfl);(case aB=>exact (be HB.out));(case aF=>exact (fun _ _=>trivial));(case aO=>exact (kr a5.out));(case aS=>exact (below_size (be HB.out)));(case aL=>have:=aw.out;omega);intro v108 w20 ho hb hg hat;rw [←ay.out] at ho;refine Ya2 (hb) (ho) ?_;clear HB a5;intro HB az;clear ho hb hg hat))
         go_ret
         exact ⟨_,Ye2,kr az.out,be HB.out⟩
        ·rw [if_neg ah] at H
         exact absurd H (by simp)
       ·rw [if_neg ab] at H
        exact absurd H (by simp)
      ·rw [if_neg aa] at H
       exact absurd H (by simp)
     ·rw [if_neg a6] at H
      have av:decide (a2<(a0.size:Int))=false:=decide_eq_false a6;clear a6;obtain rfl:=Option.some.inj H
      go_wp2
      go_ret
      exact ⟨_,Ye2,kr a5.out,be HB.out⟩

end Go.Proofs.YtkmfnmeilooogaaDoor.P


namespace Go.Proofs.YtkmfnmeilooogaaDoor.P
open Go.RowKit Go.Proofs.YtkmfnmeilooogaaDoorW.PrintWords Go.Proofs.YtkmfnmeilooogaaDoorW.PrintLast Go.Proofs.YtkmfnmeilooogaaDoorW.PrintMore
attribute [local go_sem] max2_int min2_int max_two min_two max_three min_three max_four min_four
set_option linter.unusedVariables false
set_option linter.unusedSimpArgs false

def spec_l7Text.l0:Nat→List ByteArray→List Int→Int→Option (ByteArray)
 | 0,_,_,_=>none
 | k+1,x0,x3,x4=>if x4<(x0.length:Int) then (if 0≤x4 then (if x3.length+(rdOf ByteArray.empty x0 x4).size<140737488355328 then (spec_l7Text.l0 k x0 (x3++bytesOf (rdOf ByteArray.empty x0 x4)) (wrap64 (x4+1))) else (none)) else (none)) else (some (strOfNums x3))
def spec_l7Text.f (k:Nat) (l0:List ByteArray):Option (ByteArray):=spec_l7Text.l0 k l0 (([]:List Int)) 0
theorem spec_l7Text.mono_l:∀ k,(∀ y0 y1 y2,LeO (spec_l7Text.l0 k y0 y1 y2) (spec_l7Text.l0 (k+1) y0 y1 y2))
 | 0=>fun _ _ _ r h=>by simp [spec_l7Text.l0] at h
 | k + 1 => by
  have ih0:=spec_l7Text.mono_l k
  ·intro y0 y1 y2
   unfold spec_l7Text.l0
   repeat' first
   | (with_reducible exact ih0 _ _ _)
   | (with_reducible exact LeO.refl _)
   | (with_reducible exact LeO.none _)
   | (with_reducible refine LeO.ite ?_ ?_)
   | (with_reducible refine LeO.bind ?_ (fun _ => ?_))
   | exact ih0 _ _ _
   | exact LeO.none _
   | refine LeO.ite ?_ ?_
   | refine LeO.bind ?_ (fun _ => ?_)
theorem spec_l7Text.mono:∀ a0 k,LeO (spec_l7Text.f k a0) (spec_l7Text.f (k+1) a0):=by
 intro a0 k;have ih0:=spec_l7Text.mono_l k
 unfold spec_l7Text.f
 repeat' first
   | (with_reducible exact ih0 _ _ _)
   | (with_reducible exact LeO.refl _)
   | (with_reducible exact LeO.none _)
   | (with_reducible refine LeO.ite ?_ ?_)
   | (with_reducible refine LeO.bind ?_ (fun _ => ?_))
   | exact ih0 _ _ _
   | exact LeO.none _
   | refine LeO.ite ?_ ?_
   | refine LeO.bind ?_ (fun _ => ?_)
set_option maxHeartbeats 8000000 in
set_option maxRecDepth 100000 in
theorem spec_l7Text.calls (k:Nat) (A0:Option Addr) (c0:Nat) (l0:List ByteArray) (r:ByteArray) (w:World) (hr0:Kd.C Kd.string w A0 l0.length l0) (hc0:l0.length≤c0) (h:spec_l7Text.f k l0=some r) :
  Calls Tryd.prog 63 #[.slice A0 l0.length c0] w fun e w'=>e = .returned (.string r)∧Below w.heap.size w w':=by
 have HR0:=Aside0.mk hr0;have HC0:=Aside0.mk hc0;clear hr0 hc0;have HB:=Aside0.mk (Below.refl w.heap.size w);have H:(spec_l7Text.l0 k l0 (([]:List Int)) 0)=some r:=h;clear h
 obtain ⟨a9,a3⟩:∃ y_:List Int,y_=(([]:List Int)):=⟨_,rfl⟩
 replace H:(spec_l7Text.l0 k l0 a9 0)=some r:=by first|(rw [a3];with_reducible exact H)|(have H2_:=(Option.bind_some _ _).symm.trans H;rw [a3];with_reducible exact H2_)|(have H2_:=(Option.bind_some _ _).symm.trans H;with_reducible exact H2_)|with_reducible exact H|(rw [a3];exact H)|exact H
 have aa:=Aside0.mk a3;clear a3;have H':=Aside0.mk H;clear H
 go_enter Tryd.func63,Tryd.ntmps63
 go_wp2_with (first|((with_reducible refine gd 5 rfl ?_);refine Kd.R_lit (Kd.int .u8) _ 5 ?hg (N:=5) ?hd (xs:=([]:List Int)) (inner:=[]) (ok:=fun _=>True) (okp:=fun _=>True) ?hr ?hp (fun _ hk=>hk) trivial (Below.refl _ _) (Nat.le_refl _) (by simp) ?_;(case hd=>rfl);(case hg=>rfl);(case hr=>first|(go_simp;done)|(go_simp;rfl));(case hp=>exact (Reps.none _ _));intro v193 w2 ho3 hb hg_ hnew_;clear hg_ hnew_;(first|rw [←aa.out] at ho3|(simp only [Int.reduceToNat] at ho3;rw [←aa.out] at ho3));refine Ya2 (Kd.R_lower ho3 (below_size (be HB.out))) (below_step (be HB.out) hb) ?_;clear HB;intro ab HB;clear hb ho3))
 go_loopg [3,4] k (fun kq v3 v4 w' => ∃ (a2:List Int) (a1:Int),v4 = .int .i64 a1∧Aside0 (spec_l7Text.l0 kq l0 a2 a1=some r)∧Aside0 (kq≤k)∧Aside0 (Kd.R (Kd.int .u8) 5 w' w.heap.size (fun _=>True) v3 a2)∧Aside0 (Below w.heap.size w w'))
 case atStart=>exact ⟨(a9),(0),Ye1,H',⟨Nat.le_refl _⟩,⟨kr ab.out⟩,⟨be HB.out⟩⟩
 case round =>
  clear H';(try clear p2);obtain ⟨a2,a1,rfl,HA,HK1,a5,HB⟩:=hrel
  cases gk with
  | zero=>exact absurd HA.out (by simp [spec_l7Text.l0])
  | succ k1 =>
   have H:=HA.out;clear HA;simp only [spec_l7Text.l0] at H
   by_cases c4:a1<(l0.length:Int)
   ·rw [if_pos c4] at H
    have ac:decide (a1<(l0.length:Int))=true:=decide_eq_true c4;clear c4
    by_cases c5:0≤a1
    ·rw [if_pos c5] at H
     have c5b0:decide (0≤a1)=true:=decide_eq_true c5;clear c5
     by_cases c6:a2.length+(rdOf ByteArray.empty l0 a1).size<140737488355328
     ·rw [if_pos c6] at H
      have ad:=Aside0.mk c6;clear c6
      obtain ⟨a6,a4⟩:∃ y_:List Int,y_=(a2++bytesOf (rdOf ByteArray.empty l0 a1)):=⟨_,rfl⟩
      replace H:(spec_l7Text.l0 k1 l0 a6 (wrap64 (a1+1)))=some r:=by first|(rw [a4];with_reducible exact H)|(have H2_:=(Option.bind_some _ _).symm.trans H;rw [a4];with_reducible exact H2_)|(have H2_:=(Option.bind_some _ _).symm.trans H;with_reducible exact H2_)|with_reducible exact H|(rw [a4];exact H)|exact H
      have ae:=Aside0.mk a4;clear a4;have H':=Aside0.mk H;clear H;have a7:0≤(a1:Int):=oda;have a8:a1<(l0.length:Int):=oda;obtain ⟨ad195,af,ai⟩:=Kd.at_string (Kd.C_below HR0.out HB.out) a1 a7 a8
      cases af
      replace a7:=eq_true a7;replace a8:=eq_true a8
      go_wp2_with (first|(at_builtin;refine print_append_str (w0:=w) w.heap.size rfl (.tmp 12) _ 25 9 5 rfl Tryd.underlying25 Tryd.underlying9 info5 u3 a2 (rdOf ByteArray.empty l0 a1) rfl rfl ?aO ?aB ?aS ?aL ?_;(case aB=>exact (be HB.out));(case aO=>exact (Kd.own_of_R (kr a5.out)));(case aS=>exact (below_size (be HB.out)));(case aL=>have:=ad.out;omega);intro ag w7 ho0 hb hg;have ho:=Kd.R_of_own (h1:=fun _=>rfl) (ok:=fun _=>True) ho0 (fun _ _=>trivial);clear ho0;have hat:=True.intro;rw [←ae.out] at ho;change Kd.R (Kd.int .u8) 5 w7 w.heap.size (fun _=>True) ag a6 at ho;refine Ya2 (hb) (ho) ?_;clear HB a5;intro HB ah;clear ho hb hg hat))
      go_roundg k1
      case measure=>have:=HK1.out;omega
      case rel=>exact ⟨(a6),(wrap64 (a1+1)),Ye1,H',⟨by have:=HK1.out;omega⟩,⟨kr ah.out⟩,⟨be HB.out⟩⟩
     ·rw [if_neg c6] at H
      exact absurd H (by simp)
    ·rw [if_neg c5] at H
     exact absurd H (by simp)
   ·rw [if_neg c4] at H
    have ac:decide (a1<(l0.length:Int))=false:=decide_eq_false c4;clear c4;obtain rfl:=Option.some.inj H;have hcv8:=own_string (P:=Tryd.prog) Tryd.underlying25 Tryd.underlying5 Tryd.underlying9 (Kd.own_of_R a5.out)
    go_wp2
    go_ret
    exact ⟨Ye2,be HB.out⟩

end Go.Proofs.YtkmfnmeilooogaaDoor.P


namespace Go.Proofs.YtkmfnmeilooogaaDoor.P
open Go.RowKit Go.Proofs.YtkmfnmeilooogaaDoorW.PrintWords Go.Proofs.YtkmfnmeilooogaaDoorW.PrintLast Go.Proofs.YtkmfnmeilooogaaDoorW.PrintMore
attribute [local go_sem] max2_int min2_int max_two min_two max_three min_three max_four min_four
set_option linter.unusedVariables false
set_option linter.unusedSimpArgs false

def spec_l4Parts.l0:Nat→ByteArray→List ByteArray→Int→Int→Option (List ByteArray)
 | 0,_,_,_,_=>none
 | k+1,x0,x3,x4,x5=>if x5<(x0.size:Int) then (if 0≤x5 then (if (bt x0 x5)=47 then (if 0≤x4 then (if x4≤x5 then (if x5≤(x0.size:Int) then (if x3.length<8796093022208 then (spec_l4Parts.l0 k x0 (x3 ++ [x0.extract (x4:Int).toNat (x5:Int).toNat]) (wrap64 (x5+1)) (wrap64 (x5+1))) else (none)) else (none)) else (none)) else (none)) else (spec_l4Parts.l0 k x0 x3 x4 (wrap64 (x5+1)))) else (none)) else (if 0≤x4 then (if x4≤(x0.size:Int) then (if x3.length<8796093022208 then (some (x3 ++ [x0.extract (x4:Int).toNat x0.size])) else (none)) else (none)) else (none))
def spec_l4Parts.f (k:Nat) (a0:ByteArray):Option (List ByteArray):=spec_l4Parts.l0 k a0 (([]:List ByteArray)) 0 0
theorem spec_l4Parts.mono_l:∀ k,(∀ y0 y1 y2 y3,LeO (spec_l4Parts.l0 k y0 y1 y2 y3) (spec_l4Parts.l0 (k+1) y0 y1 y2 y3))
 | 0=>fun _ _ _ _ r h=>by simp [spec_l4Parts.l0] at h
 | k + 1 => by
  have ih0:=spec_l4Parts.mono_l k
  ·intro y0 y1 y2 y3
   unfold spec_l4Parts.l0
   repeat' first
   | (with_reducible exact ih0 _ _ _ _)
   | (with_reducible exact LeO.refl _)
   | (with_reducible exact LeO.none _)
   | (with_reducible refine LeO.ite ?_ ?_)
   | (with_reducible refine LeO.bind ?_ (fun _ => ?_))
   | exact ih0 _ _ _ _
   | exact LeO.none _
   | refine LeO.ite ?_ ?_
   | refine LeO.bind ?_ (fun _ => ?_)
theorem spec_l4Parts.mono:∀ a0 k,LeO (spec_l4Parts.f k a0) (spec_l4Parts.f (k+1) a0):=by
 intro a0 k;have ih0:=spec_l4Parts.mono_l k
 unfold spec_l4Parts.f
 repeat' first
   | (with_reducible exact ih0 _ _ _ _)
   | (with_reducible exact LeO.refl _)
   | (with_reducible exact LeO.none _)
   | (with_reducible refine LeO.ite ?_ ?_)
   | (with_reducible refine LeO.bind ?_ (fun _ => ?_))
   | exact ih0 _ _ _ _
   | exact LeO.none _
   | refine LeO.ite ?_ ?_
   | refine LeO.bind ?_ (fun _ => ?_)
set_option maxHeartbeats 8000000 in
set_option maxRecDepth 100000 in
theorem spec_l4Parts.calls (k : Nat) (a0 : ByteArray) (r : List ByteArray) (w : World) (h : spec_l4Parts.f k a0 = some r) :
  Calls Tryd.prog 42 #[.string a0] w fun e w' => ∃ v0_:Value,e = .returned (v0_)∧Kd.R Kd.string 9 w' w.heap.size (fun _=>True) v0_ r∧Below w.heap.size w w':=by
 have HB:=Aside0.mk (Below.refl w.heap.size w);have H:(spec_l4Parts.l0 k a0 (([]:List ByteArray)) 0 0)=some r:=h;clear h
 obtain ⟨ac,a4⟩:∃ y_:List ByteArray,y_=(([]:List ByteArray)):=⟨_,rfl⟩
 replace H:(spec_l4Parts.l0 k a0 ac 0 0)=some r:=by first|(rw [a4];with_reducible exact H)|(have H2_:=(Option.bind_some _ _).symm.trans H;rw [a4];with_reducible exact H2_)|(have H2_:=(Option.bind_some _ _).symm.trans H;with_reducible exact H2_)|with_reducible exact H|(rw [a4];exact H)|exact H
 have ad:=Aside0.mk a4;clear a4;have H':=Aside0.mk H;clear H
 go_enter Tryd.func42,Tryd.ntmps42
 go_wp2_with (first|((with_reducible refine gd 6 rfl ?_);refine Kd.R_lit Kd.string _ 9 ?hg (N:=6) ?hd (xs:=([]:List ByteArray)) (inner:=[]) (ok:=fun _=>True) (okp:=fun _=>True) ?hr ?hp (fun _ hk=>hk) trivial (Below.refl _ _) (Nat.le_refl _) (by simp) ?_;(case hd=>rfl);(case hg=>rfl);(case hr=>first|(go_simp;done)|(go_simp;rfl));(case hp=>exact (Reps.none _ _));intro v321 w2 ho3 hb hg_ hnew_;clear hg_ hnew_;(first|rw [←ad.out] at ho3|(simp only [Int.reduceToNat] at ho3;rw [←ad.out] at ho3));refine Ya2 (Kd.R_lower ho3 (below_size (be HB.out))) (below_step (be HB.out) hb) ?_;clear HB;intro af HB;clear hb ho3))
 go_loopg [3,4,5] k (fun kq v3 v4 v5 w' => ∃ (a3:List ByteArray) (a2:Int) (a1:Int),v4 = .int .i64 a2∧v5 = .int .i64 a1∧Aside0 (spec_l4Parts.l0 kq a0 a3 a2 a1=some r)∧Aside0 (kq≤k)∧Aside0 (Kd.R Kd.string 9 w' w.heap.size (fun _=>True) v3 a3)∧Aside0 (Below w.heap.size w w'))
 case atStart=>exact ⟨(ac),(0),(0),Ye1,Ye1,H',⟨Nat.le_refl _⟩,⟨kr af.out⟩,⟨be HB.out⟩⟩
 case round =>
  clear H';(try clear p2);obtain ⟨a3,a2,a1,rfl,rfl,HA,HK1,a5,HB⟩:=hrel
  cases gk with
  | zero=>exact absurd HA.out (by simp [spec_l4Parts.l0])
  | succ k1 =>
   have H:=HA.out;clear HA;simp only [spec_l4Parts.l0] at H
   by_cases c4:a1<(a0.size:Int)
   ·rw [if_pos c4] at H
    have ag:decide (a1<(a0.size:Int))=true:=decide_eq_true c4;clear c4
    by_cases c5:0≤a1
    ·rw [if_pos c5] at H
     have c5b0:decide (0≤a1)=true:=decide_eq_true c5;clear c5
     by_cases c7:(bt a0 a1)=47
     ·rw [if_pos c7] at H
      have ah:((bt a0 a1)==47)=true:=beq_iff_eq.mpr c7;have ai:((bt a0 a1) != 47)=false:=bne_eq_false_iff_eq.mpr c7;clear c7
      by_cases c8:0≤a2
      ·rw [if_pos c8] at H
       have c8b0:=eq_true c8;have c8b1:decide (0≤a2)=true:=decide_eq_true c8;clear c8
       by_cases c9:a2≤a1
       ·rw [if_pos c9] at H
        have c9b0:=eq_true c9;have c9b1:decide (a2≤a1)=true:=decide_eq_true c9;clear c9
        by_cases c10:a1≤(a0.size:Int)
        ·rw [if_pos c10] at H
         have c10b0:=eq_true c10;have c10b1:decide (a1≤(a0.size:Int))=true:=decide_eq_true c10;clear c10
         by_cases aa:a3.length<8796093022208
         ·rw [if_pos aa] at H
          have aj:=Aside0.mk aa;clear aa
          obtain ⟨ae,a6⟩:∃ y_:List ByteArray,y_=(a3 ++ [a0.extract (a2:Int).toNat (a1:Int).toNat]):=⟨_,rfl⟩
          replace H:(spec_l4Parts.l0 k1 a0 ae (wrap64 (a1+1)) (wrap64 (a1+1)))=some r:=by first|(rw [a6];with_reducible exact H)|(have H2_:=(Option.bind_some _ _).symm.trans H;rw [a6];with_reducible exact H2_)|(have H2_:=(Option.bind_some _ _).symm.trans H;with_reducible exact H2_)|with_reducible exact H|(rw [a6];exact H)|exact H
          have ak:=Aside0.mk a6;clear a6;have H':=Aside0.mk H;clear H;have p6:0≤(a1:Int):=oda;have q6:a1<(a0.size:Int):=oda;have hx6:=bt_at a0 a1;replace p6:=eq_true p6;replace q6:=eq_true q6
          go_wp2_with (first|((with_reducible refine gate_builtin (b:=.append) (xs:=#[.tmp 17,.tmp 22]) rfl ?_);at_builtin;refine Kd.R_append Kd.string (w0:=w) w.heap.size rfl (.tmp 17) (.tmp 22) 29 9 (.string ⟨#[]⟩) 16 rfl Tryd.underlying29 info9 rfl (by decide) (by omega) u3 a3 (a0.extract (a2:Int).toNat (a1:Int).toNat) [.string (a0.extract (a2:Int).toNat (a1:Int).toNat)] (fun _=>True) (fun _=>False) rfl rfl ?aP (fun _ hk=>hk.elim) ?aF ?aO ?aB ?aS ?aL ?_;(case aP=>exact rfl);(case aB=>exact (be HB.out));(case aF=>exact (fun _ _=>trivial));(case aO=>exact (kr a5.out));(case aS=>exact (below_size (be HB.out)));(case aL=>have:=aj.out;omega);intro v324 w12 ho hb hg hat;rw [←ak.out] at ho;refine Ya2 (hb) (ho) ?_;clear HB a5;intro HB al;clear ho hb hg hat))
          go_roundg k1
          case measure=>have:=HK1.out;omega
          case rel=>exact ⟨(ae),(wrap64 (a1+1)),(wrap64 (a1+1)),Ye1,Ye1,H',⟨by have:=HK1.out;omega⟩,⟨kr al.out⟩,⟨be HB.out⟩⟩
         ·rw [if_neg aa] at H
          exact absurd H (by simp)
        ·rw [if_neg c10] at H
         exact absurd H (by simp)
       ·rw [if_neg c9] at H
        exact absurd H (by simp)
      ·rw [if_neg c8] at H
       exact absurd H (by simp)
     ·rw [if_neg c7] at H
      have ah:((bt a0 a1)==47)=false:=beq_eq_false_iff_ne.mpr c7;have ai:((bt a0 a1) != 47)=true:=bne_iff_ne.mpr c7;have H':=Aside0.mk H;clear H;have p6:0≤(a1:Int):=oda;have q6:a1<(a0.size:Int):=oda;have hx6:=bt_at a0 a1;replace p6:=eq_true p6;replace q6:=eq_true q6
      go_wp2
      go_roundg k1
      case measure=>have:=HK1.out;omega
      case rel=>exact ⟨(a3),(a2),(wrap64 (a1+1)),Ye1,Ye1,H',⟨by have:=HK1.out;omega⟩,⟨kr a5.out⟩,⟨be HB.out⟩⟩
    ·rw [if_neg c5] at H
     exact absurd H (by simp)
   ·rw [if_neg c4] at H
    have ag:decide (a1<(a0.size:Int))=false:=decide_eq_false c4;clear c4
    by_cases a7:0≤a2
    ·rw [if_pos a7] at H
     have c13b0:=eq_true a7;have c13b1:decide (0≤a2)=true:=decide_eq_true a7;clear a7
     by_cases a8:a2≤(a0.size:Int)
     ·rw [if_pos a8] at H
      have c14b0:=eq_true a8;have c14b1:decide (a2≤(a0.size:Int))=true:=decide_eq_true a8;clear a8
      by_cases ab:a3.length<8796093022208
      ·rw [if_pos ab] at H
       have am:=Aside0.mk ab;clear ab
       obtain ⟨an,a9⟩:∃ y_:List ByteArray,y_=(a3 ++ [a0.extract (a2:Int).toNat a0.size]):=⟨_,rfl⟩
       replace H:(some an)=some r:=by first|(rw [a9];with_reducible exact H)|(have H2_:=(Option.bind_some _ _).symm.trans H;rw [a9];with_reducible exact H2_)|(have H2_:=(Option.bind_some _ _).symm.trans H;with_reducible exact H2_)|with_reducible exact H|(rw [a9];exact H)|exact H
       have ao:=Aside0.mk a9;clear a9;obtain rfl:=Option.some.inj H
       go_wp2_with (first|((with_reducible refine gate_builtin (b:=.append) (xs:=#[.tmp 26,.tmp 30]) rfl ?_);at_builtin;refine Kd.R_append Kd.string (w0:=w) w.heap.size rfl (.tmp 26) (.tmp 30) 29 9 (.string ⟨#[]⟩) 16 rfl Tryd.underlying29 info9 rfl (by decide) (by omega) u3 a3 (a0.extract (a2:Int).toNat a0.size) [.string (a0.extract (a2:Int).toNat a0.size)] (fun _=>True) (fun _=>False) rfl rfl ?aP (fun _ hk=>hk.elim) ?aF ?aO ?aB ?aS ?aL ?_;(case aP=>exact rfl);(case aB=>exact (be HB.out));(case aF=>exact (fun _ _=>trivial));(case aO=>exact (kr a5.out));(case aS=>exact (below_size (be HB.out)));(case aL=>have:=am.out;omega);intro v327 w16 ho hb hg hat;rw [←ao.out] at ho;refine Ya2 (hb) (ho) ?_;clear HB a5;intro HB ap;clear ho hb hg hat))
       go_ret
       exact ⟨_,Ye2,kr ap.out,be HB.out⟩
      ·rw [if_neg ab] at H
       exact absurd H (by simp)
     ·rw [if_neg a8] at H
      exact absurd H (by simp)
    ·rw [if_neg a7] at H
     exact absurd H (by simp)

end Go.Proofs.YtkmfnmeilooogaaDoor.P


namespace Go.Proofs.YtkmfnmeilooogaaDoor.P
open Go.RowKit Go.Proofs.YtkmfnmeilooogaaDoorW.PrintWords Go.Proofs.YtkmfnmeilooogaaDoorW.PrintLast Go.Proofs.YtkmfnmeilooogaaDoorW.PrintMore
attribute [local go_sem] max2_int min2_int max_two min_two max_three min_three max_four min_four
set_option linter.unusedVariables false
set_option linter.unusedSimpArgs false

def strings_Split.f (a0 a1:ByteArray):Option (List ByteArray):=if a0.size<4294967281 then (if 1≤a1.size then some (Go.Lib.splitB a1 0 (Go.Lib.countB a0 a1) a0) else none) else none
theorem strings_Split.calls (a0 a1:ByteArray) (r:List ByteArray) (w:World) (hg:GOK w) (h:strings_Split.f a0 a1=some r) :
  Calls Tryd.prog 50 #[.string a0,.string a1] w fun e w' => ∃ v0_:Value,e = .returned (v0_)∧Kd.R Kd.string 9 w' w.heap.size (fun _=>True) v0_ r∧Below w.heap.size w w':=by
 unfold strings_Split.f at h
 split at h
 ·rename_i hs
  split at h
  ·rename_i h1
   obtain rfl:=Option.some.inj h;obtain ⟨m,hm⟩:=hg;have hle:=Go.Lib.countB_le a1 h1 a0.size a0 (Nat.le_refl _);have hlen:=Go.Lib.splitB_all a1 h1 0 (Go.Lib.countB a0 a1) a0 rfl
   refine (Tryd.strings_Split a0 a1 m w hs hm h1).mono fun e w' ⟨he,hw⟩ => ?_
   subst hw;refine ⟨_,he,?_,below_alloc (Below.refl _ _) _⟩
   rw [←hlen]
   exact Ow.R_new_block Value.string (fun _=>rfl) _ w _ (by rw [hlen];unfold maxLen;omega)
  ·cases h
 ·cases h


end Go.Proofs.YtkmfnmeilooogaaDoor.P


namespace Go.Proofs.YtkmfnmeilooogaaDoor.P
open Go.RowKit Go.Proofs.YtkmfnmeilooogaaDoorW.PrintWords Go.Proofs.YtkmfnmeilooogaaDoorW.PrintLast Go.Proofs.YtkmfnmeilooogaaDoorW.PrintMore
attribute [local go_sem] max2_int min2_int max_two min_two max_three min_three max_four min_four
set_option linter.unusedVariables false
set_option linter.unusedSimpArgs false

def spec_l1Many.l0:Nat→ByteArray→Int→ByteArray→Option (ByteArray)
 | 0,_,_,_=>none
 | k+1,x0,x1,x5=>if x1>0 then (if (Int.tmod x1 2)=1 then (if x5.size+x0.size≤9223372036854775807 then (if x0.size+x0.size≤9223372036854775807 then (spec_l1Many.l0 k (x0++x0) (wrap64 (Int.tdiv x1 2)) (x5++x0)) else (none)) else (none)) else (if x0.size+x0.size≤9223372036854775807 then (spec_l1Many.l0 k (x0++x0) (wrap64 (Int.tdiv x1 2)) x5) else (none))) else (some x5)
def spec_l1Many.f (k:Nat) (a0:ByteArray) (a1:Int):Option (ByteArray):=spec_l1Many.l0 k a0 a1 (⟨#[]⟩:ByteArray)
theorem spec_l1Many.mono_l:∀ k,(∀ y0 y1 y2,LeO (spec_l1Many.l0 k y0 y1 y2) (spec_l1Many.l0 (k+1) y0 y1 y2))
 | 0=>fun _ _ _ r h=>by simp [spec_l1Many.l0] at h
 | k + 1 => by
  have ih0:=spec_l1Many.mono_l k
  ·intro y0 y1 y2
   unfold spec_l1Many.l0
   repeat' first
   | (with_reducible exact ih0 _ _ _)
   | (with_reducible exact LeO.refl _)
   | (with_reducible exact LeO.none _)
   | (with_reducible refine LeO.ite ?_ ?_)
   | (with_reducible refine LeO.bind ?_ (fun _ => ?_))
   | exact ih0 _ _ _
   | exact LeO.none _
   | refine LeO.ite ?_ ?_
   | refine LeO.bind ?_ (fun _ => ?_)
theorem spec_l1Many.mono:∀ a0 a1 k,LeO (spec_l1Many.f k a0 a1) (spec_l1Many.f (k+1) a0 a1):=by
 intro a0 a1 k;have ih0:=spec_l1Many.mono_l k
 unfold spec_l1Many.f
 repeat' first
   | (with_reducible exact ih0 _ _ _)
   | (with_reducible exact LeO.refl _)
   | (with_reducible exact LeO.none _)
   | (with_reducible refine LeO.ite ?_ ?_)
   | (with_reducible refine LeO.bind ?_ (fun _ => ?_))
   | exact ih0 _ _ _
   | exact LeO.none _
   | refine LeO.ite ?_ ?_
   | refine LeO.bind ?_ (fun _ => ?_)
set_option maxHeartbeats 8000000 in
set_option maxRecDepth 100000 in
theorem spec_l1Many.calls (k:Nat) (a0:ByteArray) (a1:Int) (r:ByteArray) (w:World) (h:spec_l1Many.f k a0 a1=some r) :
  Calls Tryd.prog 35 #[.string a0,.int .i64 a1] w fun e w'=>e = .returned (.string r)∧Drawn0 w w':=by
 have H:(spec_l1Many.l0 k a0 a1 (⟨#[]⟩:ByteArray))=some r:=h;clear h;have H':=Aside0.mk H;clear H
 go_enter Tryd.func35,Tryd.ntmps35
 go_wp2
 go_loopg [0,1,5] k (fun kq v0 v1 v5 w' => ∃ (a2:ByteArray) (a3:Int) (a4:ByteArray),v0 = .string a2∧v1 = .int .i64 a3∧v5 = .string a4∧Aside0 (spec_l1Many.l0 kq a2 a3 a4=some r)∧Aside0 (kq≤k)∧Drawn0 w w')
 case atStart=>exact ⟨(a0),(a1),((⟨#[]⟩:ByteArray)),Ye1,Ye1,Ye1,H',⟨Nat.le_refl _⟩,dz⟩
 case round =>
  clear H';(try clear p2);obtain ⟨a2,a3,a4,rfl,rfl,rfl,HA,HK1,⟨m1,rfl⟩⟩:=hrel
  cases gk with
  | zero=>exact absurd HA.out (by simp [spec_l1Many.l0])
  | succ k1 =>
   have H:=HA.out;clear HA;simp only [spec_l1Many.l0] at H
   by_cases c3:a3>0
   ·rw [if_pos c3] at H
    have a5:decide (0<a3)=true:=decide_eq_true c3;clear c3
    by_cases c4:(Int.tmod a3 2)=1
    ·rw [if_pos c4] at H
     have a6:((Int.tmod a3 2)==1)=true:=beq_iff_eq.mpr c4;have a7:((Int.tmod a3 2) != 1)=false:=bne_eq_false_iff_eq.mpr c4;clear c4
     by_cases c5:a4.size+a2.size≤9223372036854775807
     ·rw [if_pos c5] at H
      have c5b0:=eq_true c5;have c5b1:decide (a4.size+a2.size≤9223372036854775807)=true:=decide_eq_true c5
      try have c5b2:(9223372036854775807<a4.size+a2.size)=False:=eq_false (Nat.not_lt.2 c5)
      by_cases c6:a2.size+a2.size≤9223372036854775807
      ·rw [if_pos c6] at H
       have c6b0:=eq_true c6;have c6b1:decide (a2.size+a2.size≤9223372036854775807)=true:=decide_eq_true c6
       try have c6b2:(9223372036854775807<a2.size+a2.size)=False:=eq_false (Nat.not_lt.2 c6)
       have H':=Aside0.mk H;clear H
       go_wp2
       go_roundg k1
       case measure=>have:=HK1.out;omega
       case rel=>exact ⟨(a2++a2),(wrap64 (Int.tdiv a3 2)),(a4++a2),Ye1,Ye1,Ye1,H',⟨by have:=HK1.out;omega⟩,dz⟩
      ·rw [if_neg c6] at H
       exact absurd H (by simp)
     ·rw [if_neg c5] at H
      exact absurd H (by simp)
    ·rw [if_neg c4] at H
     have a6:((Int.tmod a3 2)==1)=false:=beq_eq_false_iff_ne.mpr c4;have a7:((Int.tmod a3 2) != 1)=true:=bne_iff_ne.mpr c4
     by_cases c7:a2.size+a2.size≤9223372036854775807
     ·rw [if_pos c7] at H
      have c7b0:=eq_true c7;have c7b1:decide (a2.size+a2.size≤9223372036854775807)=true:=decide_eq_true c7
      try have c7b2:(9223372036854775807<a2.size+a2.size)=False:=eq_false (Nat.not_lt.2 c7)
      have H':=Aside0.mk H;clear H
      go_wp2
      go_roundg k1
      case measure=>have:=HK1.out;omega
      case rel=>exact ⟨(a2++a2),(wrap64 (Int.tdiv a3 2)),(a4),Ye1,Ye1,Ye1,H',⟨by have:=HK1.out;omega⟩,dz⟩
     ·rw [if_neg c7] at H
      exact absurd H (by simp)
   ·rw [if_neg c3] at H
    have a5:decide (0<a3)=false:=decide_eq_false c3;clear c3;obtain rfl:=Option.some.inj H
    go_wp2
    go_ret
    exact ⟨Ye1,dz⟩

end Go.Proofs.YtkmfnmeilooogaaDoor.P

