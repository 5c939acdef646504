/- Several texts of this claim in one file: YtknagppkeodggaaDoorPSpecL5Set, YtknagppkeodggaaDoorPSpecL5Begins, YtknagppkeodggaaDoorPSpecL1In, YtknagppkeodggaaDoorPSpecL4PartOk, YtknagppkeodggaaDoorPSpecL4Ok, YtknagppkeodggaaDoorPSpecValidPath, YtknagppkeodggaaDoorPSpecValidTree, YtknagppkeodggaaDoorPSpecPut, YtknagppkeodggaaDoorPSpecL5Copy, YtknagppkeodggaaDoorPSpecL4Bytes, YtknagppkeodggaaDoorPSpecL4Match, YtknagppkeodggaaDoorPSpecValidGlob, YtknagppkeodggaaDoorPSpecMatch, YtknagppkeodggaaDoorPSpecPick. -/
import Derived.Test.YtknagppkeodggaaDoorM2
import Derived.Test.YtknagppkeodggaaDoorM3
import Derived.Test.YtknagppkeodggaaDoorM4
namespace Go.Proofs.YtknagppkeodggaaDoor.P
open Go.RowKit Go.Proofs.YtknagppkeodggaaDoorW.PrintWords Go.Proofs.YtknagppkeodggaaDoorW.PrintLast Go.Proofs.YtknagppkeodggaaDoorW.PrintMore
attribute [local go_sem] max2_int min2_int max_two min_two max_three min_three max_four min_four
set_option linter.unusedVariables false
set_option linter.unusedSimpArgs false

mutual
def spec_l5Set.l0:Nat→Bool→Int→List (S27)→ByteArray→ByteArray→Bool→List (S27)→Option ((List (S27)))
 | 0,_,_,_,_,_,_,_=>none
 | k+1,x6,x7,ai,ao,aC,aD,aw=>if x7<(ai.length:Int) then (if x6=true then (spec_l5Set.j1 k x6 x7 false ai ao aC aD aw) else (if 0≤x7 then (spec_l5Set.j1 k x6 x7 (!(Op.bytesLess (((rd_T27 ai x7).f0).toList) ao.toList)) ai ao aC aD aw) else (none))) else (if x6=true then (some aw) else (if aw.length<3518437208883 then (some (aw ++ [(⟨ao,aC,aD⟩:S27)])) else (none)))
def spec_l5Set.j1:Nat→Bool→Int→Bool→List (S27)→ByteArray→ByteArray→Bool→List (S27)→Option ((List (S27)))
 | 0,_,_,_,_,_,_,_,_=>none
 | k+1,x6,x7,x28,ai,ao,aC,aD,aw=>if x28=true then (if aw.length<3518437208883 then ((some (aw ++ [(⟨ao,aC,aD⟩:S27)]:List (S27))).bind fun ab=>(if 0≤x7 then (if x7<(ai.length:Int) then (if ((rd_T27 ai x7).f0).toList=ao.toList then (spec_l5Set.l0 k true (wrap64 (x7+1)) ai ao aC aD ab) else (if ab.length<3518437208883 then (spec_l5Set.l0 k true (wrap64 (x7+1)) ai ao aC aD (ab ++ [(⟨(rd_T27 ai x7).f0,(rd_T27 ai x7).f1,(rd_T27 ai x7).f2⟩:S27)])) else (none))) else (none)) else (none))) else (none)) else (if 0≤x7 then (if x7<(ai.length:Int) then (if ((rd_T27 ai x7).f0).toList=ao.toList then (spec_l5Set.l0 k x6 (wrap64 (x7+1)) ai ao aC aD aw) else (if aw.length<3518437208883 then (spec_l5Set.l0 k x6 (wrap64 (x7+1)) ai ao aC aD (aw ++ [(⟨(rd_T27 ai x7).f0,(rd_T27 ai x7).f1,(rd_T27 ai x7).f2⟩:S27)])) else (none))) else (none)) else (none))
end
def spec_l5Set.f (k:Nat) (a5:List (S27)) (a1_0:ByteArray) (a1_1:ByteArray) (a1_2:Bool):Option ((List (S27))):=spec_l5Set.l0 k false 0 a5 a1_0 a1_1 a1_2 ([]:List (S27))
theorem spec_l5Set.mono_l:∀ k,(∀ y0 y1 y2 y3 y4 y5 y6,LeO (spec_l5Set.l0 k y0 y1 y2 y3 y4 y5 y6) (spec_l5Set.l0 (k+1) y0 y1 y2 y3 y4 y5 y6))∧(∀ y0 y1 y2 y3 y4 y5 y6 y7,LeO (spec_l5Set.j1 k y0 y1 y2 y3 y4 y5 y6 y7) (spec_l5Set.j1 (k+1) y0 y1 y2 y3 y4 y5 y6 y7))
 | 0=>⟨fun _ _ _ _ _ _ _ r h=>by simp [spec_l5Set.l0] at h,fun _ _ _ _ _ _ _ _ r h=>by simp [spec_l5Set.j1] at h⟩
 | k + 1 => by
  obtain ⟨ih0,ih1⟩:=spec_l5Set.mono_l k;refine ⟨?_,?_⟩
  ·intro y0 y1 y2 y3 y4 y5 y6
   unfold spec_l5Set.l0
   repeat' first
   | (with_reducible exact ih0 _ _ _ _ _ _ _)
   | (with_reducible exact ih1 _ _ _ _ _ _ _ _)
   | (with_reducible exact LeO.refl _)
   | (with_reducible exact LeO.none _)
   | (with_reducible refine LeO.ite ?_ ?_)
   | (with_reducible refine LeO.bind ?_ (fun _ => ?_))
   | exact ih0 _ _ _ _ _ _ _
   | exact ih1 _ _ _ _ _ _ _ _
   | exact LeO.none _
   | refine LeO.ite ?_ ?_
   | refine LeO.bind ?_ (fun _ => ?_)
  ·intro y0 y1 y2 y3 y4 y5 y6 y7
   unfold spec_l5Set.j1
   repeat' first
   | (with_reducible exact ih0 _ _ _ _ _ _ _)
   | (with_reducible exact ih1 _ _ _ _ _ _ _ _)
   | (with_reducible exact LeO.refl _)
   | (with_reducible exact LeO.none _)
   | (with_reducible refine LeO.ite ?_ ?_)
   | (with_reducible refine LeO.bind ?_ (fun _ => ?_))
   | exact ih0 _ _ _ _ _ _ _
   | exact ih1 _ _ _ _ _ _ _ _
   | exact LeO.none _
   | refine LeO.ite ?_ ?_
   | refine LeO.bind ?_ (fun _ => ?_)
theorem spec_l5Set.mono:∀ a0 a1 a2 a3 k,LeO (spec_l5Set.f k a0 a1 a2 a3) (spec_l5Set.f (k+1) a0 a1 a2 a3):=by
 intro a0 a1 a2 a3 k;obtain ⟨ih0,ih1⟩:=spec_l5Set.mono_l k
 unfold spec_l5Set.f
 repeat' first
   | (with_reducible exact ih0 _ _ _ _ _ _ _)
   | (with_reducible exact ih1 _ _ _ _ _ _ _ _)
   | (with_reducible exact LeO.refl _)
   | (with_reducible exact LeO.none _)
   | (with_reducible refine LeO.ite ?_ ?_)
   | (with_reducible refine LeO.bind ?_ (fun _ => ?_))
   | exact ih0 _ _ _ _ _ _ _
   | exact ih1 _ _ _ _ _ _ _ _
   | exact LeO.none _
   | refine LeO.ite ?_ ?_
   | refine LeO.bind ?_ (fun _ => ?_)
def spec_l5Set.T6:Bool×List (List Nat×List Nat):=(true,[([],[]),([0],[0]),([1],[1]),([2],[2]),([3,2],[2,3]),([2],[2]),([4,5,2],[2,4,5]),([6,2],[2,6]),([7,2],[2,7]),([2],[2]),([9,2],[2,9]),([8,10,2],[2,8,10]),([2,11],[2,11])])
def spec_l5Set.B6:List Nat:=[0,1,3,7,15,7,63,127,255,7,519,2047,4095]
theorem spec_l5Set.tab6:rtab .any (opsOf Tryd.f73 6)=spec_l5Set.T6:=by kernel_rfl
theorem spec_l5Set.bits6:waitsOk spec_l5Set.T6.2 spec_l5Set.B6=true:=by kernel_rfl
def spec_l5Set.T9:Bool×List (List Nat×List Nat):=(true,[([],[]),([0],[0]),([],[]),([1,2],[1,2]),([3],[3]),([4],[4]),([],[]),([6],[6]),([5,7],[5,7])])
def spec_l5Set.B9:List Nat:=[0,1,0,7,15,31,0,64,255]
theorem spec_l5Set.tab9:rtab .any (opsOf Tryd.f73 9)=spec_l5Set.T9:=by kernel_rfl
theorem spec_l5Set.bits9:waitsOk spec_l5Set.T9.2 spec_l5Set.B9=true:=by kernel_rfl
def spec_l5Set.T10:Bool×List (List Nat×List Nat):=(true,[([],[]),([0],[0]),([],[]),([2],[2]),([],[]),([3,4],[3,4]),([5],[5]),([6],[6]),([1,7],[1,7]),([0,1,2,3,4,5,6,7,8],[]),([9,8,8,0,1,2,3,4,5,6,7,8],[8,9])])
def spec_l5Set.B10:List Nat:=[0,1,0,4,0,28,60,124,255,511,1023]
theorem spec_l5Set.tab10:rtab .any (opsOf Tryd.f73 10)=spec_l5Set.T10:=by kernel_rfl
theorem spec_l5Set.bits10:waitsOk spec_l5Set.T10.2 spec_l5Set.B10=true:=by kernel_rfl
set_option maxHeartbeats 8000000 in
set_option maxRecDepth 100000 in
theorem spec_l5Set.calls (k : Nat) (ay : Option Addr) (aj : Nat) (a5 : List (S27)) (a1_0 : ByteArray) (a1_1 : ByteArray) (a1_2 : Bool) (r : List (S27)) (w : World) (cg : Kd.C k27 w ay a5.length a5) (ch : a5.length ≤ aj) (h : spec_l5Set.f k a5 a1_0 a1_1 a1_2 = some r) :
  Calls Tryd.prog 73 #[.agg #[.slice ay a5.length aj],.agg #[.string a1_0,.string a1_1,.bool a1_2]] w fun e w' => ∃ v0_:Value,e = .returned (.agg #[v0_])∧Kd.R k27 27 w' w.heap.size (fun _=>True) v0_ r∧Below w.heap.size w w':=by
 have hu25:=Tryd.underlying25;have hu27:=Tryd.underlying27;have aN:=Aside0.mk cg;have HC0_0:=Aside0.mk ch;clear cg ch;have HB:=Aside0.mk (Below.refl w.heap.size w);have H:(spec_l5Set.l0 k false 0 a5 a1_0 a1_1 a1_2 ([]:List (S27)))=some r:=h;clear h;have H':=Aside0.mk H;clear H
 go_enter Tryd.func73,Tryd.ntmps73
 go_wp2_with (first|((with_reducible refine gd 2 rfl ?_);refine bx 2 25 (#[.slice ay a5.length aj]) ?_;intro ak hg w3 hbox hb;refine Ya4 (below_step (be HB.out) hb) (hbox) (bs hg (be HB.out)) (bs hg (be HB.out)) ?_;clear HB;intro HB a6 GW130 GE130;clear hb hbox hg)|((with_reducible refine gd 3 rfl ?_);refine bx 3 27 (#[.string a1_0,.string a1_1,.bool a1_2]) ?_;intro ac hg w4 hbox hb;refine Ya7 (bb a6 hb) (below_step (bf HB.out) hb) (hbox) (bs hg (bf HB.out)) (bs hg (bf HB.out)) (bl hg a6) (br hg a6) ?_;clear a6 HB;intro a6 HB a7 GW131 GE131 b9 ba;clear hb hbox hg)|((with_reducible refine gd 4 rfl ?_);refine bx 4 25 (#[.slice none 0 0]) ?_;intro am hg w5 hbox hb;refine Ya10 (bb a6 hb) (bb a7 hb) (below_step (bf HB.out) hb) (hbox) (bs hg (bf HB.out)) (bs hg (bf HB.out)) (bl hg a6) (br hg a6) (bl hg a7) (br hg a7) ?_;clear a6 a7 HB;intro a6 a7 HB a9 GW132 GE132 bS bT bu bv;clear hb hbox hg)|((with_reducible refine gd 5 rfl ?_);refine bx 5 25 (#[.slice none 0 0]) ?_;intro af hg w6 hbox hb;refine Ya13 (bb a6 hb) (bb a7 hb) (bb a9 hb) (below_step (bf HB.out) hb) (hbox) (bs hg (bf HB.out)) (bs hg (bf HB.out)) (bl hg a6) (br hg a6) (bl hg a7) (br hg a7) (bl hg a9) (br hg a9) ?_;clear a6 a7 a9 HB;intro a6 a7 a9 HB a8 GW133 GE133 an aM ap aQ aq aR;clear hb hbox hg;have hnb7:=aM.out;have hnc7:=an.out;have hnb8:=aQ.out;have hnc8:=ap.out;have hnb9:=aR.out;have hnc9:=aq.out;have ⟨ci,cj⟩:=Yc1 a8.out))
 go_loopg [6,7] k (fun kq v6 v7 w' => ∃ (ax:Bool) (a4:Int) (ad:List (S27)) (al:Value),v6 = .bool ax∧v7 = .int .i64 a4∧Aside0 (spec_l5Set.l0 kq ax a4 a5 a1_0 a1_1 a1_2 ad=some r)∧Aside0 (kq≤k)∧Aside0 (Kd.R k27 27 w' w.heap.size (fun k_=>k_≠ac) al ad)∧Aside0 (w'.heap[ak]? = some (.cells #[(.slice ay a5.length aj)] 25 (0,0)))∧Aside0 (w'.heap[ac]? = some (.cells #[.string a1_0,.string a1_1,.bool a1_2] 27 (0,0)))∧Aside0 (w'.heap[am]? = some (.cells #[(.slice none 0 0)] 25 (0,0)))∧Aside0 (w'.heap[af]? = some (.cells #[al] 25 (0,0)))∧Aside0 (Below w.heap.size w w'))
 case atStart=>exact ⟨(false),(0),(([]:List (S27))),(.slice none 0 0),Ye1,Ye1,H',⟨Nat.le_refl _⟩,⟨nl⟩,⟨bkf a6.out an.out⟩,⟨bkf a7.out ap.out⟩,⟨bkf a9.out aq.out⟩,⟨bp a8.out⟩,⟨bf HB.out⟩⟩
 case round =>
  clear H';(try clear p2);(try clear c7);(try clear c8);(try clear c9);(try clear ci);(try clear cj);obtain ⟨ax,a4,ad,al,rfl,rfl,HA,HK1,aa,a6,a7,a9,a8,HB⟩:=hrel
  cases gk with
  | zero=>exact absurd HA.out (by simp [spec_l5Set.l0])
  | succ k1 =>
   have H:=HA.out;clear HA;simp only [spec_l5Set.l0] at H
   by_cases aT:a4<(a5.length:Int)
   ·rw [if_pos aT] at H
    have ck:decide (a4<(a5.length:Int))=true:=decide_eq_true aT;clear aT;have bU:=Aside0.mk H;clear H;have hnb13:=b9.out;have hnc13:=ba.out;have hnb14:=bS.out;have hnc14:=bT.out;have hnb15:=an.out;have hnc15:=aM.out;have ⟨cu,cv⟩:=Yc1 a6.out
    go_upto_region 6 with (fail)
    go_cut [28] (fun v28 wc => ∃ (kq:Nat) (bw:Bool),v28 = .bool bw∧Aside0 (spec_l5Set.j1 kq ax a4 bw a5 a1_0 a1_1 a1_2 ad=some r)∧Aside0 (kq≤k1)∧Aside0 (Kd.R k27 27 wc w.heap.size (fun k_=>k_≠ac) al ad)∧Aside0 (wc.heap[ak]? = some (.cells #[(.slice ay a5.length aj)] 25 (0,0)))∧Aside0 (wc.heap[ac]? = some (.cells #[.string a1_0,.string a1_1,.bool a1_2] 27 (0,0)))∧Aside0 (wc.heap[am]? = some (.cells #[(.slice none 0 0)] 25 (0,0)))∧Aside0 (wc.heap[af]? = some (.cells #[al] 25 (0,0)))∧Aside0 (Below w.heap.size w wc))
    case first =>
     have H:=bU.out;clear bU
     by_cases bd:ax=true
     ·subst bd
      have H1:(spec_l5Set.j1 k1 true a4 false a5 a1_0 a1_1 a1_2 ad)=some r:=by rw [if_pos rfl] at H;exact H
      clear H;have H:=H1;clear H1;have H':=Aside0.mk H;clear H
      try go_wp2
      refine Ya6 (Kd.R_drew aa.out) (blk_drew a6.out) (blk_drew a7.out) (blk_drew a9.out) (blk_drew a8.out) (below_drew1 HB.out) ?_;clear aa a6 a7 a9 a8 HB;intro aa a6 a7 a9 a8 HB;refine start_ (n:=13) (S:=fun w'=>True) (ds:=[]) (fb 13 0) (by kernel_rfl) rfl rfl trivial (fun hHeld => ?_);refine with_tabW spec_l5Set.tab6 spec_l5Set.bits6 (fun HT_ HW_ => ?_);generalize wr.drew=w18 at aa a6 a7 a9 a8 HB hHeld ⊢; refine pu 0 16 (fb 13 1) HT_ ?_;refine pu 1 17 (fb 13 3) HT_ ?_;refine pu 2 18 (fb 13 7) HT_ ?_;refine pn 3 19 (fb 13 15) HT_ ?_;refine pn 4 20 (fb 13 31) HT_ ?_;refine pn 5 21 (fb 13 63) HT_ ?_;refine pn 6 22 (fb 13 127) HT_ ?_;refine pn 7 23 (fb 13 255) HT_ ?_;refine pn 8 24 (fb 13 511) HT_ ?_;refine pn 9 25 (fb 13 1023) HT_ ?_;refine pn 10 26 (fb 13 2047) HT_ ?_;refine pn 11 27 (fb 13 4095) HT_ ?_;refine pu 12 28 (fb 13 8191) HT_ ?_;refine done_ (done_of HT_.out (by kernel_rfl)) ?_
      try go_wp2
      go_meet
      case rel=>exact ⟨_,(false),Ye1,H',⟨by have:=HK1.out;first|omega|exact Nat.le_refl _⟩,⟨kr aa.out⟩,⟨bk a6.out⟩,⟨bk a7.out⟩,⟨bk a9.out⟩,⟨bk a8.out⟩,⟨bf HB.out⟩⟩
     ·replace bd:=Bool.eq_false_iff.mpr bd;subst bd
      have H1:(if 0≤a4 then (spec_l5Set.j1 k1 false a4 (!(Op.bytesLess (((rd_T27 a5 a4).f0).toList) a1_0.toList)) a5 a1_0 a1_1 a1_2 ad) else (none))=some r:=by rw [if_neg (show ¬(false=true) by decide)] at H;exact H
      clear H;have H:=H1;clear H1
      by_cases bg:0≤a4
      ·rw [if_pos bg] at H
       have bV:decide (0≤a4)=true:=decide_eq_true bg;clear bg;(first|rw [bV]|(simp only [i64_w,i32_w];rw [bV])|skip);have H':=Aside0.mk H;clear H
       try go_wp2
       refine Ya6 (Kd.R_drew aa.out) (blk_drew a6.out) (blk_drew a7.out) (blk_drew a9.out) (blk_drew a8.out) (below_drew1 HB.out) ?_;clear aa a6 a7 a9 a8 HB;intro aa a6 a7 a9 a8 HB;have bz:0≤(a4:Int):=oda;have bA:a4<(a5.length:Int):=oda;obtain ⟨b8,cw,bh,bi,bj⟩:=at_T27 aN.out a4 bz bA;have hw137_2:=bj;have hw137_1:=bi;have hw137_0:=bh
       cases cw
       replace bh:=pw_cell_below HB.out bh;replace bi:=pw_cell_below HB.out bi;replace bj:=pw_cell_below HB.out bj;replace bz:=eq_true bz;replace bA:=eq_true bA;refine start_ (n:=13) (S:=fun w'=>w'.cell? ⟨ak,0,none⟩=some (.slice (some b8) a5.length aj)∧w'.cell? ⟨ac,0,none⟩=some (.string a1_0)∧w'.cell? ⟨ac,1,none⟩=some (.string a1_1)∧w'.cell? ⟨ac,2,none⟩=some (.bool a1_2)∧w'.cell? (b8.add ((a4).toNat*3))=some (.string ((rd_T27 a5 a4).f0))∧w'.cell? ⟨(b8.add ((a4).toNat*3)).block,(b8.add ((a4).toNat*3)).off+1,none⟩=some (.string ((rd_T27 a5 a4).f1))∧w'.cell? ⟨(b8.add ((a4).toNat*3)).block,(b8.add ((a4).toNat*3)).off+2,none⟩=some (.bool ((rd_T27 a5 a4).f2))) (ds:=[]) (fb 13 0) (by kernel_rfl) rfl rfl ⟨bc a6 0,bc a7 0,bc a7 1,bc a7 2,(pw_cell_below HB.out hw137_0),(pw_cell_below HB.out hw137_1),(pw_cell_below HB.out hw137_2)⟩ (fun hHeld => ?_);refine with_tabW spec_l5Set.tab6 spec_l5Set.bits6 (fun HT_ HW_ => ?_);generalize wr.drew=w20 at aa a6 a7 a9 a8 HB bh bi bj hHeld ⊢; refine pu 0 16 (fb 13 1) HT_ ?_;refine pu 1 17 (fb 13 3) HT_ ?_;refine pu 2 18 (fb 13 7) HT_ ?_;refine pu 3 19 (fb 13 15) HT_ ?_;refine pu 5 21 (fb 13 47) HT_ ?_;refine pu 9 25 (fb 13 559) HT_ ?_;refine tk 4 20 (fb 13 575) HT_ HW_ hHeld ?_;refine pu 6 22 (fb 13 639) HT_ ?_;refine pu 7 23 (fb 13 767) HT_ ?_;refine tk 8 24 (fb 13 1023) HT_ HW_ hHeld ?_;refine tk 10 26 (fb 13 2047) HT_ HW_ hHeld ?_;refine pu 11 27 (fb 13 4095) HT_ ?_;refine pu 12 28 (fb 13 8191) HT_ ?_;refine done_ (done_of HT_.out (by kernel_rfl)) ?_
       try go_wp2
       go_meet
       case rel=>exact ⟨_,(!(Op.bytesLess (((rd_T27 a5 a4).f0).toList) a1_0.toList)),Ye1,H',⟨by have:=HK1.out;first|omega|exact Nat.le_refl _⟩,⟨kr aa.out⟩,⟨bk a6.out⟩,⟨bk a7.out⟩,⟨bk a9.out⟩,⟨bk a8.out⟩,⟨bf HB.out⟩⟩
      ·rw [if_neg bg] at H
       exact absurd H (by simp)
    case rest =>
     clear bU;(try clear c1);(try clear p1);(try clear q1);(try clear hx1);(try clear p2);(try clear c7);(try clear c8);(try clear c9);(try clear aT);(try clear ck);(try clear c13);(try clear p13);(try clear q13);(try clear hx13);(try clear c14);(try clear c15);(try clear bd);(try clear bg);(try clear bV);(try clear ci);(try clear cu);(try clear cj);(try clear cv);(try clear bh);(try clear bi);(try clear bj);(try clear bz);(try clear p2);(try clear bA);obtain ⟨kq,bw,rfl,HA,HJ11,aa,a6,a7,a9,a8,HB⟩:=hcut
     cases kq with
     | zero=>exact absurd HA.out (by simp [spec_l5Set.j1])
     | succ ar =>
      have H:=HA.out;clear HA;simp only [spec_l5Set.j1] at H
      by_cases bB:bw=true
      ·subst bB
       have H1:(if ad.length<3518437208883 then ((some (ad ++ [(⟨a1_0,a1_1,a1_2⟩:S27)]:List (S27))).bind fun ab=>(if 0≤a4 then (if a4<(a5.length:Int) then (if ((rd_T27 a5 a4).f0).toList=a1_0.toList then (spec_l5Set.l0 ar true (wrap64 (a4+1)) a5 a1_0 a1_1 a1_2 ab) else (if ab.length<3518437208883 then (spec_l5Set.l0 ar true (wrap64 (a4+1)) a5 a1_0 a1_1 a1_2 (ab ++ [(⟨(rd_T27 a5 a4).f0,(rd_T27 a5 a4).f1,(rd_T27 a5 a4).f2⟩:S27)])) else (none))) else (none)) else (none))) else (none))=some r:=by rw [if_pos rfl] at H;exact H
       clear H;have H:=H1;clear H1
       by_cases bC:ad.length<3518437208883
       ·rw [if_pos bC] at H
        have cl:=Aside0.mk bC;clear bC
        obtain ⟨ab,bm⟩:∃ y_:List (S27),y_=(ad ++ [(⟨a1_0,a1_1,a1_2⟩:S27)]):=⟨_,rfl⟩
        replace H:(if 0≤a4 then (if a4<(a5.length:Int) then (if ((rd_T27 a5 a4).f0).toList=a1_0.toList then (spec_l5Set.l0 ar true (wrap64 (a4+1)) a5 a1_0 a1_1 a1_2 ab) else (if ab.length<3518437208883 then (spec_l5Set.l0 ar true (wrap64 (a4+1)) a5 a1_0 a1_1 a1_2 (ab ++ [(⟨(rd_T27 a5 a4).f0,(rd_T27 a5 a4).f1,(rd_T27 a5 a4).f2⟩:S27)])) else (none))) else (none)) else (none))=some r:=by first|(rw [bm];with_reducible exact H)|(have H2_:=(Option.bind_some _ _).symm.trans H;rw [bm];with_reducible exact H2_)|(have H2_:=(Option.bind_some _ _).symm.trans H;with_reducible exact H2_)|with_reducible exact H|(rw [bm];exact H)|exact H
        have cm:=Aside0.mk bm;clear bm
        by_cases bD:0≤a4
        ·rw [if_pos bD] at H
         have c23b0:decide (0≤a4)=true:=decide_eq_true bD;clear bD
         by_cases bE:a4<(a5.length:Int)
         ·rw [if_pos bE] at H
          have c24b0:decide (a4<(a5.length:Int))=true:=decide_eq_true bE;clear bE
          by_cases aU:((rd_T27 a5 a4).f0).toList=a1_0.toList
          ·rw [if_pos aU] at H
           have cx:(((rd_T27 a5 a4).f0).toList==a1_0.toList)=true:=beq_iff_eq.mpr aU;have cy:(((rd_T27 a5 a4).f0).toList != a1_0.toList)=false:=bne_eq_false_iff_eq.mpr aU;clear aU;have H':=Aside0.mk H;clear H;have hnb26:=aM.out;have hnc26:=an.out;have hnb27:=aQ.out;have hnc27:=ap.out;have hnb28:=aR.out;have hnc28:=aq.out;have ⟨cU,cV⟩:=Yc1 a8.out;have hnb30:=ba.out;have hnc30:=b9.out;have hnb31:=bu.out;have hnc31:=bv.out;have ⟨cW,cX,cY,cZ,d0,d1⟩:=Yc3 a7.out
           try go_wp2_with (first|((with_reducible refine gate_builtin (b:=.append) (xs:=#[.tmp 30,.tmp 32]) rfl ?_);at_builtin;refine Kd.R_append k27 (w0:=w) w.heap.size rfl (.tmp 30) (.tmp 32) 23 27 (.agg #[(.string ⟨#[]⟩),(.string ⟨#[]⟩),(.bool false)]) 40 rfl Tryd.underlying23 info27 rfl (by decide) (by omega) al ad (⟨a1_0,a1_1,a1_2⟩:S27) [.string a1_0,.string a1_1,.bool a1_2] (fun k_=>k_≠ac) (fun _=>False) rfl rfl ?aP (fun _ hk=>hk.elim) ?aF ?aO ?aB ?aS ?aL ?_;(case aP=>exact k27_mkM _ _ _ (⟨a1_0,a1_1,a1_2⟩:S27));(case aB=>exact (bf HB.out));(case aF=>exact (fun k_ hk=>Kd.freshB (g:=ac) (o:=.cells #[.string a1_0,.string a1_1,.bool a1_2] 27 (0,0)) (bk a7.out) k_ hk));(case aO=>exact (kr aa.out));(case aS=>exact (below_size (bf HB.out)));(case aL=>have:=cl.out;omega);intro cz aV ho hb hg hat;rw [←cm.out] at ho;refine Ya6 (blk_grown (g:=ak) (o:=.cells #[.slice ay a5.length aj] 25 (0,0)) (bk a6.out) hg (Kd.R_ne aa.out a6.out (by decide))) (blk_grown (g:=ac) (o:=.cells #[.string a1_0,.string a1_1,.bool a1_2] 27 (0,0)) (bk a7.out) hg (Kd.R_away aa.out (fun _ hk=>hk))) (blk_grown (g:=am) (o:=.cells #[.slice none 0 0] 25 (0,0)) (bk a9.out) hg (Kd.R_ne aa.out a9.out (by decide))) (blk_grown (g:=af) (o:=.cells #[al] 25 (0,0)) (bk a8.out) hg (Kd.R_ne aa.out a8.out (by decide))) (hb) (ho) ?_;clear a6 a7 a9 a8 HB aa;intro a6 a7 a9 a8 HB ae;clear ho hb hg hat;obtain ⟨az,aA,cA⟩:=Kd.R_slice ae.out;subst cA;have ⟨d2,d3⟩:=Yc1 a8.out))
           have aW:Aside0 (Kd.R k27 27 (aV.setCell ⟨af,0,none⟩ (.slice az ab.length aA)) w.heap.size (fun k_=>k_≠ac) (.slice az ab.length aA) ab):=⟨rf ae a8⟩
           have aX:Aside0 ((aV.setCell ⟨af,0,none⟩ (.slice az ab.length aA)).heap[ak]? = some (.cells #[.slice ay a5.length aj] 25 (0,0))):=⟨bkf a6.out an.out⟩
           have aY:Aside0 ((aV.setCell ⟨af,0,none⟩ (.slice az ab.length aA)).heap[ac]? = some (.cells #[.string a1_0,.string a1_1,.bool a1_2] 27 (0,0))):=⟨bkf a7.out ap.out⟩
           have aZ:Aside0 ((aV.setCell ⟨af,0,none⟩ (.slice az ab.length aA)).heap[am]? = some (.cells #[.slice none 0 0] 25 (0,0))):=⟨bkf a9.out aq.out⟩
           have b0:Aside0 ((aV.setCell ⟨af,0,none⟩ (.slice az ab.length aA)).heap[af]? = some (.cells #[.slice az ab.length aA] 25 (0,0))):=⟨bp a8.out⟩
           have b1:Aside0 (Below w.heap.size w (aV.setCell ⟨af,0,none⟩ (.slice az ab.length aA))):=⟨bf HB.out⟩
           (try clear ae);(try clear a6);(try clear a7);(try clear a9);(try clear a8);(try clear HB);generalize (aV.setCell ⟨af,0,none⟩ (.slice az ab.length aA))=w36 at aW aX aY aZ b0 b1 ⊢; have ae:=aW;have a6:=aX;have a7:=aY;have a9:=aZ;have a8:=b0;have HB:=b1;clear aW aX aY aZ b0 b1;refine Ya6 (Kd.R_drew ae.out) (blk_drew a6.out) (blk_drew a7.out) (blk_drew a9.out) (blk_drew a8.out) (below_drew1 HB.out) ?_;clear ae a6 a7 a9 a8 HB;intro ae a6 a7 a9 a8 HB;have b2:0≤(a4:Int):=oda;have b3:a4<(a5.length:Int):=oda;obtain ⟨ag,bW,aE,aG,aH⟩:=at_T27 aN.out a4 b2 b3;have hw141_2:=aH;have hw141_1:=aG;have hw141_0:=aE
           cases bW
           replace aE:=pw_cell_below HB.out aE;replace aG:=pw_cell_below HB.out aG;replace aH:=pw_cell_below HB.out aH;replace b2:=eq_true b2;replace b3:=eq_true b3;refine start_ (n:=9) (S:=fun w'=>w'.cell? ⟨ak,0,none⟩=some (.slice (some ag) a5.length aj)∧w'.cell? ⟨ac,0,none⟩=some (.string a1_0)∧w'.cell? ⟨ac,1,none⟩=some (.string a1_1)∧w'.cell? ⟨ac,2,none⟩=some (.bool a1_2)∧w'.cell? (ag.add ((a4).toNat*3))=some (.string ((rd_T27 a5 a4).f0))∧w'.cell? ⟨(ag.add ((a4).toNat*3)).block,(ag.add ((a4).toNat*3)).off+1,none⟩=some (.string ((rd_T27 a5 a4).f1))∧w'.cell? ⟨(ag.add ((a4).toNat*3)).block,(ag.add ((a4).toNat*3)).off+2,none⟩=some (.bool ((rd_T27 a5 a4).f2))) (ds:=[]) (fb 9 0) (by kernel_rfl) rfl rfl ⟨bc a6 0,bc a7 0,bc a7 1,bc a7 2,(pw_cell_below HB.out hw141_0),(pw_cell_below HB.out hw141_1),(pw_cell_below HB.out hw141_2)⟩ (fun hHeld => ?_);refine with_tabW spec_l5Set.tab9 spec_l5Set.bits9 (fun HT_ HW_ => ?_);generalize w36.drew=w37 at ae a6 a7 a9 a8 HB aE aG aH hHeld ⊢; refine pu 0 35 (fb 9 1) HT_ ?_;refine pu 2 37 (fb 9 5) HT_ ?_;refine pu 6 41 (fb 9 69) HT_ ?_;refine tk 1 36 (fb 9 71) HT_ HW_ hHeld ?_;refine pu 3 38 (fb 9 79) HT_ ?_;refine pu 4 39 (fb 9 95) HT_ ?_;refine tk 5 40 (fb 9 127) HT_ HW_ hHeld ?_;refine tk 7 42 (fb 9 255) HT_ HW_ hHeld ?_;refine pu 8 43 (fb 9 511) HT_ ?_;refine done_ (done_of HT_.out (by kernel_rfl)) ?_
           try go_wp2
           go_roundg ar
           case measure=>have:=HK1.out;have:=HJ11.out;omega
           case rel=>exact ⟨(true),(wrap64 (a4+1)),(ab),(.slice az ab.length aA),Ye1,Ye1,H',⟨by have:=HK1.out;have:=HJ11.out;omega⟩,⟨kr ae.out⟩,⟨bk a6.out⟩,⟨bk a7.out⟩,⟨bk a9.out⟩,⟨bk a8.out⟩,⟨bf HB.out⟩⟩
          ·rw [if_neg aU] at H
           have cx:(((rd_T27 a5 a4).f0).toList==a1_0.toList)=false:=beq_eq_false_iff_ne.mpr aU;have cy:(((rd_T27 a5 a4).f0).toList != a1_0.toList)=true:=bne_iff_ne.mpr aU
           by_cases bF:ab.length<3518437208883
           ·rw [if_pos bF] at H
            have cB:=Aside0.mk bF;clear bF
            obtain ⟨bX,bn⟩:∃ y_:List (S27),y_=(ab ++ [(⟨(rd_T27 a5 a4).f0,(rd_T27 a5 a4).f1,(rd_T27 a5 a4).f2⟩:S27)]):=⟨_,rfl⟩
            replace H:(spec_l5Set.l0 ar true (wrap64 (a4+1)) a5 a1_0 a1_1 a1_2 bX)=some r:=by first|(rw [bn];with_reducible exact H)|(have H2_:=(Option.bind_some _ _).symm.trans H;rw [bn];with_reducible exact H2_)|(have H2_:=(Option.bind_some _ _).symm.trans H;with_reducible exact H2_)|with_reducible exact H|(rw [bn];exact H)|exact H
            have cC:=Aside0.mk bn;clear bn;have H':=Aside0.mk H;clear H;have hnb39:=aM.out;have hnc39:=an.out;have hnb40:=aQ.out;have hnc40:=ap.out;have hnb41:=aR.out;have hnc41:=aq.out;have ⟨d4,d5⟩:=Yc1 a8.out;have hnb43:=ba.out;have hnc43:=b9.out;have hnb44:=bu.out;have hnc44:=bv.out;have ⟨d6,d7,d8,d9,da,db⟩:=Yc3 a7.out
            try go_wp2_with (first|((with_reducible refine gate_builtin (b:=.append) (xs:=#[.tmp 30,.tmp 32]) rfl ?_);at_builtin;refine Kd.R_append k27 (w0:=w) w.heap.size rfl (.tmp 30) (.tmp 32) 23 27 (.agg #[(.string ⟨#[]⟩),(.string ⟨#[]⟩),(.bool false)]) 40 rfl Tryd.underlying23 info27 rfl (by decide) (by omega) al ad (⟨a1_0,a1_1,a1_2⟩:S27) [.string a1_0,.string a1_1,.bool a1_2] (fun k_=>k_≠ac) (fun _=>False) rfl rfl ?aP (fun _ hk=>hk.elim) ?aF ?aO ?aB ?aS ?aL ?_;(case aP=>exact k27_mkM _ _ _ (⟨a1_0,a1_1,a1_2⟩:S27));(case aB=>exact (bf HB.out));(case aF=>exact (fun k_ hk=>Kd.freshB (g:=ac) (o:=.cells #[.string a1_0,.string a1_1,.bool a1_2] 27 (0,0)) (bk a7.out) k_ hk));(case aO=>exact (kr aa.out));(case aS=>exact (below_size (bf HB.out)));(case aL=>have:=cl.out;omega);intro cz b4 ho hb hg hat;rw [←cm.out] at ho;refine Ya6 (blk_grown (g:=ak) (o:=.cells #[.slice ay a5.length aj] 25 (0,0)) (bk a6.out) hg (Kd.R_ne aa.out a6.out (by decide))) (blk_grown (g:=ac) (o:=.cells #[.string a1_0,.string a1_1,.bool a1_2] 27 (0,0)) (bk a7.out) hg (Kd.R_away aa.out (fun _ hk=>hk))) (blk_grown (g:=am) (o:=.cells #[.slice none 0 0] 25 (0,0)) (bk a9.out) hg (Kd.R_ne aa.out a9.out (by decide))) (blk_grown (g:=af) (o:=.cells #[al] 25 (0,0)) (bk a8.out) hg (Kd.R_ne aa.out a8.out (by decide))) (hb) (ho) ?_;clear a6 a7 a9 a8 HB aa;intro a6 a7 a9 a8 HB ae;clear ho hb hg hat;obtain ⟨au,av,cD⟩:=Kd.R_slice ae.out;subst cD;have ⟨dc,dd⟩:=Yc1 a8.out))
            have aW:Aside0 (Kd.R k27 27 (b4.setCell ⟨af,0,none⟩ (.slice au ab.length av)) w.heap.size (fun k_=>k_≠ac) (.slice au ab.length av) ab):=⟨rf ae a8⟩
            have aX:Aside0 ((b4.setCell ⟨af,0,none⟩ (.slice au ab.length av)).heap[ak]? = some (.cells #[.slice ay a5.length aj] 25 (0,0))):=⟨bkf a6.out an.out⟩
            have aY:Aside0 ((b4.setCell ⟨af,0,none⟩ (.slice au ab.length av)).heap[ac]? = some (.cells #[.string a1_0,.string a1_1,.bool a1_2] 27 (0,0))):=⟨bkf a7.out ap.out⟩
            have aZ:Aside0 ((b4.setCell ⟨af,0,none⟩ (.slice au ab.length av)).heap[am]? = some (.cells #[.slice none 0 0] 25 (0,0))):=⟨bkf a9.out aq.out⟩
            have b0:Aside0 ((b4.setCell ⟨af,0,none⟩ (.slice au ab.length av)).heap[af]? = some (.cells #[.slice au ab.length av] 25 (0,0))):=⟨bp a8.out⟩
            have b1:Aside0 (Below w.heap.size w (b4.setCell ⟨af,0,none⟩ (.slice au ab.length av))):=⟨bf HB.out⟩
            (try clear ae);(try clear a6);(try clear a7);(try clear a9);(try clear a8);(try clear HB);generalize (b4.setCell ⟨af,0,none⟩ (.slice au ab.length av))=w49 at aW aX aY aZ b0 b1 ⊢; have ae:=aW;have a6:=aX;have a7:=aY;have a9:=aZ;have a8:=b0;have HB:=b1;clear aW aX aY aZ b0 b1;refine Ya6 (Kd.R_drew ae.out) (blk_drew a6.out) (blk_drew a7.out) (blk_drew a9.out) (blk_drew a8.out) (below_drew1 HB.out) ?_;clear ae a6 a7 a9 a8 HB;intro ae a6 a7 a9 a8 HB;have b2:0≤(a4:Int):=oda;have b3:a4<(a5.length:Int):=oda;obtain ⟨ag,bW,aE,aG,aH⟩:=at_T27 aN.out a4 b2 b3;have hw141_2:=aH;have hw141_1:=aG;have hw141_0:=aE
            cases bW
            replace aE:=pw_cell_below HB.out aE;replace aG:=pw_cell_below HB.out aG;replace aH:=pw_cell_below HB.out aH;replace b2:=eq_true b2;replace b3:=eq_true b3;refine start_ (n:=9) (S:=fun w'=>w'.cell? ⟨ak,0,none⟩=some (.slice (some ag) a5.length aj)∧w'.cell? ⟨ac,0,none⟩=some (.string a1_0)∧w'.cell? ⟨ac,1,none⟩=some (.string a1_1)∧w'.cell? ⟨ac,2,none⟩=some (.bool a1_2)∧w'.cell? (ag.add ((a4).toNat*3))=some (.string ((rd_T27 a5 a4).f0))∧w'.cell? ⟨(ag.add ((a4).toNat*3)).block,(ag.add ((a4).toNat*3)).off+1,none⟩=some (.string ((rd_T27 a5 a4).f1))∧w'.cell? ⟨(ag.add ((a4).toNat*3)).block,(ag.add ((a4).toNat*3)).off+2,none⟩=some (.bool ((rd_T27 a5 a4).f2))) (ds:=[]) (fb 9 0) (by kernel_rfl) rfl rfl ⟨bc a6 0,bc a7 0,bc a7 1,bc a7 2,(pw_cell_below HB.out hw141_0),(pw_cell_below HB.out hw141_1),(pw_cell_below HB.out hw141_2)⟩ (fun hHeld => ?_);refine with_tabW spec_l5Set.tab9 spec_l5Set.bits9 (fun HT_ HW_ => ?_);generalize w49.drew=w50 at ae a6 a7 a9 a8 HB aE aG aH hHeld ⊢; refine pu 0 35 (fb 9 1) HT_ ?_;refine pu 2 37 (fb 9 5) HT_ ?_;refine pu 6 41 (fb 9 69) HT_ ?_;refine tk 1 36 (fb 9 71) HT_ HW_ hHeld ?_;refine pu 3 38 (fb 9 79) HT_ ?_;refine pu 4 39 (fb 9 95) HT_ ?_;refine tk 5 40 (fb 9 127) HT_ HW_ hHeld ?_;refine tk 7 42 (fb 9 255) HT_ HW_ hHeld ?_;refine pu 8 43 (fb 9 511) HT_ ?_;refine done_ (done_of HT_.out (by kernel_rfl)) ?_
            try go_wp2
            refine Ya6 (Kd.R_drew ae.out) (blk_drew a6.out) (blk_drew a7.out) (blk_drew a9.out) (blk_drew a8.out) (below_drew1 HB.out) ?_;clear ae a6 a7 a9 a8 HB;intro ae a6 a7 a9 a8 HB;have bY:0≤(a4:Int):=oda;have bZ:a4<(a5.length:Int):=oda;obtain ⟨cE,cF,bG,bH,bI⟩:=at_T27 aN.out a4 bY bZ;have hw142_2:=bI;have hw142_1:=bH;have hw142_0:=bG
            obtain rfl:ag=cE:=(by injection cF)
            replace bG:=pw_cell_below HB.out bG;replace bH:=pw_cell_below HB.out bH;replace bI:=pw_cell_below HB.out bI;replace bY:=eq_true bY;replace bZ:=eq_true bZ;refine start_ (n:=11) (S:=fun w'=>w'.cell? ⟨af,0,none⟩=some (.slice au ab.length av)∧w'.cell? ⟨ak,0,none⟩=some (.slice (some ag) a5.length aj)∧w'.cell? (ag.add ((a4).toNat*3))=some (.string ((rd_T27 a5 a4).f0))∧w'.cell? ⟨(ag.add ((a4).toNat*3)).block,(ag.add ((a4).toNat*3)).off+1,none⟩=some (.string ((rd_T27 a5 a4).f1))∧w'.cell? ⟨(ag.add ((a4).toNat*3)).block,(ag.add ((a4).toNat*3)).off+2,none⟩=some (.bool ((rd_T27 a5 a4).f2))) (ds:=[10]) (fb 11 0) (by kernel_rfl) rfl rfl ⟨bc a8 0,bc a6 0,(pw_cell_below HB.out hw142_0),(pw_cell_below HB.out hw142_1),(pw_cell_below HB.out hw142_2)⟩ (fun hHeld => ?_);refine with_tabW spec_l5Set.tab10 spec_l5Set.bits10 (fun HT_ HW_ => ?_);generalize w50.drew=w51 at ae a6 a7 a9 a8 HB bG bH bI hHeld ⊢; refine pu 0 44 (fb 11 1) HT_ ?_;refine pu 2 46 (fb 11 5) HT_ ?_;refine pu 4 48 (fb 11 21) HT_ ?_;refine tk 1 45 (fb 11 23) HT_ HW_ hHeld ?_;refine tk 3 47 (fb 11 31) HT_ HW_ hHeld ?_;refine pu 5 49 (fb 11 63) HT_ ?_;refine tk 6 50 (fb 11 127) HT_ HW_ hHeld ?_;refine o1 7 (some 51) (fb 11 255) HT_ (fun K hK => ?_);refine value_ (w1:=?_) (v:=?_) (by rfl) rfl ?_ ?_;rotate_left 2
            ·go_simp
             constructor
             ·rfl
             ·rfl
            refine hK.out _ _ ⟨(blk_cell (blk_alloc a8.out _) 0).trans rfl,(blk_cell (blk_alloc a6.out _) 0).trans rfl,(World.cell?_alloc_lt _ _ _ (World.block_lt_of_cell? _ _ ((pw_cell_below HB.out hw142_0)))).trans ((pw_cell_below HB.out hw142_0)),(World.cell?_alloc_lt _ _ _ (World.block_lt_of_cell? _ _ ((pw_cell_below HB.out hw142_1)))).trans ((pw_cell_below HB.out hw142_1)),(World.cell?_alloc_lt _ _ _ (World.block_lt_of_cell? _ _ ((pw_cell_below HB.out hw142_2)))).trans ((pw_cell_below HB.out hw142_2))⟩ (fun hHeld => ?_);clear hK K;refine nm 51 ?_;refine o1 8 (some 52) (fb 11 511) HT_ (fun K hK => ?_);refine Kd.R_append_step k27 (w0:=w) w.heap.size (by rfl) (.tmp 45) (.tmp 51) 23 27 (.agg #[(.string ⟨#[]⟩),(.string ⟨#[]⟩),(.bool false)]) 40 rfl Tryd.underlying23 info27 rfl (by decide) (by omega) (.slice au ab.length av) ab (⟨(rd_T27 a5 a4).f0,(rd_T27 a5 a4).f1,(rd_T27 a5 a4).f2⟩:S27) [.string ((rd_T27 a5 a4).f0),.string ((rd_T27 a5 a4).f1),.bool ((rd_T27 a5 a4).f2)] (fun k_=>k_≠ac) (fun _=>False) rfl rfl ?aP (fun _ hk=>hk.elim) ?aF ?aO ?aB ?aS ?aL ?_;(case aP=>exact k27_mkM _ _ _ (⟨(rd_T27 a5 a4).f0,(rd_T27 a5 a4).f1,(rd_T27 a5 a4).f2⟩:S27));(case aB=>exact (bf HB.out));(case aF=>exact (fun k_ hk=>Kd.freshB (g:=ac) (o:=.cells #[.string a1_0,.string a1_1,.bool a1_2] 27 (0,0)) (bk a7.out) k_ hk));(case aO=>exact (kr ae.out));(case aS=>exact (below_size (bf HB.out)));(case aL=>have:=cB.out;omega);intro v144 w52 ho hb hg hat
            rw [←cC.out] at ho
            refine Ya6 (blk_grown (g:=ak) (o:=.cells #[.slice (some ag) a5.length aj] 25 (0,0)) (bk a6.out) hg (Kd.R_ne ae.out a6.out (by decide))) (blk_grown (g:=ac) (o:=.cells #[.string a1_0,.string a1_1,.bool a1_2] 27 (0,0)) (bk a7.out) hg (Kd.R_away ae.out (fun _ hk=>hk))) (blk_grown (g:=am) (o:=.cells #[.slice none 0 0] 25 (0,0)) (bk a9.out) hg (Kd.R_ne ae.out a9.out (by decide))) (blk_grown (g:=af) (o:=.cells #[.slice au ab.length av] 25 (0,0)) (bk a8.out) hg (Kd.R_ne ae.out a8.out (by decide))) (hb) (ho) ?_;clear a6 a7 a9 a8 HB ae;intro a6 a7 a9 a8 HB cn;clear ho hb hg hat;obtain ⟨cG,cH,co⟩:=Kd.R_slice cn.out;(first|subst co|(injection co with f1_ f2_ f3_;have f4_:=f1_.symm;have f5_:=f3_.symm;clear f1_ f2_ f3_;subst f4_;subst f5_));refine hK.out _ _ ⟨bc a8 0,bc a6 0,(pw_cell_below HB.out hw142_0),(pw_cell_below HB.out hw142_1),(pw_cell_below HB.out hw142_2)⟩ (fun hHeld => ?_);clear hK K;refine nm 52 ?_;refine pu 9 53 (fb 11 1023) HT_ ?_;refine last_ (i:=10) (N:=none) (fb 11 2047) rfl rfl (one_of HT_.out (by kernel_rfl)) (by decide) (fun K hK => ?_);have ⟨hs54,hfs54⟩:=Yc1 a8.out;have de:=an.out;have df:=ap.out;have dg:=aq.out;have dh:=aM.out;have di:=aQ.out;have dj:=aR.out;refine skip_ (w1:=?_) (by rfl) rfl ?_ ?_;rotate_left
            ·go_simp;rfl
            refine hK.out _ _ ?_;clear hK K;refine done_ (done_of HT_.out (by kernel_rfl)) ?_
            try go_wp2
            go_roundg ar
            case measure=>have:=HK1.out;have:=HJ11.out;omega
            case rel=>exact ⟨(true),(wrap64 (a4+1)),(bX),(.slice cG bX.length cH),Ye1,Ye1,H',⟨by have:=HK1.out;have:=HJ11.out;omega⟩,⟨rf cn a8⟩,⟨bkf a6.out an.out⟩,⟨bkf a7.out ap.out⟩,⟨bkf a9.out aq.out⟩,⟨bp a8.out⟩,⟨bf HB.out⟩⟩
           ·rw [if_neg bF] at H
            exact absurd H (by simp)
         ·rw [if_neg bE] at H
          exact absurd H (by simp)
        ·rw [if_neg bD] at H
         exact absurd H (by simp)
       ·rw [if_neg bC] at H
        exact absurd H (by simp)
      ·replace bB:=Bool.eq_false_iff.mpr bB;subst bB
       have H1:(if 0≤a4 then (if a4<(a5.length:Int) then (if ((rd_T27 a5 a4).f0).toList=a1_0.toList then (spec_l5Set.l0 ar ax (wrap64 (a4+1)) a5 a1_0 a1_1 a1_2 ad) else (if ad.length<3518437208883 then (spec_l5Set.l0 ar ax (wrap64 (a4+1)) a5 a1_0 a1_1 a1_2 (ad ++ [(⟨(rd_T27 a5 a4).f0,(rd_T27 a5 a4).f1,(rd_T27 a5 a4).f2⟩:S27)])) else (none))) else (none)) else (none))=some r:=by rw [if_neg (show ¬(false=true) by decide)] at H;exact H
       clear H;have H:=H1;clear H1
       by_cases bJ:0≤a4
       ·rw [if_pos bJ] at H
        have c55b0:decide (0≤a4)=true:=decide_eq_true bJ;clear bJ
        by_cases bK:a4<(a5.length:Int)
        ·rw [if_pos bK] at H
         have c56b0:decide (a4<(a5.length:Int))=true:=decide_eq_true bK;clear bK
         by_cases b5:((rd_T27 a5 a4).f0).toList=a1_0.toList
         ·rw [if_pos b5] at H
          have cI:(((rd_T27 a5 a4).f0).toList==a1_0.toList)=true:=beq_iff_eq.mpr b5;have cJ:(((rd_T27 a5 a4).f0).toList != a1_0.toList)=false:=bne_eq_false_iff_eq.mpr b5;clear b5;have H':=Aside0.mk H;clear H
          try go_wp2
          refine Ya6 (Kd.R_drew aa.out) (blk_drew a6.out) (blk_drew a7.out) (blk_drew a9.out) (blk_drew a8.out) (below_drew1 HB.out) ?_;clear aa a6 a7 a9 a8 HB;intro aa a6 a7 a9 a8 HB;have b6:0≤(a4:Int):=oda;have b7:a4<(a5.length:Int):=oda;obtain ⟨ah,c0,aI,aJ,aK⟩:=at_T27 aN.out a4 b6 b7;have hw146_2:=aK;have hw146_1:=aJ;have hw146_0:=aI
          cases c0
          replace aI:=pw_cell_below HB.out aI;replace aJ:=pw_cell_below HB.out aJ;replace aK:=pw_cell_below HB.out aK;replace b6:=eq_true b6;replace b7:=eq_true b7;refine start_ (n:=9) (S:=fun w'=>w'.cell? ⟨ak,0,none⟩=some (.slice (some ah) a5.length aj)∧w'.cell? ⟨ac,0,none⟩=some (.string a1_0)∧w'.cell? ⟨ac,1,none⟩=some (.string a1_1)∧w'.cell? ⟨ac,2,none⟩=some (.bool a1_2)∧w'.cell? (ah.add ((a4).toNat*3))=some (.string ((rd_T27 a5 a4).f0))∧w'.cell? ⟨(ah.add ((a4).toNat*3)).block,(ah.add ((a4).toNat*3)).off+1,none⟩=some (.string ((rd_T27 a5 a4).f1))∧w'.cell? ⟨(ah.add ((a4).toNat*3)).block,(ah.add ((a4).toNat*3)).off+2,none⟩=some (.bool ((rd_T27 a5 a4).f2))) (ds:=[]) (fb 9 0) (by kernel_rfl) rfl rfl ⟨bc a6 0,bc a7 0,bc a7 1,bc a7 2,(pw_cell_below HB.out hw146_0),(pw_cell_below HB.out hw146_1),(pw_cell_below HB.out hw146_2)⟩ (fun hHeld => ?_);refine with_tabW spec_l5Set.tab9 spec_l5Set.bits9 (fun HT_ HW_ => ?_);generalize wc.drew=w58 at aa a6 a7 a9 a8 HB aI aJ aK hHeld ⊢; refine pu 0 35 (fb 9 1) HT_ ?_;refine pu 2 37 (fb 9 5) HT_ ?_;refine pu 6 41 (fb 9 69) HT_ ?_;refine tk 1 36 (fb 9 71) HT_ HW_ hHeld ?_;refine pu 3 38 (fb 9 79) HT_ ?_;refine pu 4 39 (fb 9 95) HT_ ?_;refine tk 5 40 (fb 9 127) HT_ HW_ hHeld ?_;refine tk 7 42 (fb 9 255) HT_ HW_ hHeld ?_;refine pu 8 43 (fb 9 511) HT_ ?_;refine done_ (done_of HT_.out (by kernel_rfl)) ?_
          try go_wp2
          go_roundg ar
          case measure=>have:=HK1.out;have:=HJ11.out;omega
          case rel=>exact ⟨(ax),(wrap64 (a4+1)),(ad),(al),Ye1,Ye1,H',⟨by have:=HK1.out;have:=HJ11.out;omega⟩,⟨kr aa.out⟩,⟨bk a6.out⟩,⟨bk a7.out⟩,⟨bk a9.out⟩,⟨bk a8.out⟩,⟨bf HB.out⟩⟩
         ·rw [if_neg b5] at H
          have cI:(((rd_T27 a5 a4).f0).toList==a1_0.toList)=false:=beq_eq_false_iff_ne.mpr b5;have cJ:(((rd_T27 a5 a4).f0).toList != a1_0.toList)=true:=bne_iff_ne.mpr b5
          by_cases bL:ad.length<3518437208883
          ·rw [if_pos bL] at H
           have cK:=Aside0.mk bL;clear bL
           obtain ⟨ca,bo⟩:∃ y_:List (S27),y_=(ad ++ [(⟨(rd_T27 a5 a4).f0,(rd_T27 a5 a4).f1,(rd_T27 a5 a4).f2⟩:S27)]):=⟨_,rfl⟩
           replace H:(spec_l5Set.l0 ar ax (wrap64 (a4+1)) a5 a1_0 a1_1 a1_2 ca)=some r:=by first|(rw [bo];with_reducible exact H)|(have H2_:=(Option.bind_some _ _).symm.trans H;rw [bo];with_reducible exact H2_)|(have H2_:=(Option.bind_some _ _).symm.trans H;with_reducible exact H2_)|with_reducible exact H|(rw [bo];exact H)|exact H
           have cL:=Aside0.mk bo;clear bo;have H':=Aside0.mk H;clear H
           try go_wp2
           refine Ya6 (Kd.R_drew aa.out) (blk_drew a6.out) (blk_drew a7.out) (blk_drew a9.out) (blk_drew a8.out) (below_drew1 HB.out) ?_;clear aa a6 a7 a9 a8 HB;intro aa a6 a7 a9 a8 HB;have b6:0≤(a4:Int):=oda;have b7:a4<(a5.length:Int):=oda;obtain ⟨ah,c0,aI,aJ,aK⟩:=at_T27 aN.out a4 b6 b7;have hw146_2:=aK;have hw146_1:=aJ;have hw146_0:=aI
           cases c0
           replace aI:=pw_cell_below HB.out aI;replace aJ:=pw_cell_below HB.out aJ;replace aK:=pw_cell_below HB.out aK;replace b6:=eq_true b6;replace b7:=eq_true b7;refine start_ (n:=9) (S:=fun w'=>w'.cell? ⟨ak,0,none⟩=some (.slice (some ah) a5.length aj)∧w'.cell? ⟨ac,0,none⟩=some (.string a1_0)∧w'.cell? ⟨ac,1,none⟩=some (.string a1_1)∧w'.cell? ⟨ac,2,none⟩=some (.bool a1_2)∧w'.cell? (ah.add ((a4).toNat*3))=some (.string ((rd_T27 a5 a4).f0))∧w'.cell? ⟨(ah.add ((a4).toNat*3)).block,(ah.add ((a4).toNat*3)).off+1,none⟩=some (.string ((rd_T27 a5 a4).f1))∧w'.cell? ⟨(ah.add ((a4).toNat*3)).block,(ah.add ((a4).toNat*3)).off+2,none⟩=some (.bool ((rd_T27 a5 a4).f2))) (ds:=[]) (fb 9 0) (by kernel_rfl) rfl rfl ⟨bc a6 0,bc a7 0,bc a7 1,bc a7 2,(pw_cell_below HB.out hw146_0),(pw_cell_below HB.out hw146_1),(pw_cell_below HB.out hw146_2)⟩ (fun hHeld => ?_);refine with_tabW spec_l5Set.tab9 spec_l5Set.bits9 (fun HT_ HW_ => ?_);generalize wc.drew=w60 at aa a6 a7 a9 a8 HB aI aJ aK hHeld ⊢; refine pu 0 35 (fb 9 1) HT_ ?_;refine pu 2 37 (fb 9 5) HT_ ?_;refine pu 6 41 (fb 9 69) HT_ ?_;refine tk 1 36 (fb 9 71) HT_ HW_ hHeld ?_;refine pu 3 38 (fb 9 79) HT_ ?_;refine pu 4 39 (fb 9 95) HT_ ?_;refine tk 5 40 (fb 9 127) HT_ HW_ hHeld ?_;refine tk 7 42 (fb 9 255) HT_ HW_ hHeld ?_;refine pu 8 43 (fb 9 511) HT_ ?_;refine done_ (done_of HT_.out (by kernel_rfl)) ?_
           try go_wp2
           refine Ya6 (Kd.R_drew aa.out) (blk_drew a6.out) (blk_drew a7.out) (blk_drew a9.out) (blk_drew a8.out) (below_drew1 HB.out) ?_;clear aa a6 a7 a9 a8 HB;intro aa a6 a7 a9 a8 HB;have cc:0≤(a4:Int):=oda;have cd:a4<(a5.length:Int):=oda;obtain ⟨cM,cN,bM,bN,bO⟩:=at_T27 aN.out a4 cc cd;have hw147_2:=bO;have hw147_1:=bN;have hw147_0:=bM
           obtain rfl:ah=cM:=(by injection cN)
           replace bM:=pw_cell_below HB.out bM;replace bN:=pw_cell_below HB.out bN;replace bO:=pw_cell_below HB.out bO;replace cc:=eq_true cc;replace cd:=eq_true cd;refine start_ (n:=11) (S:=fun w'=>w'.cell? ⟨af,0,none⟩=some (al)∧w'.cell? ⟨ak,0,none⟩=some (.slice (some ah) a5.length aj)∧w'.cell? (ah.add ((a4).toNat*3))=some (.string ((rd_T27 a5 a4).f0))∧w'.cell? ⟨(ah.add ((a4).toNat*3)).block,(ah.add ((a4).toNat*3)).off+1,none⟩=some (.string ((rd_T27 a5 a4).f1))∧w'.cell? ⟨(ah.add ((a4).toNat*3)).block,(ah.add ((a4).toNat*3)).off+2,none⟩=some (.bool ((rd_T27 a5 a4).f2))) (ds:=[10]) (fb 11 0) (by kernel_rfl) rfl rfl ⟨bc a8 0,bc a6 0,(pw_cell_below HB.out hw147_0),(pw_cell_below HB.out hw147_1),(pw_cell_below HB.out hw147_2)⟩ (fun hHeld => ?_);refine with_tabW spec_l5Set.tab10 spec_l5Set.bits10 (fun HT_ HW_ => ?_);generalize w60.drew=w61 at aa a6 a7 a9 a8 HB bM bN bO hHeld ⊢; refine pu 0 44 (fb 11 1) HT_ ?_;refine pu 2 46 (fb 11 5) HT_ ?_;refine pu 4 48 (fb 11 21) HT_ ?_;refine tk 1 45 (fb 11 23) HT_ HW_ hHeld ?_;refine tk 3 47 (fb 11 31) HT_ HW_ hHeld ?_;refine pu 5 49 (fb 11 63) HT_ ?_;refine tk 6 50 (fb 11 127) HT_ HW_ hHeld ?_;refine o1 7 (some 51) (fb 11 255) HT_ (fun K hK => ?_);refine value_ (w1:=?_) (v:=?_) (by rfl) rfl ?_ ?_;rotate_left 2
           ·go_simp
            constructor
            ·rfl
            ·rfl
           refine hK.out _ _ ⟨(blk_cell (blk_alloc a8.out _) 0).trans rfl,(blk_cell (blk_alloc a6.out _) 0).trans rfl,(World.cell?_alloc_lt _ _ _ (World.block_lt_of_cell? _ _ ((pw_cell_below HB.out hw147_0)))).trans ((pw_cell_below HB.out hw147_0)),(World.cell?_alloc_lt _ _ _ (World.block_lt_of_cell? _ _ ((pw_cell_below HB.out hw147_1)))).trans ((pw_cell_below HB.out hw147_1)),(World.cell?_alloc_lt _ _ _ (World.block_lt_of_cell? _ _ ((pw_cell_below HB.out hw147_2)))).trans ((pw_cell_below HB.out hw147_2))⟩ (fun hHeld => ?_);clear hK K;refine nm 51 ?_;refine o1 8 (some 52) (fb 11 511) HT_ (fun K hK => ?_);refine Kd.R_append_step k27 (w0:=w) w.heap.size (by rfl) (.tmp 45) (.tmp 51) 23 27 (.agg #[(.string ⟨#[]⟩),(.string ⟨#[]⟩),(.bool false)]) 40 rfl Tryd.underlying23 info27 rfl (by decide) (by omega) al ad (⟨(rd_T27 a5 a4).f0,(rd_T27 a5 a4).f1,(rd_T27 a5 a4).f2⟩:S27) [.string ((rd_T27 a5 a4).f0),.string ((rd_T27 a5 a4).f1),.bool ((rd_T27 a5 a4).f2)] (fun k_=>k_≠ac) (fun _=>False) rfl rfl ?aP (fun _ hk=>hk.elim) ?aF ?aO ?aB ?aS ?aL ?_;(case aP=>exact k27_mkM _ _ _ (⟨(rd_T27 a5 a4).f0,(rd_T27 a5 a4).f1,(rd_T27 a5 a4).f2⟩:S27));(case aB=>exact (bf HB.out));(case aF=>exact (fun k_ hk=>Kd.freshB (g:=ac) (o:=.cells #[.string a1_0,.string a1_1,.bool a1_2] 27 (0,0)) (bk a7.out) k_ hk));(case aO=>exact (kr aa.out));(case aS=>exact (below_size (bf HB.out)));(case aL=>have:=cK.out;omega);intro v149 w62 ho hb hg hat
           rw [←cL.out] at ho
           refine Ya6 (blk_grown (g:=ak) (o:=.cells #[.slice (some ah) a5.length aj] 25 (0,0)) (bk a6.out) hg (Kd.R_ne aa.out a6.out (by decide))) (blk_grown (g:=ac) (o:=.cells #[.string a1_0,.string a1_1,.bool a1_2] 27 (0,0)) (bk a7.out) hg (Kd.R_away aa.out (fun _ hk=>hk))) (blk_grown (g:=am) (o:=.cells #[.slice none 0 0] 25 (0,0)) (bk a9.out) hg (Kd.R_ne aa.out a9.out (by decide))) (blk_grown (g:=af) (o:=.cells #[al] 25 (0,0)) (bk a8.out) hg (Kd.R_ne aa.out a8.out (by decide))) (hb) (ho) ?_;clear a6 a7 a9 a8 HB aa;intro a6 a7 a9 a8 HB cp;clear ho hb hg hat;obtain ⟨cO,cP,cq⟩:=Kd.R_slice cp.out;(first|subst cq|(injection cq with f1_ f2_ f3_;have f4_:=f1_.symm;have f5_:=f3_.symm;clear f1_ f2_ f3_;subst f4_;subst f5_));refine hK.out _ _ ⟨bc a8 0,bc a6 0,(pw_cell_below HB.out hw147_0),(pw_cell_below HB.out hw147_1),(pw_cell_below HB.out hw147_2)⟩ (fun hHeld => ?_);clear hK K;refine nm 52 ?_;refine pu 9 53 (fb 11 1023) HT_ ?_;refine last_ (i:=10) (N:=none) (fb 11 2047) rfl rfl (one_of HT_.out (by kernel_rfl)) (by decide) (fun K hK => ?_);have ⟨hs64,hfs64⟩:=Yc1 a8.out;have dk:=an.out;have dl:=ap.out;have dm:=aq.out;have dn:=aM.out;have dp:=aQ.out;have dq:=aR.out;refine skip_ (w1:=?_) (by rfl) rfl ?_ ?_;rotate_left
           ·go_simp;rfl
           refine hK.out _ _ ?_;clear hK K;refine done_ (done_of HT_.out (by kernel_rfl)) ?_
           try go_wp2
           go_roundg ar
           case measure=>have:=HK1.out;have:=HJ11.out;omega
           case rel=>exact ⟨(ax),(wrap64 (a4+1)),(ca),(.slice cO ca.length cP),Ye1,Ye1,H',⟨by have:=HK1.out;have:=HJ11.out;omega⟩,⟨rf cp a8⟩,⟨bkf a6.out an.out⟩,⟨bkf a7.out ap.out⟩,⟨bkf a9.out aq.out⟩,⟨bp a8.out⟩,⟨bf HB.out⟩⟩
          ·rw [if_neg bL] at H
           exact absurd H (by simp)
        ·rw [if_neg bK] at H
         exact absurd H (by simp)
       ·rw [if_neg bJ] at H
        exact absurd H (by simp)
   ·rw [if_neg aT] at H
    have ck:decide (a4<(a5.length:Int))=false:=decide_eq_false aT;clear aT
    by_cases bP:ax=true
    ·subst bP
     have H1:(some ad)=some r:=by rw [if_pos rfl] at H;exact H
     clear H;have H:=H1;clear H1;obtain rfl:=Option.some.inj H;have hnb66:=b9.out;have hnc66:=ba.out;have hnb67:=bS.out;have hnc67:=bT.out;have hnb68:=an.out;have hnc68:=aM.out;have ⟨dr,dt⟩:=Yc1 a6.out;have hnb70:=aQ.out;have hnc70:=ap.out;have hnb71:=aR.out;have hnc71:=aq.out;have ⟨du,dv⟩:=Yc1 a8.out;obtain ⟨cr,cs,cQ⟩:=Kd.R_slice aa.out;subst cQ;have hnb74:=bv.out;have hnc74:=bu.out;have ⟨dw,dx⟩:=Yc1 a9.out
     go_wp2
     refine bodyPost_ret (results_cell_row rfl _ _ am 25 #[.slice cr ad.length cs] (0,0) _ rfl (bp a9.out) Tryd.underlying25 rfl (by kernel_rfl)) rfl ?_;exact ⟨_,Ye2,by (with_reducible repeat (first|apply Kd.R_alloc|apply Kd.R_drewN|apply Kd.R_drew));exact Kd.R_mono (Kd.R_far (p:=⟨am,0,none⟩) (Kd.R_types aa.out a9.out (by decide)) (fun _ hk=>hk.2) (.slice cr ad.length cs)) (fun _ hk=>trivial),(bf HB.out)⟩
    ·replace bP:=Bool.eq_false_iff.mpr bP;subst bP
     have H1:(if ad.length<3518437208883 then (some (ad ++ [(⟨a1_0,a1_1,a1_2⟩:S27)])) else (none))=some r:=by rw [if_neg (show ¬(false=true) by decide)] at H;exact H
     clear H;have H:=H1;clear H1
     by_cases bQ:ad.length<3518437208883
     ·rw [if_pos bQ] at H
      have cR:=Aside0.mk bQ;clear bQ
      obtain ⟨bR,bq⟩:∃ y_:List (S27),y_=(ad ++ [(⟨a1_0,a1_1,a1_2⟩:S27)]):=⟨_,rfl⟩
      replace H:(some bR)=some r:=by first|(rw [bq];with_reducible exact H)|(have H2_:=(Option.bind_some _ _).symm.trans H;rw [bq];with_reducible exact H2_)|(have H2_:=(Option.bind_some _ _).symm.trans H;with_reducible exact H2_)|with_reducible exact H|(rw [bq];exact H)|exact H
      have cS:=Aside0.mk bq;clear bq;obtain rfl:=Option.some.inj H;have hnb77:=b9.out;have hnc77:=ba.out;have hnb78:=bS.out;have hnc78:=bT.out;have hnb79:=an.out;have hnc79:=aM.out;have ⟨dy,dA⟩:=Yc1 a6.out;have hnb81:=aQ.out;have hnc81:=ap.out;have hnb82:=aR.out;have hnc82:=aq.out;have ⟨dB,dC⟩:=Yc1 a8.out;have hnb84:=bu.out;have hnc84:=bv.out;have ⟨dD,dE,dF,dG,dH,dI⟩:=Yc3 a7.out
      go_wp2_with (first|((with_reducible refine gate_builtin (b:=.append) (xs:=#[.tmp 57,.tmp 59]) rfl ?_);at_builtin;refine Kd.R_append k27 (w0:=w) w.heap.size rfl (.tmp 57) (.tmp 59) 23 27 (.agg #[(.string ⟨#[]⟩),(.string ⟨#[]⟩),(.bool false)]) 40 rfl Tryd.underlying23 info27 rfl (by decide) (by omega) al ad (⟨a1_0,a1_1,a1_2⟩:S27) [.string a1_0,.string a1_1,.bool a1_2] (fun k_=>k_≠ac) (fun _=>False) rfl rfl ?aP (fun _ hk=>hk.elim) ?aF ?aO ?aB ?aS ?aL ?_;(case aP=>exact k27_mkM _ _ _ (⟨a1_0,a1_1,a1_2⟩:S27));(case aB=>exact (bf HB.out));(case aF=>exact (fun k_ hk=>Kd.freshB (g:=ac) (o:=.cells #[.string a1_0,.string a1_1,.bool a1_2] 27 (0,0)) (bk a7.out) k_ hk));(case aO=>exact (kr aa.out));(case aS=>exact (below_size (bf HB.out)));(case aL=>have:=cR.out;omega);intro v135 w86 ho hb hg hat;rw [←cS.out] at ho;refine Ya6 (blk_grown (g:=ak) (o:=.cells #[.slice ay a5.length aj] 25 (0,0)) (bk a6.out) hg (Kd.R_ne aa.out a6.out (by decide))) (blk_grown (g:=ac) (o:=.cells #[.string a1_0,.string a1_1,.bool a1_2] 27 (0,0)) (bk a7.out) hg (Kd.R_away aa.out (fun _ hk=>hk))) (blk_grown (g:=am) (o:=.cells #[.slice none 0 0] 25 (0,0)) (bk a9.out) hg (Kd.R_ne aa.out a9.out (by decide))) (blk_grown (g:=af) (o:=.cells #[al] 25 (0,0)) (bk a8.out) hg (Kd.R_ne aa.out a8.out (by decide))) (hb) (ho) ?_;clear a6 a7 a9 a8 HB aa;intro a6 a7 a9 a8 HB ct;clear ho hb hg hat;obtain ⟨ce,cf,cT⟩:=Kd.R_slice ct.out;subst cT;have ⟨dJ,dK⟩:=Yc1 a8.out;have ⟨dL,dM⟩:=Yc1 a9.out))
      refine bodyPost_ret (results_cell_row rfl _ _ am 25 #[.slice ce bR.length cf] (0,0) _ rfl (bp a9.out) Tryd.underlying25 rfl (by kernel_rfl)) rfl ?_;exact ⟨_,Ye2,by (with_reducible repeat (first|apply Kd.R_alloc|apply Kd.R_drewN|apply Kd.R_drew));exact Kd.R_mono (Kd.R_far (p:=⟨am,0,none⟩) (Kd.R_far (p:=⟨af,0,none⟩) (Kd.R_types (Kd.R_types ct.out a8.out (by decide)) a9.out (by decide)) (fun _ hk=>hk.1.2) (.slice ce bR.length cf)) (fun _ hk=>hk.2) (.slice ce bR.length cf)) (fun _ hk=>trivial),(bf HB.out)⟩
     ·rw [if_neg bQ] at H
      exact absurd H (by simp)

end Go.Proofs.YtknagppkeodggaaDoor.P


namespace Go.Proofs.YtknagppkeodggaaDoor.P
open Go.RowKit Go.Proofs.YtknagppkeodggaaDoorW.PrintWords Go.Proofs.YtknagppkeodggaaDoorW.PrintLast Go.Proofs.YtknagppkeodggaaDoorW.PrintMore
attribute [local go_sem] max2_int min2_int max_two min_two max_three min_three max_four min_four
set_option linter.unusedVariables false
set_option linter.unusedSimpArgs false

def spec_l5Begins.f (a0:ByteArray) (a1:ByteArray):Option (Bool):=if (a1.size:Int)>(a0.size:Int) then (if 0≤(a0.size:Int) then (if (a0.size:Int)≤(a1.size:Int) then (if (a1.extract 0 ((a0.size:Int):Int).toNat).toList=a0.toList then (if (a0.size:Int)<(a1.size:Int) then (some ((bt a1 (a0.size:Int))==47)) else (none)) else (some false)) else (none)) else (none)) else (some false)
set_option maxHeartbeats 8000000 in
set_option maxRecDepth 100000 in
theorem spec_l5Begins.calls (a0:ByteArray) (a1:ByteArray) (r:Bool) (w:World) (h:spec_l5Begins.f a0 a1=some r) :
  Calls Tryd.prog 72 #[.string a0,.string a1] w fun e w'=>e = .returned (.bool r)∧Drawn0 w w':=by
 have H:(if (a1.size:Int)>(a0.size:Int) then (if 0≤(a0.size:Int) then (if (a0.size:Int)≤(a1.size:Int) then (if (a1.extract 0 ((a0.size:Int):Int).toNat).toList=a0.toList then (if (a0.size:Int)<(a1.size:Int) then (some ((bt a1 (a0.size:Int))==47)) else (none)) else (some false)) else (none)) else (none)) else (some false))=some r:=h;clear h
 by_cases c3:(a1.size:Int)>(a0.size:Int)
 ·rw [if_pos c3] at H
  have a6:decide ((a0.size:Int)<(a1.size:Int))=true:=decide_eq_true c3;have a7:decide (a0.size<a1.size)=true:=decide_eq_true (Int.ofNat_lt.mp c3);clear c3
  by_cases c4:0≤(a0.size:Int)
  ·rw [if_pos c4] at H
   have c4b0:=eq_true c4;have c4b1:decide (0≤(a0.size:Int))=true:=decide_eq_true c4;clear c4
   by_cases c5:(a0.size:Int)≤(a1.size:Int)
   ·rw [if_pos c5] at H
    have c5b0:=eq_true c5;have c5b1:decide ((a0.size:Int)≤(a1.size:Int))=true:=decide_eq_true c5;clear c5
    by_cases c6:(a1.extract 0 ((a0.size:Int):Int).toNat).toList=a0.toList
    ·rw [if_pos c6] at H
     have a2:((a1.extract 0 ((a0.size:Int):Int).toNat).toList==a0.toList)=true:=beq_iff_eq.mpr c6;have a3:=a2;(try simp only [Int.toNat_natCast] at a3);have a4:((a1.extract 0 ((a0.size:Int):Int).toNat).toList != a0.toList)=false:=bne_eq_false_iff_eq.mpr c6;have a5:=a4;(try simp only [Int.toNat_natCast] at a5);clear c6
     by_cases c7:(a0.size:Int)<(a1.size:Int)
     ·rw [if_pos c7] at H
      have c7b0:decide ((a0.size:Int)<(a1.size:Int))=true:=decide_eq_true c7;have c7b1:decide (a0.size<a1.size)=true:=decide_eq_true (Int.ofNat_lt.mp c7);clear c7;obtain rfl:=Option.some.inj H;have p8:0≤((a0.size:Int):Int):=oda;have q8:(a0.size:Int)<(a1.size:Int):=oda;have hx8:=bt_at a1 (a0.size:Int);(try have hx8n:=hx8 (by omega));(try simp only [Int.toNat_natCast] at hx8n);replace p8:=eq_true p8;replace q8:=eq_true q8
      go_enter Tryd.func72,Tryd.ntmps72
      go_wp2
      go_ret
      exact ⟨Ye1,dz⟩
     ·rw [if_neg c7] at H
      exact absurd H (by simp)
    ·rw [if_neg c6] at H
     have a2:((a1.extract 0 ((a0.size:Int):Int).toNat).toList==a0.toList)=false:=beq_eq_false_iff_ne.mpr c6;have a3:=a2;(try simp only [Int.toNat_natCast] at a3);have a4:((a1.extract 0 ((a0.size:Int):Int).toNat).toList != a0.toList)=true:=bne_iff_ne.mpr c6;have a5:=a4;(try simp only [Int.toNat_natCast] at a5);obtain rfl:=Option.some.inj H
     go_enter Tryd.func72,Tryd.ntmps72
     go_wp2
     go_ret
     exact ⟨Ye1,dz⟩
   ·rw [if_neg c5] at H
    exact absurd H (by simp)
  ·rw [if_neg c4] at H
   exact absurd H (by simp)
 ·rw [if_neg c3] at H
  have a6:decide ((a0.size:Int)<(a1.size:Int))=false:=decide_eq_false c3;have a7:decide (a0.size<a1.size)=false:=decide_eq_false (fun h=>c3 (Int.ofNat_lt.mpr h));clear c3;obtain rfl:=Option.some.inj H
  go_enter Tryd.func72,Tryd.ntmps72
  go_wp2
  go_ret
  exact ⟨Ye1,dz⟩

end Go.Proofs.YtknagppkeodggaaDoor.P


namespace Go.Proofs.YtknagppkeodggaaDoor.P
open Go.RowKit Go.Proofs.YtknagppkeodggaaDoorW.PrintWords Go.Proofs.YtknagppkeodggaaDoorW.PrintLast Go.Proofs.YtknagppkeodggaaDoorW.PrintMore
attribute [local go_sem] max2_int min2_int max_two min_two max_three min_three max_four min_four
set_option linter.unusedVariables false
set_option linter.unusedSimpArgs false

def spec_l1In.f (a0:Int) (a1:Int) (a2:Int):Option (Bool):=if a0 ≥ a1 then (some (decide (a0≤a2))) else (some false)
set_option maxHeartbeats 8000000 in
set_option maxRecDepth 100000 in
theorem spec_l1In.calls (a0:Int) (a1:Int) (a2:Int) (r:Bool) (w:World) (h:spec_l1In.f a0 a1 a2=some r) :
  Calls Tryd.prog 131 #[.int .i64 a0,.int .i64 a1,.int .i64 a2] w fun e w'=>e = .returned (.bool r)∧Drawn0 w w':=by
 have H:(if a0 ≥ a1 then (some (decide (a0≤a2))) else (some false))=some r:=h;clear h
 by_cases c4:a0 ≥ a1
 ·rw [if_pos c4] at H
  have a3:decide (a1≤a0)=true:=decide_eq_true c4;clear c4;obtain rfl:=Option.some.inj H
  go_enter Tryd.func131,Tryd.ntmps131
  go_wp2
  go_ret
  exact ⟨Ye1,dz⟩
 ·rw [if_neg c4] at H
  have a3:decide (a1≤a0)=false:=decide_eq_false c4;clear c4;obtain rfl:=Option.some.inj H
  go_enter Tryd.func131,Tryd.ntmps131
  go_wp2
  go_ret
  exact ⟨Ye1,dz⟩

end Go.Proofs.YtknagppkeodggaaDoor.P


namespace Go.Proofs.YtknagppkeodggaaDoor.P
open Go.RowKit Go.Proofs.YtknagppkeodggaaDoorW.PrintWords Go.Proofs.YtknagppkeodggaaDoorW.PrintLast Go.Proofs.YtknagppkeodggaaDoorW.PrintMore
attribute [local go_sem] max2_int min2_int max_two min_two max_three min_three max_four min_four
set_option linter.unusedVariables false
set_option linter.unusedSimpArgs false

mutual
def spec_l4PartOk.j0:Nat→ByteArray→Bool→Bool→Option (Bool)
 | 0,_,_,_=>none
 | k+1,x0,x1,x17=>if x17=true then (some false) else (spec_l4PartOk.l0 k x0 x1 0)
def spec_l4PartOk.l0:Nat→ByteArray→Bool→Int→Option (Bool)
 | 0,_,_,_=>none
 | k+1,x0,x1,x5=>if x5<(x0.size:Int) then (if 0≤x5 then (if (bt x0 x5)<33 then (some false) else (if (bt x0 x5)>126 then (some false) else (if (bt x0 x5)=47 then (some false) else (if (bt x0 x5)=34 then (some false) else (if x1=true then (spec_l4PartOk.l0 k x0 x1 (wrap64 (x5+1))) else (if (bt x0 x5)=42 then (some false) else (if (bt x0 x5)=63 then (some false) else (spec_l4PartOk.l0 k x0 x1 (wrap64 (x5+1)))))))))) else (none)) else (some true)
end
def spec_l4PartOk.f (k:Nat) (a0:ByteArray) (a1:Bool):Option (Bool):=(spec_l1In.f (a0.size:Int) 1 20).bind fun a8=>(if a8=true then (if a0.toList=([46]:List UInt8) then (spec_l4PartOk.j0 k a0 a1 true) else (spec_l4PartOk.j0 k a0 a1 (a0.toList==([46,46]:List UInt8)))) else (spec_l4PartOk.j0 k a0 a1 true))
theorem spec_l4PartOk.mono_l:∀ k,(∀ y0 y1 y2,LeO (spec_l4PartOk.j0 k y0 y1 y2) (spec_l4PartOk.j0 (k+1) y0 y1 y2))∧(∀ y0 y1 y2,LeO (spec_l4PartOk.l0 k y0 y1 y2) (spec_l4PartOk.l0 (k+1) y0 y1 y2))
 | 0=>⟨fun _ _ _ r h=>by simp [spec_l4PartOk.j0] at h,fun _ _ _ r h=>by simp [spec_l4PartOk.l0] at h⟩
 | k + 1 => by
  obtain ⟨ih0,ih1⟩:=spec_l4PartOk.mono_l k;refine ⟨?_,?_⟩
  ·intro y0 y1 y2
   unfold spec_l4PartOk.j0
   repeat' first
   | (with_reducible exact ih0 _ _ _)
   | (with_reducible exact ih1 _ _ _)
   | (with_reducible exact LeO.refl _)
   | (with_reducible exact LeO.none _)
   | (with_reducible refine LeO.ite ?_ ?_)
   | (with_reducible refine LeO.bind ?_ (fun _ => ?_))
   | exact ih0 _ _ _
   | exact ih1 _ _ _
   | exact LeO.none _
   | refine LeO.ite ?_ ?_
   | refine LeO.bind ?_ (fun _ => ?_)
  ·intro y0 y1 y2
   unfold spec_l4PartOk.l0
   repeat' first
   | (with_reducible exact ih0 _ _ _)
   | (with_reducible exact ih1 _ _ _)
   | (with_reducible exact LeO.refl _)
   | (with_reducible exact LeO.none _)
   | (with_reducible refine LeO.ite ?_ ?_)
   | (with_reducible refine LeO.bind ?_ (fun _ => ?_))
   | exact ih0 _ _ _
   | exact ih1 _ _ _
   | exact LeO.none _
   | refine LeO.ite ?_ ?_
   | refine LeO.bind ?_ (fun _ => ?_)
theorem spec_l4PartOk.mono:∀ a0 a1 k,LeO (spec_l4PartOk.f k a0 a1) (spec_l4PartOk.f (k+1) a0 a1):=by
 intro a0 a1 k;obtain ⟨ih0,ih1⟩:=spec_l4PartOk.mono_l k
 unfold spec_l4PartOk.f
 repeat' first
   | (with_reducible exact ih0 _ _ _)
   | (with_reducible exact ih1 _ _ _)
   | (with_reducible exact LeO.refl _)
   | (with_reducible exact LeO.none _)
   | (with_reducible refine LeO.ite ?_ ?_)
   | (with_reducible refine LeO.bind ?_ (fun _ => ?_))
   | exact ih0 _ _ _
   | exact ih1 _ _ _
   | exact LeO.none _
   | refine LeO.ite ?_ ?_
   | refine LeO.bind ?_ (fun _ => ?_)
set_option maxHeartbeats 8000000 in
set_option maxRecDepth 100000 in
theorem spec_l4PartOk.calls (k : Nat) (a0 : ByteArray) (a1 : Bool) (r : Bool) (w : World) (h : spec_l4PartOk.f k a0 a1 = some r) :
  Calls Tryd.prog 149 #[.string a0,.bool a1] w fun e w'=>e = .returned (.bool r)∧Drawn0 w w':=by
 have H:((spec_l1In.f (a0.size:Int) 1 20).bind fun a8=>(if a8=true then (if a0.toList=([46]:List UInt8) then (spec_l4PartOk.j0 k a0 a1 true) else (spec_l4PartOk.j0 k a0 a1 (a0.toList==([46,46]:List UInt8)))) else (spec_l4PartOk.j0 k a0 a1 true)))=some r:=h;clear h;have ad:=Aside0.mk H;clear H
 go_enter Tryd.func149,Tryd.ntmps149
 go_upto_region 1 with (fail)
 go_cut [17] (fun v17 wc => ∃ (kq:Nat) (ab:Bool),v17 = .bool ab∧Aside0 (spec_l4PartOk.j0 kq a0 a1 ab=some r)∧Aside0 (kq≤k)∧Drawn0 w wc)
 case first =>
  have H:=ad.out;clear ad;replace H:=Option.bind_eq_some_iff.mp H;obtain ⟨a8,A40,H⟩:=H;replace H:(if a8=true then (if a0.toList=([46]:List UInt8) then (spec_l4PartOk.j0 k a0 a1 true) else (spec_l4PartOk.j0 k a0 a1 (a0.toList==([46,46]:List UInt8)))) else (spec_l4PartOk.j0 k a0 a1 true))=some r:=H;have A4:=Aside0.mk A40;clear A40
  by_cases c5:a8=true
  ·subst c5
   have H1:(if a0.toList=([46]:List UInt8) then (spec_l4PartOk.j0 k a0 a1 true) else (spec_l4PartOk.j0 k a0 a1 (a0.toList==([46,46]:List UInt8))))=some r:=by rw [if_pos rfl] at H;exact H
   clear H;have H:=H1;clear H1
   by_cases c6:a0.toList=([46]:List UInt8)
   ·rw [if_pos c6] at H
    have a3:(a0.toList==([46]:List UInt8))=true:=beq_iff_eq.mpr c6;have ae:(a0.toList != ([46]:List UInt8))=false:=bne_eq_false_iff_eq.mpr c6;clear c6;(first|rw [a3]|(simp only [i64_w,i32_w];rw [a3])|skip);have H':=Aside0.mk H;clear H
    go_wp2_with (first|((with_reducible refine gc 131 rfl ?_);refine gl (some 8) _ (#[.int .i64 (a0.size:Int),.int .i64 1,.int .i64 20]) Tryd.func131 ?_;(with_reducible refine (spec_l1In.calls (a0.size:Int) 1 20 true _ A4.out).mono ?_);rintro e w' ⟨rfl,⟨nd,rfl⟩⟩;refine ⟨_,rfl,?_⟩))
    go_meet
    case rel=>exact ⟨_,(true),Ye1,H',⟨by first|omega|exact Nat.le_refl _⟩,dz⟩
   ·rw [if_neg c6] at H
    have a3:(a0.toList==([46]:List UInt8))=false:=beq_eq_false_iff_ne.mpr c6;have ae:(a0.toList != ([46]:List UInt8))=true:=bne_iff_ne.mpr c6;(first|rw [a3]|(simp only [i64_w,i32_w];rw [a3])|skip);have H':=Aside0.mk H;clear H
    go_wp2_with (first|((with_reducible refine gc 131 rfl ?_);refine gl (some 8) _ (#[.int .i64 (a0.size:Int),.int .i64 1,.int .i64 20]) Tryd.func131 ?_;(with_reducible refine (spec_l1In.calls (a0.size:Int) 1 20 true _ A4.out).mono ?_);rintro e w' ⟨rfl,⟨nd,rfl⟩⟩;refine ⟨_,rfl,?_⟩))
    go_meet
    case rel=>exact ⟨_,((a0.toList==([46,46]:List UInt8))),Ye1,H',⟨by first|omega|exact Nat.le_refl _⟩,dz⟩
  ·replace c5:=Bool.eq_false_iff.mpr c5;subst c5
   have H1:(spec_l4PartOk.j0 k a0 a1 true)=some r:=by rw [if_neg (show ¬(false=true) by decide)] at H;exact H
   clear H;have H:=H1;clear H1;have H':=Aside0.mk H;clear H
   go_wp2_with (first|((with_reducible refine gc 131 rfl ?_);refine gl (some 8) _ (#[.int .i64 (a0.size:Int),.int .i64 1,.int .i64 20]) Tryd.func131 ?_;(with_reducible refine (spec_l1In.calls (a0.size:Int) 1 20 false _ A4.out).mono ?_);rintro e w' ⟨rfl,⟨nd,rfl⟩⟩;refine ⟨_,rfl,?_⟩))
   go_meet
   case rel=>exact ⟨_,(true),Ye1,H',⟨by first|omega|exact Nat.le_refl _⟩,dz⟩
 case rest =>
  clear ad;(try clear c1);(try clear p2);(try clear c5);(try clear c6);(try clear a3);(try clear ae);obtain ⟨kq,ab,rfl,HA,HJ2,⟨mc2,rfl⟩⟩:=hcut
  cases kq with
  | zero=>exact absurd HA.out (by simp [spec_l4PartOk.j0])
  | succ af =>
   have H:=HA.out;clear HA;simp only [spec_l4PartOk.j0] at H
   by_cases c7:ab=true
   ·subst c7
    have H1:(some false)=some r:=by rw [if_pos rfl] at H;exact H
    clear H;have H:=H1;clear H1;obtain rfl:=Option.some.inj H
    go_wp2
    go_ret
    exact ⟨Ye1,dz⟩
   ·replace c7 := Bool.eq_false_iff.mpr c7; subst c7
    have H1:(spec_l4PartOk.l0 af a0 a1 0)=some r:=by rw [if_neg (show ¬(false=true) by decide)] at H;exact H
    clear H;have H:=H1;clear H1;have H':=Aside0.mk H;clear H
    go_wp2
    go_loopg [5] af (fun kq v5 w' => ∃ (a2:Int),v5 = .int .i64 a2∧Aside0 (spec_l4PartOk.l0 kq a0 a1 a2=some r)∧Aside0 (kq≤af)∧Drawn0 w w')
    case atStart=>exact ⟨(0),Ye1,H',⟨Nat.le_refl _⟩,dz⟩
    case round =>
     clear H';(try clear c1);(try clear c2);(try clear p2);(try clear c5);(try clear c6);(try clear a3);(try clear ae);(try clear c7);(try clear p2);obtain ⟨a2,rfl,HA,HK2,⟨m2,rfl⟩⟩:=hrel
     cases gk with
     | zero=>exact absurd HA.out (by simp [spec_l4PartOk.l0])
     | succ k2 =>
      have H:=HA.out;clear HA;simp only [spec_l4PartOk.l0] at H
      by_cases c8:a2<(a0.size:Int)
      ·rw [if_pos c8] at H
       have ag:decide (a2<(a0.size:Int))=true:=decide_eq_true c8;clear c8
       by_cases c9:0≤a2
       ·rw [if_pos c9] at H
        have c9b0:decide (0≤a2)=true:=decide_eq_true c9;clear c9
        by_cases a9:(bt a0 a2)<33
        ·rw [if_pos a9] at H
         have ah:decide ((bt a0 a2)<33)=true:=decide_eq_true a9;clear a9;obtain rfl:=Option.some.inj H;have p10:0≤(a2:Int):=oda;have q10:a2<(a0.size:Int):=oda;have hx10:=bt_at a0 a2;replace p10:=eq_true p10;replace q10:=eq_true q10
         go_wp2
         go_ret
         exact ⟨Ye1,dz⟩
        ·rw [if_neg a9] at H
         have ah:decide ((bt a0 a2)<33)=false:=decide_eq_false a9;clear a9
         by_cases aa:(bt a0 a2)>126
         ·rw [if_pos aa] at H
          have ai:decide (126<(bt a0 a2))=true:=decide_eq_true aa;clear aa;obtain rfl:=Option.some.inj H;have p10:0≤(a2:Int):=oda;have q10:a2<(a0.size:Int):=oda;have hx10:=bt_at a0 a2;replace p10:=eq_true p10;replace q10:=eq_true q10;have p12:0≤(a2:Int):=oda;have q12:a2<(a0.size:Int):=oda;have hx12:=bt_at a0 a2;replace p12:=eq_true p12;replace q12:=eq_true q12
          go_wp2
          go_ret
          exact ⟨Ye1,dz⟩
         ·rw [if_neg aa] at H
          have ai:decide (126<(bt a0 a2))=false:=decide_eq_false aa;clear aa
          by_cases a4:(bt a0 a2)=47
          ·rw [if_pos a4] at H
           have aj:((bt a0 a2)==47)=true:=beq_iff_eq.mpr a4;have ak:((bt a0 a2) != 47)=false:=bne_eq_false_iff_eq.mpr a4;clear a4;obtain rfl:=Option.some.inj H;have p10:0≤(a2:Int):=oda;have q10:a2<(a0.size:Int):=oda;have hx10:=bt_at a0 a2;replace p10:=eq_true p10;replace q10:=eq_true q10;have p12:0≤(a2:Int):=oda;have q12:a2<(a0.size:Int):=oda;have hx12:=bt_at a0 a2;replace p12:=eq_true p12;replace q12:=eq_true q12;have p14:0≤(a2:Int):=oda;have q14:a2<(a0.size:Int):=oda;have hx14:=bt_at a0 a2;replace p14:=eq_true p14;replace q14:=eq_true q14
           go_wp2
           go_ret
           exact ⟨Ye1,dz⟩
          ·rw [if_neg a4] at H
           have aj:((bt a0 a2)==47)=false:=beq_eq_false_iff_ne.mpr a4;have ak:((bt a0 a2) != 47)=true:=bne_iff_ne.mpr a4
           by_cases a5:(bt a0 a2)=34
           ·rw [if_pos a5] at H
            have al:((bt a0 a2)==34)=true:=beq_iff_eq.mpr a5;have am:((bt a0 a2) != 34)=false:=bne_eq_false_iff_eq.mpr a5;clear a5;obtain rfl:=Option.some.inj H;have p10:0≤(a2:Int):=oda;have q10:a2<(a0.size:Int):=oda;have hx10:=bt_at a0 a2;replace p10:=eq_true p10;replace q10:=eq_true q10;have p12:0≤(a2:Int):=oda;have q12:a2<(a0.size:Int):=oda;have hx12:=bt_at a0 a2;replace p12:=eq_true p12;replace q12:=eq_true q12;have p14:0≤(a2:Int):=oda;have q14:a2<(a0.size:Int):=oda;have hx14:=bt_at a0 a2;replace p14:=eq_true p14;replace q14:=eq_true q14;have p16:0≤(a2:Int):=oda;have q16:a2<(a0.size:Int):=oda;have hx16:=bt_at a0 a2;replace p16:=eq_true p16;replace q16:=eq_true q16
            go_wp2
            go_ret
            exact ⟨Ye1,dz⟩
           ·rw [if_neg a5] at H
            have al:((bt a0 a2)==34)=false:=beq_eq_false_iff_ne.mpr a5;have am:((bt a0 a2) != 34)=true:=bne_iff_ne.mpr a5
            by_cases ac:a1=true
            ·subst ac
             have H1:(spec_l4PartOk.l0 k2 a0 true (wrap64 (a2+1)))=some r:=by rw [if_pos rfl] at H;exact H
             clear H;have H:=H1;clear H1;have H':=Aside0.mk H;clear H;have p10:0≤(a2:Int):=oda;have q10:a2<(a0.size:Int):=oda;have hx10:=bt_at a0 a2;replace p10:=eq_true p10;replace q10:=eq_true q10;have p12:0≤(a2:Int):=oda;have q12:a2<(a0.size:Int):=oda;have hx12:=bt_at a0 a2;replace p12:=eq_true p12;replace q12:=eq_true q12;have p14:0≤(a2:Int):=oda;have q14:a2<(a0.size:Int):=oda;have hx14:=bt_at a0 a2;replace p14:=eq_true p14;replace q14:=eq_true q14;have p16:0≤(a2:Int):=oda;have q16:a2<(a0.size:Int):=oda;have hx16:=bt_at a0 a2;replace p16:=eq_true p16;replace q16:=eq_true q16
             go_wp2
             go_roundg k2
             case measure=>have:=HJ2.out;have:=HK2.out;omega
             case rel=>exact ⟨(wrap64 (a2+1)),Ye1,H',⟨by have:=HJ2.out;have:=HK2.out;omega⟩,dz⟩
            ·replace ac:=Bool.eq_false_iff.mpr ac;subst ac
             have H1:(if (bt a0 a2)=42 then (some false) else (if (bt a0 a2)=63 then (some false) else (spec_l4PartOk.l0 k2 a0 false (wrap64 (a2+1)))))=some r:=by rw [if_neg (show ¬(false=true) by decide)] at H;exact H
             clear H;have H:=H1;clear H1
             by_cases a6:(bt a0 a2)=42
             ·rw [if_pos a6] at H
              have an:((bt a0 a2)==42)=true:=beq_iff_eq.mpr a6;have ao:((bt a0 a2) != 42)=false:=bne_eq_false_iff_eq.mpr a6;clear a6;obtain rfl:=Option.some.inj H;have p10:0≤(a2:Int):=oda;have q10:a2<(a0.size:Int):=oda;have hx10:=bt_at a0 a2;replace p10:=eq_true p10;replace q10:=eq_true q10;have p12:0≤(a2:Int):=oda;have q12:a2<(a0.size:Int):=oda;have hx12:=bt_at a0 a2;replace p12:=eq_true p12;replace q12:=eq_true q12;have p14:0≤(a2:Int):=oda;have q14:a2<(a0.size:Int):=oda;have hx14:=bt_at a0 a2;replace p14:=eq_true p14;replace q14:=eq_true q14;have p16:0≤(a2:Int):=oda;have q16:a2<(a0.size:Int):=oda;have hx16:=bt_at a0 a2;replace p16:=eq_true p16;replace q16:=eq_true q16;have p19:0≤(a2:Int):=oda;have q19:a2<(a0.size:Int):=oda;have hx19:=bt_at a0 a2;replace p19:=eq_true p19;replace q19:=eq_true q19
              go_wp2
              go_ret
              exact ⟨Ye1,dz⟩
             ·rw [if_neg a6] at H
              have an:((bt a0 a2)==42)=false:=beq_eq_false_iff_ne.mpr a6;have ao:((bt a0 a2) != 42)=true:=bne_iff_ne.mpr a6
              by_cases a7:(bt a0 a2)=63
              ·rw [if_pos a7] at H
               have ap:((bt a0 a2)==63)=true:=beq_iff_eq.mpr a7;have aq:((bt a0 a2) != 63)=false:=bne_eq_false_iff_eq.mpr a7;clear a7;obtain rfl:=Option.some.inj H;have p10:0≤(a2:Int):=oda;have q10:a2<(a0.size:Int):=oda;have hx10:=bt_at a0 a2;replace p10:=eq_true p10;replace q10:=eq_true q10;have p12:0≤(a2:Int):=oda;have q12:a2<(a0.size:Int):=oda;have hx12:=bt_at a0 a2;replace p12:=eq_true p12;replace q12:=eq_true q12;have p14:0≤(a2:Int):=oda;have q14:a2<(a0.size:Int):=oda;have hx14:=bt_at a0 a2;replace p14:=eq_true p14;replace q14:=eq_true q14;have p16:0≤(a2:Int):=oda;have q16:a2<(a0.size:Int):=oda;have hx16:=bt_at a0 a2;replace p16:=eq_true p16;replace q16:=eq_true q16;have p19:0≤(a2:Int):=oda;have q19:a2<(a0.size:Int):=oda;have hx19:=bt_at a0 a2;replace p19:=eq_true p19;replace q19:=eq_true q19;have p21:0≤(a2:Int):=oda;have q21:a2<(a0.size:Int):=oda;have hx21:=bt_at a0 a2;replace p21:=eq_true p21;replace q21:=eq_true q21
               go_wp2
               go_ret
               exact ⟨Ye1,dz⟩
              ·rw [if_neg a7] at H
               have ap:((bt a0 a2)==63)=false:=beq_eq_false_iff_ne.mpr a7;have aq:((bt a0 a2) != 63)=true:=bne_iff_ne.mpr a7;have H':=Aside0.mk H;clear H;have p10:0≤(a2:Int):=oda;have q10:a2<(a0.size:Int):=oda;have hx10:=bt_at a0 a2;replace p10:=eq_true p10;replace q10:=eq_true q10;have p12:0≤(a2:Int):=oda;have q12:a2<(a0.size:Int):=oda;have hx12:=bt_at a0 a2;replace p12:=eq_true p12;replace q12:=eq_true q12;have p14:0≤(a2:Int):=oda;have q14:a2<(a0.size:Int):=oda;have hx14:=bt_at a0 a2;replace p14:=eq_true p14;replace q14:=eq_true q14;have p16:0≤(a2:Int):=oda;have q16:a2<(a0.size:Int):=oda;have hx16:=bt_at a0 a2;replace p16:=eq_true p16;replace q16:=eq_true q16;have p19:0≤(a2:Int):=oda;have q19:a2<(a0.size:Int):=oda;have hx19:=bt_at a0 a2;replace p19:=eq_true p19;replace q19:=eq_true q19;have p21:0≤(a2:Int):=oda;have q21:a2<(a0.size:Int):=oda;have hx21:=bt_at a0 a2;replace p21:=eq_true p21;replace q21:=eq_true q21
               go_wp2
               go_roundg k2
               case measure=>have:=HJ2.out;have:=HK2.out;omega
               case rel=>exact ⟨(wrap64 (a2+1)),Ye1,H',⟨by have:=HJ2.out;have:=HK2.out;omega⟩,dz⟩
       ·rw [if_neg c9] at H
        exact absurd H (by simp)
      ·rw [if_neg c8] at H
       have ag:decide (a2<(a0.size:Int))=false:=decide_eq_false c8;clear c8;obtain rfl:=Option.some.inj H
       go_wp2
       go_ret
       exact ⟨Ye1,dz⟩

end Go.Proofs.YtknagppkeodggaaDoor.P


namespace Go.Proofs.YtknagppkeodggaaDoor.P
open Go.RowKit Go.Proofs.YtknagppkeodggaaDoorW.PrintWords Go.Proofs.YtknagppkeodggaaDoorW.PrintLast Go.Proofs.YtknagppkeodggaaDoorW.PrintMore
attribute [local go_sem] max2_int min2_int max_two min_two max_three min_three max_four min_four
set_option linter.unusedVariables false
set_option linter.unusedSimpArgs false

def spec_l4Ok.l0:Nat→Bool→List ByteArray→Int→Option (Bool)
 | 0,_,_,_=>none
 | k+1,x1,x5,x6=>if x6<(x5.length:Int) then (if 0≤x6 then ((spec_l4PartOk.f k (rdOf ByteArray.empty x5 x6) x1).bind fun a6=>(if a6=true then (spec_l4Ok.l0 k x1 x5 (wrap64 (x6+1))) else (some false))) else (none)) else (some true)
def spec_l4Ok.f (k:Nat) (a0:ByteArray) (a1:Bool):Option (Bool):=if (a0.size:Int)>126 then (some false) else ((spec_l4Parts.f k a0).bind fun a2=>(if (a2.length:Int)>6 then (some false) else (spec_l4Ok.l0 k a1 a2 0)))
theorem spec_l4Ok.mono_l:∀ k,(∀ y0 y1 y2,LeO (spec_l4Ok.l0 k y0 y1 y2) (spec_l4Ok.l0 (k+1) y0 y1 y2))
 | 0=>fun _ _ _ r h=>by simp [spec_l4Ok.l0] at h
 | k + 1 => by
  have ih0:=spec_l4Ok.mono_l k
  ·intro y0 y1 y2
   unfold spec_l4Ok.l0
   repeat' first
   | (with_reducible exact ih0 _ _ _)
   | (with_reducible exact spec_l4PartOk.mono _ _ _)
   | (with_reducible exact spec_l4Parts.mono _ _)
   | (with_reducible exact LeO.refl _)
   | (with_reducible exact LeO.none _)
   | (with_reducible refine LeO.ite ?_ ?_)
   | (with_reducible refine LeO.bind ?_ (fun _ => ?_))
   | exact ih0 _ _ _
   | exact spec_l4PartOk.mono _ _ _
   | exact spec_l4Parts.mono _ _
   | exact LeO.none _
   | refine LeO.ite ?_ ?_
   | refine LeO.bind ?_ (fun _ => ?_)
theorem spec_l4Ok.mono:∀ a0 a1 k,LeO (spec_l4Ok.f k a0 a1) (spec_l4Ok.f (k+1) a0 a1):=by
 intro a0 a1 k;have ih0:=spec_l4Ok.mono_l k
 unfold spec_l4Ok.f
 repeat' first
   | (with_reducible exact ih0 _ _ _)
   | (with_reducible exact spec_l4PartOk.mono _ _ _)
   | (with_reducible exact spec_l4Parts.mono _ _)
   | (with_reducible exact LeO.refl _)
   | (with_reducible exact LeO.none _)
   | (with_reducible refine LeO.ite ?_ ?_)
   | (with_reducible refine LeO.bind ?_ (fun _ => ?_))
   | exact ih0 _ _ _
   | exact spec_l4PartOk.mono _ _ _
   | exact spec_l4Parts.mono _ _
   | exact LeO.none _
   | refine LeO.ite ?_ ?_
   | refine LeO.bind ?_ (fun _ => ?_)
set_option maxHeartbeats 8000000 in
set_option maxRecDepth 100000 in
theorem spec_l4Ok.calls (k : Nat) (a0 : ByteArray) (a1 : Bool) (r : Bool) (w : World) (h : spec_l4Ok.f k a0 a1 = some r) :
  Calls Tryd.prog 85 #[.string a0,.bool a1] w fun e w'=>e = .returned (.bool r)∧Below w.heap.size w w':=by
 have HB:=Aside0.mk (Below.refl w.heap.size w);have H:(if (a0.size:Int)>126 then (some false) else ((spec_l4Parts.f k a0).bind fun a2=>(if (a2.length:Int)>6 then (some false) else (spec_l4Ok.l0 k a1 a2 0))))=some r:=h;clear h
 by_cases c3:(a0.size:Int)>126
 ·rw [if_pos c3] at H
  have ac:decide (126<(a0.size:Int))=true:=decide_eq_true c3;have ad:decide (126<a0.size)=true:=decide_eq_true (by omega);clear c3;obtain rfl:=Option.some.inj H
  go_enter Tryd.func85,Tryd.ntmps85
  go_wp2
  go_ret
  exact ⟨Ye2,be HB.out⟩
 ·rw [if_neg c3] at H
  have ac:decide (126<(a0.size:Int))=false:=decide_eq_false c3;have ad:decide (126<a0.size)=false:=decide_eq_false (by omega);clear c3;replace H:=Option.bind_eq_some_iff.mp H;obtain ⟨a2,A40,H⟩:=H;replace H:(if (a2.length:Int)>6 then (some false) else (spec_l4Ok.l0 k a1 a2 0))=some r:=H;have A4:=Aside0.mk A40;clear A40
  by_cases c5:(a2.length:Int)>6
  ·rw [if_pos c5] at H
   have ae:decide (6<(a2.length:Int))=true:=decide_eq_true c5;have af:decide (6<a2.length)=true:=decide_eq_true (by omega);clear c5;obtain rfl:=Option.some.inj H
   go_enter Tryd.func85,Tryd.ntmps85
   go_wp2_with (first|((with_reducible refine gc 79 rfl ?_);refine gl (some 11) _ (#[.string a0]) Tryd.func79 ?_;(with_reducible refine (spec_l4Parts.calls k a0 a2 _ A4.out).mono ?_);rintro e w6 ⟨ah,rfl,ho0,hb⟩;refine ⟨_,rfl,?_⟩;refine Ya2 (Kd.R_lower ho0 (below_size (be HB.out))) (below_step (be HB.out) hb) ?_;clear HB;intro a7 HB;(try clear hb);(try clear hb2);(try clear hk);(try clear hi);(try clear ho0);obtain ⟨Ao7,co7,eo7⟩:=Kd.R_slice a7.out;subst eo7))
   go_ret
   exact ⟨Ye2,be HB.out⟩
  ·rw [if_neg c5] at H
   have ae:decide (6<(a2.length:Int))=false:=decide_eq_false c5;have af:decide (6<a2.length)=false:=decide_eq_false (by omega);clear c5;have H':=Aside0.mk H;clear H
   go_enter Tryd.func85,Tryd.ntmps85
   go_wp2_with (first|((with_reducible refine gc 79 rfl ?_);refine gl (some 11) _ (#[.string a0]) Tryd.func79 ?_;(with_reducible refine (spec_l4Parts.calls k a0 a2 _ A4.out).mono ?_);rintro e w8 ⟨ah,rfl,ho0,hb⟩;refine ⟨_,rfl,?_⟩;refine Ya2 (Kd.R_lower ho0 (below_size (be HB.out))) (below_step (be HB.out) hb) ?_;clear HB;intro a7 HB;(try clear hb);(try clear hb2);(try clear hk);(try clear hi);(try clear ho0);obtain ⟨Ao9,co9,eo9⟩:=Kd.R_slice a7.out;subst eo9))
   go_loopg [6] k (fun kq v6 w' => ∃ (a3:Int),v6 = .int .i64 a3∧Aside0 (spec_l4Ok.l0 kq a1 a2 a3=some r)∧Aside0 (kq≤k)∧Aside0 (Kd.R Kd.string 9 w' w.heap.size (fun _=>True) (.slice Ao9 a2.length co9) a2)∧Aside0 (Below w.heap.size w w'))
   case atStart=>exact ⟨(0),Ye1,H',⟨Nat.le_refl _⟩,⟨kr a7.out⟩,⟨be HB.out⟩⟩
   case round =>
    clear H';(try clear p2);(try clear c3);(try clear ac);(try clear ad);(try clear c5);(try clear ae);(try clear af);(try clear c7);(try clear c8);obtain ⟨a3,rfl,HA,HK1,aa,HB⟩:=hrel
    cases gk with
    | zero=>exact absurd HA.out (by simp [spec_l4Ok.l0])
    | succ k1 =>
     have H:=HA.out;clear HA;simp only [spec_l4Ok.l0] at H
     by_cases c10:a3<(a2.length:Int)
     ·rw [if_pos c10] at H
      have ai:decide (a3<(a2.length:Int))=true:=decide_eq_true c10;clear c10
      by_cases a8:0≤a3
      ·rw [if_pos a8] at H
       have c11b0:decide (0≤a3)=true:=decide_eq_true a8;clear a8;replace H:=Option.bind_eq_some_iff.mp H;obtain ⟨a6,ag,H⟩:=H;replace H:(if a6=true then (spec_l4Ok.l0 k1 a1 a2 (wrap64 (a3+1))) else (some false))=some r:=H;have A12:=Aside0.mk ag;clear ag
       by_cases a9:a6=true
       ·subst a9
        have H1:(spec_l4Ok.l0 k1 a1 a2 (wrap64 (a3+1)))=some r:=by rw [if_pos rfl] at H;exact H
        clear H;have H:=H1;clear H1;have H':=Aside0.mk H;clear H;have a4:0≤(a3:Int):=oda;have a5:a3<(a2.length:Int):=oda;obtain ⟨aj,ab,ak⟩:=Kd.at_string (Kd.R_reads' aa.out).2.2 a3 a4 a5
        cases ab
        replace a4:=eq_true a4;replace a5:=eq_true a5
        go_wp2_with (first|((with_reducible refine gc 149 rfl ?_);refine gl (some 26) _ (#[.string (rdOf ByteArray.empty a2 a3),.bool a1]) Tryd.func149 ?_;(with_reducible refine (spec_l4PartOk.calls k1 (rdOf ByteArray.empty a2 a3) a1 true _ A12.out).mono ?_);rintro e w' ⟨rfl,⟨nd,rfl⟩⟩;refine ⟨_,rfl,?_⟩))
        go_roundg k1
        case measure=>have:=HK1.out;omega
        case rel=>exact ⟨(wrap64 (a3+1)),Ye1,H',⟨by have:=HK1.out;omega⟩,⟨kr aa.out⟩,⟨be HB.out⟩⟩
       ·replace a9:=Bool.eq_false_iff.mpr a9;subst a9
        have H1:(some false)=some r:=by rw [if_neg (show ¬(false=true) by decide)] at H;exact H
        clear H;have H:=H1;clear H1;obtain rfl:=Option.some.inj H;have a4:0≤(a3:Int):=oda;have a5:a3<(a2.length:Int):=oda;obtain ⟨aj,ab,ak⟩:=Kd.at_string (Kd.R_reads' aa.out).2.2 a3 a4 a5
        cases ab
        replace a4:=eq_true a4;replace a5:=eq_true a5
        go_wp2_with (first|((with_reducible refine gc 149 rfl ?_);refine gl (some 26) _ (#[.string (rdOf ByteArray.empty a2 a3),.bool a1]) Tryd.func149 ?_;(with_reducible refine (spec_l4PartOk.calls k1 (rdOf ByteArray.empty a2 a3) a1 false _ A12.out).mono ?_);rintro e w' ⟨rfl,⟨nd,rfl⟩⟩;refine ⟨_,rfl,?_⟩))
        go_ret
        exact ⟨Ye2,be HB.out⟩
      ·rw [if_neg a8] at H
       exact absurd H (by simp)
     ·rw [if_neg c10] at H
      have ai:decide (a3<(a2.length:Int))=false:=decide_eq_false c10;clear c10;obtain rfl:=Option.some.inj H
      go_wp2
      go_ret
      exact ⟨Ye2,be HB.out⟩

end Go.Proofs.YtknagppkeodggaaDoor.P


namespace Go.Proofs.YtknagppkeodggaaDoor.P
open Go.RowKit Go.Proofs.YtknagppkeodggaaDoorW.PrintWords Go.Proofs.YtknagppkeodggaaDoorW.PrintLast Go.Proofs.YtknagppkeodggaaDoorW.PrintMore
attribute [local go_sem] max2_int min2_int max_two min_two max_three min_three max_four min_four
set_option linter.unusedVariables false
set_option linter.unusedSimpArgs false

def spec_ValidPath.f (k:Nat) (a0:ByteArray):Option (Bool):=(spec_l4Ok.f k a0 false).bind fun a1=>(some a1)
theorem spec_ValidPath.mono:∀ a0 k,LeO (spec_ValidPath.f k a0) (spec_ValidPath.f (k+1) a0):=by
 intro a0 k
 unfold spec_ValidPath.f
 repeat' first
   | (with_reducible exact spec_l4Ok.mono _ _ _)
   | (with_reducible exact LeO.refl _)
   | (with_reducible exact LeO.none _)
   | (with_reducible refine LeO.ite ?_ ?_)
   | (with_reducible refine LeO.bind ?_ (fun _ => ?_))
   | exact spec_l4Ok.mono _ _ _
   | exact LeO.none _
   | refine LeO.ite ?_ ?_
   | refine LeO.bind ?_ (fun _ => ?_)
set_option maxHeartbeats 8000000 in
set_option maxRecDepth 100000 in
theorem spec_ValidPath.calls (k:Nat) (a0:ByteArray) (r:Bool) (w:World) (h:spec_ValidPath.f k a0=some r) :
  Calls Tryd.prog 23 #[.string a0] w fun e w'=>e = .returned (.bool r)∧Below w.heap.size w w':=by
 have HB:=Aside0.mk (Below.refl w.heap.size w);have H:((spec_l4Ok.f k a0 false).bind fun a1=>(some a1))=some r:=h;clear h;replace H:=Option.bind_eq_some_iff.mp H;obtain ⟨a1,A20,H⟩:=H;replace H:(some a1)=some r:=H;have A2:=Aside0.mk A20;clear A20;obtain rfl:=Option.some.inj H
 go_enter Tryd.func23,Tryd.ntmps23
 go_wp2_with (first|((with_reducible refine gc 85 rfl ?_);refine gl (some 4) _ (#[.string a0,.bool false]) Tryd.func85 ?_;(with_reducible refine (spec_l4Ok.calls k a0 false a1 _ A2.out).mono ?_);rintro e w3 ⟨rfl,hb⟩;refine ⟨_,rfl,?_⟩;refine Ya1 (below_step (be HB.out) hb) ?_;clear HB;intro HB;(try clear hb);(try clear hb2);(try clear hk);(try clear hi)))
 go_ret
 exact ⟨Ye2,be HB.out⟩

end Go.Proofs.YtknagppkeodggaaDoor.P


namespace Go.Proofs.YtknagppkeodggaaDoor.P
open Go.RowKit Go.Proofs.YtknagppkeodggaaDoorW.PrintWords Go.Proofs.YtknagppkeodggaaDoorW.PrintLast Go.Proofs.YtknagppkeodggaaDoorW.PrintMore
attribute [local go_sem] max2_int min2_int max_two min_two max_three min_three max_four min_four
set_option linter.unusedVariables false
set_option linter.unusedSimpArgs false

mutual
def spec_ValidTree.l0:Nat→Int→List (S27)→Option (Bool)
 | 0,_,_=>none
 | k+1,x3,a7=>if x3<(a7.length:Int) then (if 0≤x3 then ((spec_ValidPath.f k ((rd_T27 a7 x3).f0)).bind fun az=>(if az=true then (if (((rd_T27 a7 x3).f1).size:Int)>1500 then (spec_ValidTree.j1 k x3 true a7 ((rd_T27 a7 x3).f0) ((rd_T27 a7 x3).f1) ((rd_T27 a7 x3).f2)) else (if x3>0 then (if 0≤(wrap64 (x3 - 1)) then (if (wrap64 (x3 - 1))<(a7.length:Int) then (spec_ValidTree.j1 k x3 (!(Op.bytesLess (((rd_T27 a7 (wrap64 (x3 - 1))).f0).toList) (((rd_T27 a7 x3).f0).toList))) a7 ((rd_T27 a7 x3).f0) ((rd_T27 a7 x3).f1) ((rd_T27 a7 x3).f2)) else (none)) else (none)) else (spec_ValidTree.j1 k x3 false a7 ((rd_T27 a7 x3).f0) ((rd_T27 a7 x3).f1) ((rd_T27 a7 x3).f2)))) else (spec_ValidTree.j1 k x3 true a7 ((rd_T27 a7 x3).f0) ((rd_T27 a7 x3).f1) ((rd_T27 a7 x3).f2)))) else (none)) else (some true)
def spec_ValidTree.j1:Nat→Int→Bool→List (S27)→ByteArray→ByteArray→Bool→Option (Bool)
 | 0,_,_,_,_,_,_=>none
 | k+1,x3,x47,a7,aA,aK,aL=>if x47=true then (some false) else (spec_ValidTree.l1 k x3 0 a7 aA aK aL)
def spec_ValidTree.l1:Nat→Int→Int→List (S27)→ByteArray→ByteArray→Bool→Option (Bool)
 | 0,_,_,_,_,_,_=>none
 | k+1,x3,x5,a7,aA,aK,aL=>if x5<x3 then (if 0≤x5 then (if x5<(a7.length:Int) then ((spec_l5Begins.f ((rd_T27 a7 x5).f0) aA).bind fun aB=>(if aB=true then (some false) else (spec_ValidTree.l1 k x3 (wrap64 (x5+1)) a7 aA aK aL))) else (none)) else (none)) else (spec_ValidTree.l0 k (wrap64 (x3+1)) a7)
end
def spec_ValidTree.f (k:Nat) (a1:List (S27)):Option (Bool):=if (a1.length:Int)>100 then (some false) else (spec_ValidTree.l0 k 0 a1)
theorem spec_ValidTree.mono_l:∀ k,(∀ y0 y1,LeO (spec_ValidTree.l0 k y0 y1) (spec_ValidTree.l0 (k+1) y0 y1))∧(∀ y0 y1 y2 y3 y4 y5,LeO (spec_ValidTree.j1 k y0 y1 y2 y3 y4 y5) (spec_ValidTree.j1 (k+1) y0 y1 y2 y3 y4 y5))∧(∀ y0 y1 y2 y3 y4 y5,LeO (spec_ValidTree.l1 k y0 y1 y2 y3 y4 y5) (spec_ValidTree.l1 (k+1) y0 y1 y2 y3 y4 y5))
 | 0=>⟨fun _ _ r h=>by simp [spec_ValidTree.l0] at h,fun _ _ _ _ _ _ r h=>by simp [spec_ValidTree.j1] at h,fun _ _ _ _ _ _ r h=>by simp [spec_ValidTree.l1] at h⟩
 | k + 1 => by
  obtain ⟨ih0,ih1,ih2⟩:=spec_ValidTree.mono_l k;refine ⟨?_,?_,?_⟩
  ·intro y0 y1
   unfold spec_ValidTree.l0
   repeat' first
   | (with_reducible exact ih0 _ _)
   | (with_reducible exact ih1 _ _ _ _ _ _)
   | (with_reducible exact ih2 _ _ _ _ _ _)
   | (with_reducible exact spec_ValidPath.mono _ _)
   | (with_reducible exact LeO.refl _)
   | (with_reducible exact LeO.none _)
   | (with_reducible refine LeO.ite ?_ ?_)
   | (with_reducible refine LeO.bind ?_ (fun _ => ?_))
   | exact ih0 _ _
   | exact ih1 _ _ _ _ _ _
   | exact ih2 _ _ _ _ _ _
   | exact spec_ValidPath.mono _ _
   | exact LeO.none _
   | refine LeO.ite ?_ ?_
   | refine LeO.bind ?_ (fun _ => ?_)
  ·intro y0 y1 y2 y3 y4 y5
   unfold spec_ValidTree.j1
   repeat' first
   | (with_reducible exact ih0 _ _)
   | (with_reducible exact ih1 _ _ _ _ _ _)
   | (with_reducible exact ih2 _ _ _ _ _ _)
   | (with_reducible exact spec_ValidPath.mono _ _)
   | (with_reducible exact LeO.refl _)
   | (with_reducible exact LeO.none _)
   | (with_reducible refine LeO.ite ?_ ?_)
   | (with_reducible refine LeO.bind ?_ (fun _ => ?_))
   | exact ih0 _ _
   | exact ih1 _ _ _ _ _ _
   | exact ih2 _ _ _ _ _ _
   | exact spec_ValidPath.mono _ _
   | exact LeO.none _
   | refine LeO.ite ?_ ?_
   | refine LeO.bind ?_ (fun _ => ?_)
  ·intro y0 y1 y2 y3 y4 y5
   unfold spec_ValidTree.l1
   repeat' first
   | (with_reducible exact ih0 _ _)
   | (with_reducible exact ih1 _ _ _ _ _ _)
   | (with_reducible exact ih2 _ _ _ _ _ _)
   | (with_reducible exact spec_ValidPath.mono _ _)
   | (with_reducible exact LeO.refl _)
   | (with_reducible exact LeO.none _)
   | (with_reducible refine LeO.ite ?_ ?_)
   | (with_reducible refine LeO.bind ?_ (fun _ => ?_))
   | exact ih0 _ _
   | exact ih1 _ _ _ _ _ _
   | exact ih2 _ _ _ _ _ _
   | exact spec_ValidPath.mono _ _
   | exact LeO.none _
   | refine LeO.ite ?_ ?_
   | refine LeO.bind ?_ (fun _ => ?_)
theorem spec_ValidTree.mono:∀ a0 k,LeO (spec_ValidTree.f k a0) (spec_ValidTree.f (k+1) a0):=by
 intro a0 k;obtain ⟨ih0,ih1,ih2⟩:=spec_ValidTree.mono_l k
 unfold spec_ValidTree.f
 repeat' first
   | (with_reducible exact ih0 _ _)
   | (with_reducible exact ih1 _ _ _ _ _ _)
   | (with_reducible exact ih2 _ _ _ _ _ _)
   | (with_reducible exact spec_ValidPath.mono _ _)
   | (with_reducible exact LeO.refl _)
   | (with_reducible exact LeO.none _)
   | (with_reducible refine LeO.ite ?_ ?_)
   | (with_reducible refine LeO.bind ?_ (fun _ => ?_))
   | exact ih0 _ _
   | exact ih1 _ _ _ _ _ _
   | exact ih2 _ _ _ _ _ _
   | exact spec_ValidPath.mono _ _
   | exact LeO.none _
   | refine LeO.ite ?_ ?_
   | refine LeO.bind ?_ (fun _ => ?_)
def spec_ValidTree.T7:Bool×List (List Nat×List Nat):=(true,[([],[]),([0],[0]),([1],[1]),([2],[2]),([3,2],[3]),([4],[4]),([5,4],[4,5]),([6,4],[4,6]),([7,4],[4,7]),([4,8],[4,8]),([9,4],[9]),([10],[10]),([11,10],[10,11]),([12,10,10],[10,12]),([13],[13]),([14,13],[13,14]),([13],[13]),([16,13],[13,16]),([15,17,13],[13,15,17]),([18,13],[13,18]),([19,13],[13,19]),([13],[13]),([21,13],[13,21]),([20,22,13],[13,20,22]),([13,23,10],[10,13,23]),([10,24],[10,24])])
def spec_ValidTree.B7:List Nat:=[0,1,3,7,15,31,63,127,255,511,1023,2047,4095,8191,16383,32767,16383,81919,262143,524287,1048575,16383,2113535,8388607,16777215,33554431]
theorem spec_ValidTree.tab7:rtab .any (opsOf Tryd.f39 7)=spec_ValidTree.T7:=by kernel_rfl
theorem spec_ValidTree.bits7:waitsOk spec_ValidTree.T7.2 spec_ValidTree.B7=true:=by kernel_rfl
def spec_ValidTree.T12:Bool×List (List Nat×List Nat):=(true,[([],[]),([0],[0]),([],[]),([1,2],[1,2]),([3],[3]),([4],[4]),([],[]),([6],[6]),([5,7],[5,7])])
def spec_ValidTree.B12:List Nat:=[0,1,0,7,15,31,0,64,255]
theorem spec_ValidTree.tab12:rtab .any (opsOf Tryd.f39 12)=spec_ValidTree.T12:=by kernel_rfl
theorem spec_ValidTree.bits12:waitsOk spec_ValidTree.T12.2 spec_ValidTree.B12=true:=by kernel_rfl
set_option maxHeartbeats 8000000 in
set_option maxRecDepth 100000 in
theorem spec_ValidTree.calls (k : Nat) (au : Option Addr) (ae : Nat) (a1 : List (S27)) (r : Bool) (w : World) (aV : Kd.C k27 w au a1.length a1) (aW : a1.length ≤ ae) (h : spec_ValidTree.f k a1 = some r) :
  Calls Tryd.prog 39 #[.agg #[.slice au a1.length ae]] w fun e w'=>e = .returned (.bool r)∧Below w.heap.size w w':=by
 have hu25:=Tryd.underlying25;have hu27:=Tryd.underlying27;have aC:=Aside0.mk aV;have HC0_0:=Aside0.mk aW;clear aV aW;have HB:=Aside0.mk (Below.refl w.heap.size w);have H:(if (a1.length:Int)>100 then (some false) else (spec_ValidTree.l0 k 0 a1))=some r:=h;clear h
 by_cases c2:(a1.length:Int)>100
 ·rw [if_pos c2] at H
  have aX:decide (100<(a1.length:Int))=true:=decide_eq_true c2;have aY:decide (100<a1.length)=true:=decide_eq_true (by omega);clear c2;obtain rfl:=Option.some.inj H
  go_enter Tryd.func39,Tryd.ntmps39
  go_wp2_with (first|((with_reducible refine gd 1 rfl ?_);(try (refine gate_guard (by rfl) ?_;dsimp only));refine bx 1 25 (#[.slice au a1.length ae]) ?_;intro af hg w3 hbox hb;refine Ya4 (below_step (be HB.out) hb) (hbox) (bs hg (be HB.out)) (bs hg (be HB.out)) ?_;clear HB;intro HB a4 b1 b2;clear hb hbox hg;have ⟨b3,b4⟩:=Yc1 a4.out))
  go_ret
  exact ⟨Ye2,(bf HB.out)⟩
 ·rw [if_neg c2] at H
  have aX:decide (100<(a1.length:Int))=false:=decide_eq_false c2;have aY:decide (100<a1.length)=false:=decide_eq_false (by omega);clear c2;have H':=Aside0.mk H;clear H
  go_enter Tryd.func39,Tryd.ntmps39
  go_wp2_with (first|((with_reducible refine gd 1 rfl ?_);(try (refine gate_guard (by rfl) ?_;dsimp only));refine bx 1 25 (#[.slice au a1.length ae]) ?_;intro af hg w5 hbox hb;refine Ya4 (below_step (be HB.out) hb) (hbox) (bs hg (be HB.out)) (bs hg (be HB.out)) ?_;clear HB;intro HB a4 b1 b2;clear hb hbox hg;have ⟨b5,b6⟩:=Yc1 a4.out))
  go_loopg [3] k (fun kq v3 w' => ∃ (a2:Int),v3 = .int .i64 a2∧Aside0 (spec_ValidTree.l0 kq a2 a1=some r)∧Aside0 (kq≤k)∧Aside0 (w'.heap[af]? = some (.cells #[(.slice au a1.length ae)] 25 (0,0)))∧Aside0 (Below w.heap.size w w'))
  case atStart=>exact ⟨(0),Ye1,H',⟨Nat.le_refl _⟩,⟨bk a4.out⟩,⟨bf HB.out⟩⟩
  case round =>
   clear H';(try clear c2);(try clear aX);(try clear aY);(try clear p2);(try clear c3);(try clear b3);(try clear b5);(try clear b4);(try clear b6);obtain ⟨a2,rfl,HA,HK1,a4,HB⟩:=hrel
   cases gk with
   | zero=>exact absurd HA.out (by simp [spec_ValidTree.l0])
   | succ k1 =>
    have H:=HA.out;clear HA;simp only [spec_ValidTree.l0] at H
    by_cases c7:a2<(a1.length:Int)
    ·rw [if_pos c7] at H
     have b7:decide (a2<(a1.length:Int))=true:=decide_eq_true c7;clear c7
     by_cases c8:0≤a2
     ·rw [if_pos c8] at H
      have c8b0:decide (0≤a2)=true:=decide_eq_true c8;clear c8;have aM:=Aside0.mk H;clear H;have ⟨bi,bj⟩:=Yc1 a4.out;have aN:0≤(a2:Int):=oda;have aO:a2<(a1.length:Int):=oda;obtain ⟨a8,b8,bm,bn,bo⟩:=at_T27 (Kd.C_below aC.out HB.out) a2 aN aO
      cases b8
      replace aN:=eq_true aN;replace aO:=eq_true aO
      go_upto_region 7 with (first|((with_reducible refine gd 4 rfl ?_);(try (refine gate_guard (by rfl) ?_;dsimp only));refine bx 4 27 (#[.string (⟨#[]⟩:ByteArray),.string (⟨#[]⟩:ByteArray),.bool false]) ?_;intro a5 hg aa hbox hb;refine Ya7 (bb a4 hb) (below_step (bf HB.out) hb) (hbox) (bs hg (bf HB.out)) (bs hg (bf HB.out)) (bl hg a4) (br hg a4) ?_;clear a4 HB;intro a4 HB a3 GW125 GE125 av b9;clear hb hbox hg;have hnb12:=b9.out;have hnc12:=av.out;have ⟨bq,bu,bv,bw,bz,bA⟩:=Yc3 a3.out))
      (try simp only [Act.put,List.setIfInBounds_toArray,List.set_cons_zero,List.set_cons_succ])
      go_cut [47] (fun v47 wc => ∃ (kq:Nat) (aD:Bool),v47 = .bool aD∧Aside0 (spec_ValidTree.j1 kq a2 aD a1 ((rd_T27 a1 a2).f0) ((rd_T27 a1 a2).f1) ((rd_T27 a1 a2).f2)=some r)∧Aside0 (kq≤k1)∧Aside0 (wc.heap[af]? = some (.cells #[(.slice (some a8) a1.length ae)] 25 (0,0)))∧Aside0 (wc.heap[a5]? = some (.cells #[.string ((rd_T27 a1 a2).f0),.string ((rd_T27 a1 a2).f1),.bool ((rd_T27 a1 a2).f2)] 27 (0,0)))∧Aside0 (Below w.heap.size w wc))
      case first =>
       have H:=aM.out;clear aM;replace H:=Option.bind_eq_some_iff.mp H;obtain ⟨az,aZ,H⟩:=H;replace H:(if az=true then (if (((rd_T27 a1 a2).f1).size:Int)>1500 then (spec_ValidTree.j1 k1 a2 true a1 ((rd_T27 a1 a2).f0) ((rd_T27 a1 a2).f1) ((rd_T27 a1 a2).f2)) else (if a2>0 then (if 0≤(wrap64 (a2 - 1)) then (if (wrap64 (a2 - 1))<(a1.length:Int) then (spec_ValidTree.j1 k1 a2 (!(Op.bytesLess (((rd_T27 a1 (wrap64 (a2 - 1))).f0).toList) (((rd_T27 a1 a2).f0).toList))) a1 ((rd_T27 a1 a2).f0) ((rd_T27 a1 a2).f1) ((rd_T27 a1 a2).f2)) else (none)) else (none)) else (spec_ValidTree.j1 k1 a2 false a1 ((rd_T27 a1 a2).f0) ((rd_T27 a1 a2).f1) ((rd_T27 a1 a2).f2)))) else (spec_ValidTree.j1 k1 a2 true a1 ((rd_T27 a1 a2).f0) ((rd_T27 a1 a2).f1) ((rd_T27 a1 a2).f2)))=some r:=H;have aw:=Aside0.mk aZ;clear aZ
       by_cases an:az=true
       ·subst an
        have H1:(if (((rd_T27 a1 a2).f1).size:Int)>1500 then (spec_ValidTree.j1 k1 a2 true a1 ((rd_T27 a1 a2).f0) ((rd_T27 a1 a2).f1) ((rd_T27 a1 a2).f2)) else (if a2>0 then (if 0≤(wrap64 (a2 - 1)) then (if (wrap64 (a2 - 1))<(a1.length:Int) then (spec_ValidTree.j1 k1 a2 (!(Op.bytesLess (((rd_T27 a1 (wrap64 (a2 - 1))).f0).toList) (((rd_T27 a1 a2).f0).toList))) a1 ((rd_T27 a1 a2).f0) ((rd_T27 a1 a2).f1) ((rd_T27 a1 a2).f2)) else (none)) else (none)) else (spec_ValidTree.j1 k1 a2 false a1 ((rd_T27 a1 a2).f0) ((rd_T27 a1 a2).f1) ((rd_T27 a1 a2).f2))))=some r:=by rw [if_pos rfl] at H;exact H
        clear H;have H:=H1;clear H1
        by_cases ao:(((rd_T27 a1 a2).f1).size:Int)>1500
        ·rw [if_pos ao] at H
         have ax:decide (1500<(((rd_T27 a1 a2).f1).size:Int))=true:=decide_eq_true ao;have ba:decide (1500<((rd_T27 a1 a2).f1).size)=true:=decide_eq_true (by omega);clear ao;(first|rw [ax]|(simp only [i64_w,i32_w];rw [ax])|skip);have H':=Aside0.mk H;clear H
         try go_wp2
         have ab:Aside0 ((((aa.setCell ⟨a5,0,none⟩ (.string ((rd_T27 a1 a2).f0))).setCell ⟨a5,1,none⟩ (.string ((rd_T27 a1 a2).f1))).setCell ⟨a5,2,none⟩ (.bool ((rd_T27 a1 a2).f2))).heap[af]? = some (.cells #[.slice (some a8) a1.length ae] 25 (0,0))):=⟨bkf a4.out av.out⟩
         have ac:Aside0 ((((aa.setCell ⟨a5,0,none⟩ (.string ((rd_T27 a1 a2).f0))).setCell ⟨a5,1,none⟩ (.string ((rd_T27 a1 a2).f1))).setCell ⟨a5,2,none⟩ (.bool ((rd_T27 a1 a2).f2))).heap[a5]? = some (.cells #[.string ((rd_T27 a1 a2).f0),.string ((rd_T27 a1 a2).f1),.bool ((rd_T27 a1 a2).f2)] 27 (0,0))):=⟨bp a3.out⟩
         have ad:Aside0 (Below w.heap.size w (((aa.setCell ⟨a5,0,none⟩ (.string ((rd_T27 a1 a2).f0))).setCell ⟨a5,1,none⟩ (.string ((rd_T27 a1 a2).f1))).setCell ⟨a5,2,none⟩ (.bool ((rd_T27 a1 a2).f2)))):=⟨bf HB.out⟩
         (try clear a4);(try clear a3);(try clear HB);generalize (((aa.setCell ⟨a5,0,none⟩ (.string ((rd_T27 a1 a2).f0))).setCell ⟨a5,1,none⟩ (.string ((rd_T27 a1 a2).f1))).setCell ⟨a5,2,none⟩ (.bool ((rd_T27 a1 a2).f2)))=w17 at ab ac ad ⊢; have a4:=ab;have a3:=ac;have HB:=ad;clear ab ac ad;refine Ya3 (blk_drew a4.out) (blk_drew a3.out) (below_drew1 HB.out) ?_;clear a4 a3 HB;intro a4 a3 HB;refine start_ (n:=26) (S:=fun w'=>w'.cell? ⟨a5,0,none⟩=some (.string ((rd_T27 a1 a2).f0))∧w'.cell? ⟨a5,1,none⟩=some (.string ((rd_T27 a1 a2).f1))∧w'.cell? ⟨a5,2,none⟩=some (.bool ((rd_T27 a1 a2).f2))) (ds:=[]) (fb 26 0) (by kernel_rfl) rfl rfl ⟨bc a3 0,bc a3 1,bc a3 2⟩ (fun hHeld => ?_);refine with_tabW spec_ValidTree.tab7 spec_ValidTree.bits7 (fun HT_ HW_ => ?_);generalize w17.drew=w18 at a4 a3 HB hHeld ⊢; refine pu 0 22 (fb 26 1) HT_ ?_;refine tk 1 23 (fb 26 3) HT_ HW_ hHeld ?_;refine o1 2 (some 24) (fb 26 7) HT_ (fun K hK => ?_);refine gs _ (#[.string ((rd_T27 a1 a2).f0)]) Tryd.func23 ?_;(with_reducible refine (spec_ValidPath.calls k1 ((rd_T27 a1 a2).f0) true _ aw.out).mono ?_);rintro e w19 ⟨rfl,hb⟩;refine ⟨_,rfl,?_⟩;refine Ya3 (bb a4 hb) (bb a3 hb) (below_step (bf HB.out) hb) ?_;clear a4 a3 HB;intro a4 a3 HB;(try clear hb);(try clear hb2);(try clear hk);(try clear hi);refine hK.out _ _ ⟨bc a3 0,bc a3 1,bc a3 2⟩ (fun hHeld => ?_);clear hK K;refine nm 24 ?_;refine pu 3 25 (fb 26 15) HT_ ?_;refine pu 4 26 (fb 26 31) HT_ ?_;refine pu 5 27 (fb 26 63) HT_ ?_;refine tk 6 28 (fb 26 127) HT_ HW_ hHeld ?_;refine pu 7 29 (fb 26 255) HT_ ?_;refine pu 8 30 (fb 26 511) HT_ ?_;refine pu 9 31 (fb 26 1023) HT_ ?_;refine pu 10 32 (fb 26 2047) HT_ ?_;refine pn 11 33 (fb 26 4095) HT_ ?_;refine pn 12 34 (fb 26 8191) HT_ ?_;refine pn 13 35 (fb 26 16383) HT_ ?_;refine pn 14 36 (fb 26 32767) HT_ ?_;refine pn 15 37 (fb 26 65535) HT_ ?_;refine pn 16 38 (fb 26 131071) HT_ ?_;refine pn 17 39 (fb 26 262143) HT_ ?_;refine pn 18 40 (fb 26 524287) HT_ ?_;refine pn 19 41 (fb 26 1048575) HT_ ?_;refine pn 20 42 (fb 26 2097151) HT_ ?_;refine pn 21 43 (fb 26 4194303) HT_ ?_;refine pn 22 44 (fb 26 8388607) HT_ ?_;refine pn 23 45 (fb 26 16777215) HT_ ?_;refine pn 24 46 (fb 26 33554431) HT_ ?_;refine pu 25 47 (fb 26 67108863) HT_ ?_;refine done_ (done_of HT_.out (by kernel_rfl)) ?_
         try go_wp2
         go_meet
         case rel=>exact ⟨_,(true),Ye1,H',⟨by have:=HK1.out;first|omega|exact Nat.le_refl _⟩,⟨bk a4.out⟩,⟨bk a3.out⟩,⟨bf HB.out⟩⟩
        ·rw [if_neg ao] at H
         have ax:decide (1500<(((rd_T27 a1 a2).f1).size:Int))=false:=decide_eq_false ao;have ba:decide (1500<((rd_T27 a1 a2).f1).size)=false:=decide_eq_false (by omega);clear ao;(first|rw [ax]|(simp only [i64_w,i32_w];rw [ax])|skip)
         by_cases aj:a2>0
         ·rw [if_pos aj] at H
          have aP:decide (0<a2)=true:=decide_eq_true aj;clear aj
          obtain ⟨a9,ak⟩:∃ j_:Int,(wrap64 (a2 - 1))=j_:=⟨_,rfl⟩
          replace H:(if 0≤(a9) then (if (a9)<(a1.length:Int) then (spec_ValidTree.j1 k1 a2 (!(Op.bytesLess (((rd_T27 a1 (a9)).f0).toList) (((rd_T27 a1 a2).f0).toList))) a1 ((rd_T27 a1 a2).f0) ((rd_T27 a1 a2).f1) ((rd_T27 a1 a2).f2)) else (none)) else (none))=some r:=by first|(rw [ak] at H;exact H)|(simp only [ak] at H ⊢; exact H)
          (try rw [ak] at aw);have hji21w:(IntKind.i64.wrap (a2 - 1))=a9:=(i64_w _).trans ak
          by_cases ap:0≤(a9)
          ·rw [if_pos ap] at H
           have c22b0:decide (0≤(a9))=true:=decide_eq_true ap;clear ap
           by_cases aq:(a9)<(a1.length:Int)
           ·rw [if_pos aq] at H
            have c23b0:decide ((a9)<(a1.length:Int))=true:=decide_eq_true aq;clear aq;have H':=Aside0.mk H;clear H
            try go_wp2
            have ab:Aside0 ((((aa.setCell ⟨a5,0,none⟩ (.string ((rd_T27 a1 a2).f0))).setCell ⟨a5,1,none⟩ (.string ((rd_T27 a1 a2).f1))).setCell ⟨a5,2,none⟩ (.bool ((rd_T27 a1 a2).f2))).heap[af]? = some (.cells #[.slice (some a8) a1.length ae] 25 (0,0))):=⟨bkf a4.out av.out⟩
            have ac:Aside0 ((((aa.setCell ⟨a5,0,none⟩ (.string ((rd_T27 a1 a2).f0))).setCell ⟨a5,1,none⟩ (.string ((rd_T27 a1 a2).f1))).setCell ⟨a5,2,none⟩ (.bool ((rd_T27 a1 a2).f2))).heap[a5]? = some (.cells #[.string ((rd_T27 a1 a2).f0),.string ((rd_T27 a1 a2).f1),.bool ((rd_T27 a1 a2).f2)] 27 (0,0))):=⟨bp a3.out⟩
            have ad:Aside0 (Below w.heap.size w (((aa.setCell ⟨a5,0,none⟩ (.string ((rd_T27 a1 a2).f0))).setCell ⟨a5,1,none⟩ (.string ((rd_T27 a1 a2).f1))).setCell ⟨a5,2,none⟩ (.bool ((rd_T27 a1 a2).f2)))):=⟨bf HB.out⟩
            (try clear a4);(try clear a3);(try clear HB);generalize (((aa.setCell ⟨a5,0,none⟩ (.string ((rd_T27 a1 a2).f0))).setCell ⟨a5,1,none⟩ (.string ((rd_T27 a1 a2).f1))).setCell ⟨a5,2,none⟩ (.bool ((rd_T27 a1 a2).f2)))=w24 at ab ac ad ⊢; have a4:=ab;have a3:=ac;have HB:=ad;clear ab ac ad;refine Ya3 (blk_drew a4.out) (blk_drew a3.out) (below_drew1 HB.out) ?_;clear a4 a3 HB;intro a4 a3 HB;have aQ:0≤((a9):Int):=oda;have aR:(a9)<(a1.length:Int):=oda;obtain ⟨bd,bg,aE,aF,aG⟩:=at_T27 aC.out (a9) aQ aR;have hw127_2:=aG;have hw127_1:=aF;have hw127_0:=aE
            obtain rfl:a8=bd:=(by injection bg)
            replace aE:=pw_cell_below HB.out aE;replace aF:=pw_cell_below HB.out aF;replace aG:=pw_cell_below HB.out aG;replace aQ:=eq_true aQ;replace aR:=eq_true aR;refine start_ (n:=26) (S:=fun w'=>w'.cell? ⟨a5,0,none⟩=some (.string ((rd_T27 a1 a2).f0))∧w'.cell? ⟨a5,1,none⟩=some (.string ((rd_T27 a1 a2).f1))∧w'.cell? ⟨a5,2,none⟩=some (.bool ((rd_T27 a1 a2).f2))∧w'.cell? ⟨af,0,none⟩=some (.slice (some a8) a1.length ae)∧w'.cell? (a8.add (((a9)).toNat*3))=some (.string ((rd_T27 a1 (a9)).f0))∧w'.cell? ⟨(a8.add (((a9)).toNat*3)).block,(a8.add (((a9)).toNat*3)).off+1,none⟩=some (.string ((rd_T27 a1 (a9)).f1))∧w'.cell? ⟨(a8.add (((a9)).toNat*3)).block,(a8.add (((a9)).toNat*3)).off+2,none⟩=some (.bool ((rd_T27 a1 (a9)).f2))) (ds:=[]) (fb 26 0) (by kernel_rfl) rfl rfl ⟨bc a3 0,bc a3 1,bc a3 2,bc a4 0,(pw_cell_below HB.out hw127_0),(pw_cell_below HB.out hw127_1),(pw_cell_below HB.out hw127_2)⟩ (fun hHeld => ?_);refine with_tabW spec_ValidTree.tab7 spec_ValidTree.bits7 (fun HT_ HW_ => ?_);generalize w24.drew=w25 at a4 a3 HB aE aF aG hHeld ⊢; refine pu 0 22 (fb 26 1) HT_ ?_;refine tk 1 23 (fb 26 3) HT_ HW_ hHeld ?_;refine o1 2 (some 24) (fb 26 7) HT_ (fun K hK => ?_);refine gs _ (#[.string ((rd_T27 a1 a2).f0)]) Tryd.func23 ?_;(with_reducible refine (spec_ValidPath.calls k1 ((rd_T27 a1 a2).f0) true _ aw.out).mono ?_);rintro e w26 ⟨rfl,hb⟩;refine ⟨_,rfl,?_⟩;refine Ya3 (bb a4 hb) (bb a3 hb) (below_step (bf HB.out) hb) ?_;clear a4 a3 HB;intro a4 a3 HB;(try clear hb);(try clear hb2);(try clear hk);(try clear hi);refine hK.out _ _ ⟨bc a3 0,bc a3 1,bc a3 2,bc a4 0,(pw_cell_below HB.out hw127_0),(pw_cell_below HB.out hw127_1),(pw_cell_below HB.out hw127_2)⟩ (fun hHeld => ?_);clear hK K;refine nm 24 ?_;refine pu 3 25 (fb 26 15) HT_ ?_;refine pu 4 26 (fb 26 31) HT_ ?_;refine pu 5 27 (fb 26 63) HT_ ?_;refine tk 6 28 (fb 26 127) HT_ HW_ hHeld ?_;refine pu 7 29 (fb 26 255) HT_ ?_;refine pu 8 30 (fb 26 511) HT_ ?_;refine pu 9 31 (fb 26 1023) HT_ ?_;refine pu 10 32 (fb 26 2047) HT_ ?_;refine pu 11 33 (fb 26 4095) HT_ ?_;refine pu 12 34 (fb 26 8191) HT_ ?_;refine pu 13 35 (fb 26 16383) HT_ ?_;refine pu 14 36 (fb 26 32767) HT_ ?_;refine pu 16 38 (fb 26 98303) HT_ ?_;refine pu 17 39 (fb 26 229375) HT_ ?_;refine pu 21 43 (fb 26 2326527) HT_ ?_;refine tk 15 37 (fb 26 2359295) HT_ HW_ hHeld ?_;refine pu 18 40 (fb 26 2621439) HT_ ?_;refine pu 19 41 (fb 26 3145727) HT_ ?_;refine tk 20 42 (fb 26 4194303) HT_ HW_ hHeld ?_;refine tk 22 44 (fb 26 8388607) HT_ HW_ hHeld ?_;refine pu 23 45 (fb 26 16777215) HT_ ?_;refine pu 24 46 (fb 26 33554431) HT_ ?_;refine pu 25 47 (fb 26 67108863) HT_ ?_;refine done_ (done_of HT_.out (by kernel_rfl)) ?_
            try go_wp2
            go_meet
            case rel=>exact ⟨_,(!(Op.bytesLess (((rd_T27 a1 (a9)).f0).toList) (((rd_T27 a1 a2).f0).toList))),(by first|rfl|(simp;done)|(simp only [←ak] <;> (first|rfl|simp))|(simp [*];done)),(by first|exact H'|(subst ak;exact H')|(simp only [←ak] at H' ⊢; exact H')),⟨by have:=HK1.out;first|omega|exact Nat.le_refl _⟩,⟨bk a4.out⟩,⟨bk a3.out⟩,⟨bf HB.out⟩⟩
           ·rw [if_neg aq] at H
            exact absurd H (by simp)
          ·rw [if_neg ap] at H
           exact absurd H (by simp)
         ·rw [if_neg aj] at H
          have aP:decide (0<a2)=false:=decide_eq_false aj;clear aj;have H':=Aside0.mk H;clear H
          try go_wp2
          have ab:Aside0 ((((aa.setCell ⟨a5,0,none⟩ (.string ((rd_T27 a1 a2).f0))).setCell ⟨a5,1,none⟩ (.string ((rd_T27 a1 a2).f1))).setCell ⟨a5,2,none⟩ (.bool ((rd_T27 a1 a2).f2))).heap[af]? = some (.cells #[.slice (some a8) a1.length ae] 25 (0,0))):=⟨bkf a4.out av.out⟩
          have ac:Aside0 ((((aa.setCell ⟨a5,0,none⟩ (.string ((rd_T27 a1 a2).f0))).setCell ⟨a5,1,none⟩ (.string ((rd_T27 a1 a2).f1))).setCell ⟨a5,2,none⟩ (.bool ((rd_T27 a1 a2).f2))).heap[a5]? = some (.cells #[.string ((rd_T27 a1 a2).f0),.string ((rd_T27 a1 a2).f1),.bool ((rd_T27 a1 a2).f2)] 27 (0,0))):=⟨bp a3.out⟩
          have ad:Aside0 (Below w.heap.size w (((aa.setCell ⟨a5,0,none⟩ (.string ((rd_T27 a1 a2).f0))).setCell ⟨a5,1,none⟩ (.string ((rd_T27 a1 a2).f1))).setCell ⟨a5,2,none⟩ (.bool ((rd_T27 a1 a2).f2)))):=⟨bf HB.out⟩
          (try clear a4);(try clear a3);(try clear HB);generalize (((aa.setCell ⟨a5,0,none⟩ (.string ((rd_T27 a1 a2).f0))).setCell ⟨a5,1,none⟩ (.string ((rd_T27 a1 a2).f1))).setCell ⟨a5,2,none⟩ (.bool ((rd_T27 a1 a2).f2)))=w27 at ab ac ad ⊢; have a4:=ab;have a3:=ac;have HB:=ad;clear ab ac ad;refine Ya3 (blk_drew a4.out) (blk_drew a3.out) (below_drew1 HB.out) ?_;clear a4 a3 HB;intro a4 a3 HB;refine start_ (n:=26) (S:=fun w'=>w'.cell? ⟨a5,0,none⟩=some (.string ((rd_T27 a1 a2).f0))∧w'.cell? ⟨a5,1,none⟩=some (.string ((rd_T27 a1 a2).f1))∧w'.cell? ⟨a5,2,none⟩=some (.bool ((rd_T27 a1 a2).f2))) (ds:=[]) (fb 26 0) (by kernel_rfl) rfl rfl ⟨bc a3 0,bc a3 1,bc a3 2⟩ (fun hHeld => ?_);refine with_tabW spec_ValidTree.tab7 spec_ValidTree.bits7 (fun HT_ HW_ => ?_);generalize w27.drew=w28 at a4 a3 HB hHeld ⊢; refine pu 0 22 (fb 26 1) HT_ ?_;refine tk 1 23 (fb 26 3) HT_ HW_ hHeld ?_;refine o1 2 (some 24) (fb 26 7) HT_ (fun K hK => ?_);refine gs _ (#[.string ((rd_T27 a1 a2).f0)]) Tryd.func23 ?_;(with_reducible refine (spec_ValidPath.calls k1 ((rd_T27 a1 a2).f0) true _ aw.out).mono ?_);rintro e w29 ⟨rfl,hb⟩;refine ⟨_,rfl,?_⟩;refine Ya3 (bb a4 hb) (bb a3 hb) (below_step (bf HB.out) hb) ?_;clear a4 a3 HB;intro a4 a3 HB;(try clear hb);(try clear hb2);(try clear hk);(try clear hi);refine hK.out _ _ ⟨bc a3 0,bc a3 1,bc a3 2⟩ (fun hHeld => ?_);clear hK K;refine nm 24 ?_;refine pu 3 25 (fb 26 15) HT_ ?_;refine pu 4 26 (fb 26 31) HT_ ?_;refine pu 5 27 (fb 26 63) HT_ ?_;refine tk 6 28 (fb 26 127) HT_ HW_ hHeld ?_;refine pu 7 29 (fb 26 255) HT_ ?_;refine pu 8 30 (fb 26 511) HT_ ?_;refine pu 9 31 (fb 26 1023) HT_ ?_;refine pu 10 32 (fb 26 2047) HT_ ?_;refine pu 11 33 (fb 26 4095) HT_ ?_;refine pu 12 34 (fb 26 8191) HT_ ?_;refine pu 13 35 (fb 26 16383) HT_ ?_;refine pn 14 36 (fb 26 32767) HT_ ?_;refine pn 15 37 (fb 26 65535) HT_ ?_;refine pn 16 38 (fb 26 131071) HT_ ?_;refine pn 17 39 (fb 26 262143) HT_ ?_;refine pn 18 40 (fb 26 524287) HT_ ?_;refine pn 19 41 (fb 26 1048575) HT_ ?_;refine pn 20 42 (fb 26 2097151) HT_ ?_;refine pn 21 43 (fb 26 4194303) HT_ ?_;refine pn 22 44 (fb 26 8388607) HT_ ?_;refine pn 23 45 (fb 26 16777215) HT_ ?_;refine pu 24 46 (fb 26 33554431) HT_ ?_;refine pu 25 47 (fb 26 67108863) HT_ ?_;refine done_ (done_of HT_.out (by kernel_rfl)) ?_
          try go_wp2
          go_meet
          case rel=>exact ⟨_,(false),Ye1,H',⟨by have:=HK1.out;first|omega|exact Nat.le_refl _⟩,⟨bk a4.out⟩,⟨bk a3.out⟩,⟨bf HB.out⟩⟩
       ·replace an:=Bool.eq_false_iff.mpr an;subst an
        have H1:(spec_ValidTree.j1 k1 a2 true a1 ((rd_T27 a1 a2).f0) ((rd_T27 a1 a2).f1) ((rd_T27 a1 a2).f2))=some r:=by rw [if_neg (show ¬(false=true) by decide)] at H;exact H
        clear H;have H:=H1;clear H1;have H':=Aside0.mk H;clear H
        try go_wp2
        have ab:Aside0 ((((aa.setCell ⟨a5,0,none⟩ (.string ((rd_T27 a1 a2).f0))).setCell ⟨a5,1,none⟩ (.string ((rd_T27 a1 a2).f1))).setCell ⟨a5,2,none⟩ (.bool ((rd_T27 a1 a2).f2))).heap[af]? = some (.cells #[.slice (some a8) a1.length ae] 25 (0,0))):=⟨bkf a4.out av.out⟩
        have ac:Aside0 ((((aa.setCell ⟨a5,0,none⟩ (.string ((rd_T27 a1 a2).f0))).setCell ⟨a5,1,none⟩ (.string ((rd_T27 a1 a2).f1))).setCell ⟨a5,2,none⟩ (.bool ((rd_T27 a1 a2).f2))).heap[a5]? = some (.cells #[.string ((rd_T27 a1 a2).f0),.string ((rd_T27 a1 a2).f1),.bool ((rd_T27 a1 a2).f2)] 27 (0,0))):=⟨bp a3.out⟩
        have ad:Aside0 (Below w.heap.size w (((aa.setCell ⟨a5,0,none⟩ (.string ((rd_T27 a1 a2).f0))).setCell ⟨a5,1,none⟩ (.string ((rd_T27 a1 a2).f1))).setCell ⟨a5,2,none⟩ (.bool ((rd_T27 a1 a2).f2)))):=⟨bf HB.out⟩
        (try clear a4);(try clear a3);(try clear HB);generalize (((aa.setCell ⟨a5,0,none⟩ (.string ((rd_T27 a1 a2).f0))).setCell ⟨a5,1,none⟩ (.string ((rd_T27 a1 a2).f1))).setCell ⟨a5,2,none⟩ (.bool ((rd_T27 a1 a2).f2)))=w30 at ab ac ad ⊢; have a4:=ab;have a3:=ac;have HB:=ad;clear ab ac ad;refine Ya3 (blk_drew a4.out) (blk_drew a3.out) (below_drew1 HB.out) ?_;clear a4 a3 HB;intro a4 a3 HB;refine start_ (n:=26) (S:=fun w'=>w'.cell? ⟨a5,0,none⟩=some (.string ((rd_T27 a1 a2).f0))∧w'.cell? ⟨a5,1,none⟩=some (.string ((rd_T27 a1 a2).f1))∧w'.cell? ⟨a5,2,none⟩=some (.bool ((rd_T27 a1 a2).f2))) (ds:=[]) (fb 26 0) (by kernel_rfl) rfl rfl ⟨bc a3 0,bc a3 1,bc a3 2⟩ (fun hHeld => ?_);refine with_tabW spec_ValidTree.tab7 spec_ValidTree.bits7 (fun HT_ HW_ => ?_);generalize w30.drew=w31 at a4 a3 HB hHeld ⊢; refine pu 0 22 (fb 26 1) HT_ ?_;refine tk 1 23 (fb 26 3) HT_ HW_ hHeld ?_;refine o1 2 (some 24) (fb 26 7) HT_ (fun K hK => ?_);refine gs _ (#[.string ((rd_T27 a1 a2).f0)]) Tryd.func23 ?_;(with_reducible refine (spec_ValidPath.calls k1 ((rd_T27 a1 a2).f0) false _ aw.out).mono ?_);rintro e w32 ⟨rfl,hb⟩;refine ⟨_,rfl,?_⟩;refine Ya3 (bb a4 hb) (bb a3 hb) (below_step (bf HB.out) hb) ?_;clear a4 a3 HB;intro a4 a3 HB;(try clear hb);(try clear hb2);(try clear hk);(try clear hi);refine hK.out _ _ ⟨bc a3 0,bc a3 1,bc a3 2⟩ (fun hHeld => ?_);clear hK K;refine nm 24 ?_;refine pu 3 25 (fb 26 15) HT_ ?_;refine pu 4 26 (fb 26 31) HT_ ?_;refine pn 5 27 (fb 26 63) HT_ ?_;refine pn 6 28 (fb 26 127) HT_ ?_;refine pn 7 29 (fb 26 255) HT_ ?_;refine pn 8 30 (fb 26 511) HT_ ?_;refine pu 9 31 (fb 26 1023) HT_ ?_;refine pu 10 32 (fb 26 2047) HT_ ?_;refine pn 11 33 (fb 26 4095) HT_ ?_;refine pn 12 34 (fb 26 8191) HT_ ?_;refine pn 13 35 (fb 26 16383) HT_ ?_;refine pn 14 36 (fb 26 32767) HT_ ?_;refine pn 15 37 (fb 26 65535) HT_ ?_;refine pn 16 38 (fb 26 131071) HT_ ?_;refine pn 17 39 (fb 26 262143) HT_ ?_;refine pn 18 40 (fb 26 524287) HT_ ?_;refine pn 19 41 (fb 26 1048575) HT_ ?_;refine pn 20 42 (fb 26 2097151) HT_ ?_;refine pn 21 43 (fb 26 4194303) HT_ ?_;refine pn 22 44 (fb 26 8388607) HT_ ?_;refine pn 23 45 (fb 26 16777215) HT_ ?_;refine pn 24 46 (fb 26 33554431) HT_ ?_;refine pu 25 47 (fb 26 67108863) HT_ ?_;refine done_ (done_of HT_.out (by kernel_rfl)) ?_
        try go_wp2
        go_meet
        case rel=>exact ⟨_,(true),Ye1,H',⟨by have:=HK1.out;first|omega|exact Nat.le_refl _⟩,⟨bk a4.out⟩,⟨bk a3.out⟩,⟨bf HB.out⟩⟩
      case rest =>
       clear aM;(try clear c1);(try clear c2);(try clear p2);(try clear an);(try clear aj);(try clear aP);(try clear ap);(try clear aq);obtain ⟨kq,aD,rfl,HA,HJ8,a4,a3,HB⟩:=hcut
       cases kq with
       | zero=>exact absurd HA.out (by simp [spec_ValidTree.j1])
       | succ aS =>
        have H:=HA.out;clear HA;simp only [spec_ValidTree.j1] at H
        by_cases ay:aD=true
        ·subst ay
         have H1:(some false)=some r:=by rw [if_pos rfl] at H;exact H
         clear H;have H:=H1;clear H1;obtain rfl:=Option.some.inj H
         go_wp2
         go_ret
         exact ⟨Ye2,(bf HB.out)⟩
        ·replace ay:=Bool.eq_false_iff.mpr ay;subst ay
         have H1:(spec_ValidTree.l1 aS a2 0 a1 ((rd_T27 a1 a2).f0) ((rd_T27 a1 a2).f1) ((rd_T27 a1 a2).f2))=some r:=by rw [if_neg (show ¬(false=true) by decide)] at H;exact H
         clear H;have H:=H1;clear H1;have H':=Aside0.mk H;clear H
         go_wp2
         go_loopg [5] aS (fun kq v5 w' => ∃ (a6:Int),v5 = .int .i64 a6∧Aside0 (spec_ValidTree.l1 kq a2 a6 a1 ((rd_T27 a1 a2).f0) ((rd_T27 a1 a2).f1) ((rd_T27 a1 a2).f2)=some r)∧Aside0 (kq≤aS)∧Aside0 (w'.heap[af]? = some (.cells #[(.slice (some a8) a1.length ae)] 25 (0,0)))∧Aside0 (w'.heap[a5]? = some (.cells #[.string ((rd_T27 a1 a2).f0),.string ((rd_T27 a1 a2).f1),.bool ((rd_T27 a1 a2).f2)] 27 (0,0)))∧Aside0 (Below w.heap.size w w'))
         case atStart=>exact ⟨(0),Ye1,H',⟨Nat.le_refl _⟩,⟨bk a4.out⟩,⟨bk a3.out⟩,⟨bf HB.out⟩⟩
         case round =>
          clear H';(try clear c1);(try clear c2);(try clear p2);(try clear c3);(try clear an);(try clear aj);(try clear aP);(try clear ap);(try clear aq);(try clear ay);(try clear p2);obtain ⟨a6,rfl,HA,HK3,a4,a3,HB⟩:=hrel
          cases gk with
          | zero=>exact absurd HA.out (by simp [spec_ValidTree.l1])
          | succ k3 =>
           have H:=HA.out;clear HA;simp only [spec_ValidTree.l1] at H
           by_cases ar:a6<a2
           ·rw [if_pos ar] at H
            have bh:decide (a6<a2)=true:=decide_eq_true ar;clear ar
            by_cases aH:0≤a6
            ·rw [if_pos aH] at H
             have c35b0:decide (0≤a6)=true:=decide_eq_true aH;clear aH
             by_cases aI:a6<(a1.length:Int)
             ·rw [if_pos aI] at H
              have c36b0:decide (a6<(a1.length:Int))=true:=decide_eq_true aI;clear aI;replace H:=Option.bind_eq_some_iff.mp H;obtain ⟨aB,b0,H⟩:=H;replace H:(if aB=true then (some false) else (spec_ValidTree.l1 k3 a2 (wrap64 (a6+1)) a1 ((rd_T27 a1 a2).f0) ((rd_T27 a1 a2).f1) ((rd_T27 a1 a2).f2)))=some r:=H;have A37:=Aside0.mk b0;clear b0
              by_cases aJ:aB=true
              ·subst aJ
               have H1:(some false)=some r:=by rw [if_pos rfl] at H;exact H
               clear H;have H:=H1;clear H1;obtain rfl:=Option.some.inj H
               try go_wp2
               refine Ya3 (blk_drew a4.out) (blk_drew a3.out) (below_drew1 HB.out) ?_;clear a4 a3 HB;intro a4 a3 HB;have al:0≤(a6:Int):=oda;have am:a6<(a1.length:Int):=oda;obtain ⟨aT,aU,ag,ah,ai⟩:=at_T27 aC.out a6 al am;have hw128_2:=ai;have hw128_1:=ah;have hw128_0:=ag
               obtain rfl:a8=aT:=(by injection aU)
               replace ag:=pw_cell_below HB.out ag;replace ah:=pw_cell_below HB.out ah;replace ai:=pw_cell_below HB.out ai;replace al:=eq_true al;replace am:=eq_true am;refine start_ (n:=9) (S:=fun w'=>w'.cell? ⟨af,0,none⟩=some (.slice (some a8) a1.length ae)∧w'.cell? ⟨a5,0,none⟩=some (.string ((rd_T27 a1 a2).f0))∧w'.cell? ⟨a5,1,none⟩=some (.string ((rd_T27 a1 a2).f1))∧w'.cell? ⟨a5,2,none⟩=some (.bool ((rd_T27 a1 a2).f2))∧w'.cell? (a8.add ((a6).toNat*3))=some (.string ((rd_T27 a1 a6).f0))∧w'.cell? ⟨(a8.add ((a6).toNat*3)).block,(a8.add ((a6).toNat*3)).off+1,none⟩=some (.string ((rd_T27 a1 a6).f1))∧w'.cell? ⟨(a8.add ((a6).toNat*3)).block,(a8.add ((a6).toNat*3)).off+2,none⟩=some (.bool ((rd_T27 a1 a6).f2))) (ds:=[]) (fb 9 0) (by kernel_rfl) rfl rfl ⟨bc a4 0,bc a3 0,bc a3 1,bc a3 2,(pw_cell_below HB.out hw128_0),(pw_cell_below HB.out hw128_1),(pw_cell_below HB.out hw128_2)⟩ (fun hHeld => ?_);refine with_tabW spec_ValidTree.tab12 spec_ValidTree.bits12 (fun HT_ HW_ => ?_);generalize wr.drew=w39 at a4 a3 HB ag ah ai hHeld ⊢; refine pu 0 53 (fb 9 1) HT_ ?_;refine pu 2 55 (fb 9 5) HT_ ?_;refine pu 6 59 (fb 9 69) HT_ ?_;refine tk 1 54 (fb 9 71) HT_ HW_ hHeld ?_;refine pu 3 56 (fb 9 79) HT_ ?_;refine pu 4 57 (fb 9 95) HT_ ?_;refine tk 5 58 (fb 9 127) HT_ HW_ hHeld ?_;refine tk 7 60 (fb 9 255) HT_ HW_ hHeld ?_;refine o1 8 (some 61) (fb 9 511) HT_ (fun K hK => ?_);refine gs _ (#[.string ((rd_T27 a1 a6).f0),.string ((rd_T27 a1 a2).f0)]) Tryd.func72 ?_;(with_reducible refine (spec_l5Begins.calls ((rd_T27 a1 a6).f0) ((rd_T27 a1 a2).f0) true _ A37.out).mono ?_);rintro e w' ⟨rfl,⟨nd,rfl⟩⟩;refine ⟨_,rfl,?_⟩;refine hK.out _ _ ⟨bc a4 0,bc a3 0,bc a3 1,bc a3 2,(pw_cell_below HB.out hw128_0),(pw_cell_below HB.out hw128_1),(pw_cell_below HB.out hw128_2)⟩ (fun hHeld => ?_);clear hK K;refine nm 61 ?_;refine done_ (done_of HT_.out (by kernel_rfl)) ?_
               try go_wp2
               go_ret
               exact ⟨Ye2,(bf HB.out)⟩
              ·replace aJ:=Bool.eq_false_iff.mpr aJ;subst aJ
               have H1:(spec_ValidTree.l1 k3 a2 (wrap64 (a6+1)) a1 ((rd_T27 a1 a2).f0) ((rd_T27 a1 a2).f1) ((rd_T27 a1 a2).f2))=some r:=by rw [if_neg (show ¬(false=true) by decide)] at H;exact H
               clear H;have H:=H1;clear H1;have H':=Aside0.mk H;clear H
               try go_wp2
               refine Ya3 (blk_drew a4.out) (blk_drew a3.out) (below_drew1 HB.out) ?_;clear a4 a3 HB;intro a4 a3 HB;have al:0≤(a6:Int):=oda;have am:a6<(a1.length:Int):=oda;obtain ⟨aT,aU,ag,ah,ai⟩:=at_T27 aC.out a6 al am;have hw128_2:=ai;have hw128_1:=ah;have hw128_0:=ag
               obtain rfl:a8=aT:=(by injection aU)
               replace ag:=pw_cell_below HB.out ag;replace ah:=pw_cell_below HB.out ah;replace ai:=pw_cell_below HB.out ai;replace al:=eq_true al;replace am:=eq_true am;refine start_ (n:=9) (S:=fun w'=>w'.cell? ⟨af,0,none⟩=some (.slice (some a8) a1.length ae)∧w'.cell? ⟨a5,0,none⟩=some (.string ((rd_T27 a1 a2).f0))∧w'.cell? ⟨a5,1,none⟩=some (.string ((rd_T27 a1 a2).f1))∧w'.cell? ⟨a5,2,none⟩=some (.bool ((rd_T27 a1 a2).f2))∧w'.cell? (a8.add ((a6).toNat*3))=some (.string ((rd_T27 a1 a6).f0))∧w'.cell? ⟨(a8.add ((a6).toNat*3)).block,(a8.add ((a6).toNat*3)).off+1,none⟩=some (.string ((rd_T27 a1 a6).f1))∧w'.cell? ⟨(a8.add ((a6).toNat*3)).block,(a8.add ((a6).toNat*3)).off+2,none⟩=some (.bool ((rd_T27 a1 a6).f2))) (ds:=[]) (fb 9 0) (by kernel_rfl) rfl rfl ⟨bc a4 0,bc a3 0,bc a3 1,bc a3 2,(pw_cell_below HB.out hw128_0),(pw_cell_below HB.out hw128_1),(pw_cell_below HB.out hw128_2)⟩ (fun hHeld => ?_);refine with_tabW spec_ValidTree.tab12 spec_ValidTree.bits12 (fun HT_ HW_ => ?_);generalize wr.drew=w40 at a4 a3 HB ag ah ai hHeld ⊢; refine pu 0 53 (fb 9 1) HT_ ?_;refine pu 2 55 (fb 9 5) HT_ ?_;refine pu 6 59 (fb 9 69) HT_ ?_;refine tk 1 54 (fb 9 71) HT_ HW_ hHeld ?_;refine pu 3 56 (fb 9 79) HT_ ?_;refine pu 4 57 (fb 9 95) HT_ ?_;refine tk 5 58 (fb 9 127) HT_ HW_ hHeld ?_;refine tk 7 60 (fb 9 255) HT_ HW_ hHeld ?_;refine o1 8 (some 61) (fb 9 511) HT_ (fun K hK => ?_);refine gs _ (#[.string ((rd_T27 a1 a6).f0),.string ((rd_T27 a1 a2).f0)]) Tryd.func72 ?_;(with_reducible refine (spec_l5Begins.calls ((rd_T27 a1 a6).f0) ((rd_T27 a1 a2).f0) false _ A37.out).mono ?_);rintro e w' ⟨rfl,⟨nd,rfl⟩⟩;refine ⟨_,rfl,?_⟩;refine hK.out _ _ ⟨bc a4 0,bc a3 0,bc a3 1,bc a3 2,(pw_cell_below HB.out hw128_0),(pw_cell_below HB.out hw128_1),(pw_cell_below HB.out hw128_2)⟩ (fun hHeld => ?_);clear hK K;refine nm 61 ?_;refine done_ (done_of HT_.out (by kernel_rfl)) ?_
               try go_wp2
               go_roundg k3
               case measure=>have:=HK1.out;have:=HJ8.out;have:=HK3.out;omega
               case rel=>exact ⟨(wrap64 (a6+1)),Ye1,H',⟨by have:=HK1.out;have:=HJ8.out;have:=HK3.out;omega⟩,⟨bk a4.out⟩,⟨bk a3.out⟩,⟨bf HB.out⟩⟩
             ·rw [if_neg aI] at H
              exact absurd H (by simp)
            ·rw [if_neg aH] at H
             exact absurd H (by simp)
           ·rw [if_neg ar] at H
            have bh:decide (a6<a2)=false:=decide_eq_false ar;clear ar;have H':=Aside0.mk H;clear H
            go_wp2
            go_roundg k3
            case measure=>have:=HK1.out;have:=HJ8.out;have:=HK3.out;omega
            case rel=>exact ⟨(wrap64 (a2+1)),Ye1,H',⟨by have:=HK1.out;have:=HJ8.out;have:=HK3.out;omega⟩,⟨bk a4.out⟩,⟨bf HB.out⟩⟩
     ·rw [if_neg c8] at H
      exact absurd H (by simp)
    ·rw [if_neg c7] at H
     have b7:decide (a2<(a1.length:Int))=false:=decide_eq_false c7;clear c7;obtain rfl:=Option.some.inj H;have ⟨bB,bC⟩:=Yc1 a4.out
     go_wp2
     go_ret
     exact ⟨Ye2,(bf HB.out)⟩

end Go.Proofs.YtknagppkeodggaaDoor.P


namespace Go.Proofs.YtknagppkeodggaaDoor.P
open Go.RowKit Go.Proofs.YtknagppkeodggaaDoorW.PrintWords Go.Proofs.YtknagppkeodggaaDoorW.PrintLast Go.Proofs.YtknagppkeodggaaDoorW.PrintMore
attribute [local go_sem] max2_int min2_int max_two min_two max_three min_three max_four min_four
set_option linter.unusedVariables false
set_option linter.unusedSimpArgs false

mutual
def spec_Put.j0:Nat→Bool→List (S27)→ByteArray→ByteArray→Bool→Option ((List (S27))×Int)
 | 0,_,_,_,_,_=>none
 | k+1,x21,aJ,aL,b9,ba=>if x21=true then (some (([]:List (S27)),2)) else (spec_Put.l0 k 0 aJ aL b9 ba)
def spec_Put.l0:Nat→Int→List (S27)→ByteArray→ByteArray→Bool→Option ((List (S27))×Int)
 | 0,_,_,_,_,_=>none
 | k+1,x6,aJ,aL,b9,ba=>if x6<(aJ.length:Int) then (if 0≤x6 then ((spec_l5Begins.f ((rd_T27 aJ x6).f0) aL).bind fun bd=>(if bd=true then (some (([]:List (S27)),3)) else ((spec_l5Begins.f aL ((rd_T27 aJ x6).f0)).bind fun aH=>(if aH=true then (some (([]:List (S27)),3)) else (spec_Put.l0 k (wrap64 (x6+1)) aJ aL b9 ba))))) else (none)) else ((spec_l5Set.f k aJ aL b9 ba).bind fun ad=>(if (ad.length:Int)>100 then (some (([]:List (S27)),4)) else (some (ad,0))))
end
def spec_Put.f (k:Nat) (a7:List (S27)) (a1_0:ByteArray) (a1_1:ByteArray) (a1_2:Bool):Option ((List (S27))×Int):=(spec_ValidTree.f k a7).bind fun aM=>(if aM=true then ((spec_ValidPath.f k a1_0).bind fun aE=>(if aE=true then (spec_Put.j0 k (decide ((a1_1.size:Int)>1500)) a7 a1_0 a1_1 a1_2) else (spec_Put.j0 k true a7 a1_0 a1_1 a1_2))) else (some (([]:List (S27)),1)))
theorem spec_Put.mono_l:∀ k,(∀ y0 y1 y2 y3 y4,LeO (spec_Put.j0 k y0 y1 y2 y3 y4) (spec_Put.j0 (k+1) y0 y1 y2 y3 y4))∧(∀ y0 y1 y2 y3 y4,LeO (spec_Put.l0 k y0 y1 y2 y3 y4) (spec_Put.l0 (k+1) y0 y1 y2 y3 y4))
 | 0=>⟨fun _ _ _ _ _ r h=>by simp [spec_Put.j0] at h,fun _ _ _ _ _ r h=>by simp [spec_Put.l0] at h⟩
 | k + 1 => by
  obtain ⟨ih0,ih1⟩:=spec_Put.mono_l k;refine ⟨?_,?_⟩
  ·intro y0 y1 y2 y3 y4
   unfold spec_Put.j0
   repeat' first
   | (with_reducible exact ih0 _ _ _ _ _)
   | (with_reducible exact ih1 _ _ _ _ _)
   | (with_reducible exact spec_ValidPath.mono _ _)
   | (with_reducible exact spec_ValidTree.mono _ _)
   | (with_reducible exact spec_l5Set.mono _ _ _ _ _)
   | (with_reducible exact LeO.refl _)
   | (with_reducible exact LeO.none _)
   | (with_reducible refine LeO.ite ?_ ?_)
   | (with_reducible refine LeO.bind ?_ (fun _ => ?_))
   | exact ih0 _ _ _ _ _
   | exact ih1 _ _ _ _ _
   | exact spec_ValidPath.mono _ _
   | exact spec_ValidTree.mono _ _
   | exact spec_l5Set.mono _ _ _ _ _
   | exact LeO.none _
   | refine LeO.ite ?_ ?_
   | refine LeO.bind ?_ (fun _ => ?_)
  ·intro y0 y1 y2 y3 y4
   unfold spec_Put.l0
   repeat' first
   | (with_reducible exact ih0 _ _ _ _ _)
   | (with_reducible exact ih1 _ _ _ _ _)
   | (with_reducible exact spec_ValidPath.mono _ _)
   | (with_reducible exact spec_ValidTree.mono _ _)
   | (with_reducible exact spec_l5Set.mono _ _ _ _ _)
   | (with_reducible exact LeO.refl _)
   | (with_reducible exact LeO.none _)
   | (with_reducible refine LeO.ite ?_ ?_)
   | (with_reducible refine LeO.bind ?_ (fun _ => ?_))
   | exact ih0 _ _ _ _ _
   | exact ih1 _ _ _ _ _
   | exact spec_ValidPath.mono _ _
   | exact spec_ValidTree.mono _ _
   | exact spec_l5Set.mono _ _ _ _ _
   | exact LeO.none _
   | refine LeO.ite ?_ ?_
   | refine LeO.bind ?_ (fun _ => ?_)
theorem spec_Put.mono:∀ a0 a1 a2 a3 k,LeO (spec_Put.f k a0 a1 a2 a3) (spec_Put.f (k+1) a0 a1 a2 a3):=by
 intro a0 a1 a2 a3 k;obtain ⟨ih0,ih1⟩:=spec_Put.mono_l k
 unfold spec_Put.f
 repeat' first
   | (with_reducible exact ih0 _ _ _ _ _)
   | (with_reducible exact ih1 _ _ _ _ _)
   | (with_reducible exact spec_ValidPath.mono _ _)
   | (with_reducible exact spec_ValidTree.mono _ _)
   | (with_reducible exact spec_l5Set.mono _ _ _ _ _)
   | (with_reducible exact LeO.refl _)
   | (with_reducible exact LeO.none _)
   | (with_reducible refine LeO.ite ?_ ?_)
   | (with_reducible refine LeO.bind ?_ (fun _ => ?_))
   | exact ih0 _ _ _ _ _
   | exact ih1 _ _ _ _ _
   | exact spec_ValidPath.mono _ _
   | exact spec_ValidTree.mono _ _
   | exact spec_l5Set.mono _ _ _ _ _
   | exact LeO.none _
   | refine LeO.ite ?_ ?_
   | refine LeO.bind ?_ (fun _ => ?_)
set_option maxHeartbeats 8000000 in
set_option maxRecDepth 100000 in
theorem spec_Put.calls (k : Nat) (aF : Option Addr) (aG : Nat) (a7 : List (S27)) (a1_0 : ByteArray) (a1_1 : ByteArray) (a1_2 : Bool) (r1 : List (S27)) (r2 : Int) (w : World) (bC : Kd.C k27 w aF a7.length a7) (bD : a7.length ≤ aG) (h : spec_Put.f k a7 a1_0 a1_1 a1_2 = some (r1, r2)) :
  Calls Tryd.prog 15 #[.agg #[.slice aF a7.length aG],.agg #[.string a1_0,.string a1_1,.bool a1_2]] w fun e w' => ∃ v0_:Value,e = .returned (.tuple #[.agg #[v0_],.int .i64 r2])∧Kd.R k27 27 w' w.heap.size (fun _=>True) v0_ r1∧Below w.heap.size w w':=by
 have hu25:=Tryd.underlying25;have hu27:=Tryd.underlying27;have ac:=Aside0.mk bC;have ap:=Aside0.mk bD;clear bC bD;have HB:=Aside0.mk (Below.refl w.heap.size w);have H:((spec_ValidTree.f k a7).bind fun aM=>(if aM=true then ((spec_ValidPath.f k a1_0).bind fun aE=>(if aE=true then (spec_Put.j0 k (decide ((a1_1.size:Int)>1500)) a7 a1_0 a1_1 a1_2) else (spec_Put.j0 k true a7 a1_0 a1_1 a1_2))) else (some (([]:List (S27)),1))))=some (r1,r2):=h;clear h;replace H:=Option.bind_eq_some_iff.mp H;obtain ⟨aM,aq,H⟩:=H;replace H:(if aM=true then ((spec_ValidPath.f k a1_0).bind fun aE=>(if aE=true then (spec_Put.j0 k (decide ((a1_1.size:Int)>1500)) a7 a1_0 a1_1 a1_2) else (spec_Put.j0 k true a7 a1_0 a1_1 a1_2))) else (some (([]:List (S27)),1)))=some (r1,r2):=H;have A3:=Aside0.mk aq;clear aq
 by_cases c4:aM=true
 ·subst c4
  have H1:((spec_ValidPath.f k a1_0).bind fun aE=>(if aE=true then (spec_Put.j0 k (decide ((a1_1.size:Int)>1500)) a7 a1_0 a1_1 a1_2) else (spec_Put.j0 k true a7 a1_0 a1_1 a1_2)))=some (r1,r2):=by rw [if_pos rfl] at H;exact H
  clear H;have H:=H1;clear H1;have bA:=Aside0.mk H;clear H
  go_enter Tryd.func15,Tryd.ntmps15
  go_upto_region 3 with (first|((with_reducible refine gd 2 rfl ?_);(try (refine gate_guard (by rfl) ?_;dsimp only));refine bx 2 25 (#[.slice aF a7.length aG]) ?_;intro aK hg w6 hbox hb;refine Ya4 (below_step (be HB.out) hb) (hbox) (bs hg (be HB.out)) (bs hg (be HB.out)) ?_;clear HB;intro HB a4 aU aV;clear hb hbox hg)|((with_reducible refine gd 3 rfl ?_);(try (refine gate_guard (by rfl) ?_;dsimp only));refine bx 3 27 (#[.string a1_0,.string a1_1,.bool a1_2]) ?_;intro ao hg w7 hbox hb;refine Ya7 (bb a4 hb) (below_step (bf HB.out) hb) (hbox) (bs hg (bf HB.out)) (bs hg (bf HB.out)) (bl hg a4) (br hg a4) ?_;clear a4 HB;intro a4 HB a5 aW aX ae af;clear hb hbox hg)|((with_reducible refine gd 4 rfl ?_);(try (refine gate_guard (by rfl) ?_;dsimp only));refine bx 4 25 (#[.slice none 0 0]) ?_;intro an hg w8 hbox hb;refine Ya10 (bb a4 hb) (bb a5 hb) (below_step (bf HB.out) hb) (hbox) (bs hg (bf HB.out)) (bs hg (bf HB.out)) (bl hg a4) (br hg a4) (bl hg a5) (br hg a5) ?_;clear a4 a5 HB;intro a4 a5 HB a6 aY aZ ag ah al am;clear hb hbox hg;have bE:=ae.out;have bF:=af.out;have bG:=ag.out;have bH:=ah.out;have ⟨bg,bh⟩:=Yc1 a4.out)|(go_at_call 39;(with_reducible refine (spec_ValidTree.calls k _ _ a7 true _ ?side1 ?side2 A3.out).mono ?_);(case side1=>exact cb (Kd.C_below ac.out HB.out));(case side2=>exact ap.out);rintro e w12 ⟨rfl,hb⟩;refine Ya4 (bb a4 hb) (bb a5 hb) (bb a6 hb) (below_step (bf HB.out) hb) ?_;clear a4 a5 a6 HB;intro a4 a5 a6 HB;(try clear hb);(try clear hb2);(try clear hk);(try clear hi)))
  try have ⟨bg,bh⟩:=Yc1 a4.out
  repeat (go_quiet (first|((with_reducible refine gd 2 rfl ?_);(try (refine gate_guard (by rfl) ?_;dsimp only));refine bx 2 25 (#[.slice aF a7.length aG]) ?_;intro aK hg w6 hbox hb;refine Ya4 (below_step (be HB.out) hb) (hbox) (bs hg (be HB.out)) (bs hg (be HB.out)) ?_;clear HB;intro HB a4 aU aV;clear hb hbox hg)|((with_reducible refine gd 3 rfl ?_);(try (refine gate_guard (by rfl) ?_;dsimp only));refine bx 3 27 (#[.string a1_0,.string a1_1,.bool a1_2]) ?_;intro ao hg w7 hbox hb;refine Ya7 (bb a4 hb) (below_step (bf HB.out) hb) (hbox) (bs hg (bf HB.out)) (bs hg (bf HB.out)) (bl hg a4) (br hg a4) ?_;clear a4 HB;intro a4 HB a5 aW aX ae af;clear hb hbox hg)|((with_reducible refine gd 4 rfl ?_);(try (refine gate_guard (by rfl) ?_;dsimp only));refine bx 4 25 (#[.slice none 0 0]) ?_;intro an hg w8 hbox hb;refine Ya10 (bb a4 hb) (bb a5 hb) (below_step (bf HB.out) hb) (hbox) (bs hg (bf HB.out)) (bs hg (bf HB.out)) (bl hg a4) (br hg a4) (bl hg a5) (br hg a5) ?_;clear a4 a5 HB;intro a4 a5 HB a6 aY aZ ag ah al am;clear hb hbox hg;have bE:=ae.out;have bF:=af.out;have bG:=ag.out;have bH:=ah.out)|(go_at_call 39;(with_reducible refine (spec_ValidTree.calls k _ _ a7 true _ ?side1 ?side2 A3.out).mono ?_);(case side1=>exact cb (Kd.C_below ac.out HB.out));(case side2=>exact ap.out);rintro e w12 ⟨rfl,hb⟩;refine Ya4 (bb a4 hb) (bb a5 hb) (bb a6 hb) (below_step (bf HB.out) hb) ?_;clear a4 a5 a6 HB;intro a4 a5 a6 HB;(try clear hb);(try clear hb2);(try clear hk);(try clear hi)));go_upto_region 3 with (first|((with_reducible refine gd 2 rfl ?_);(try (refine gate_guard (by rfl) ?_;dsimp only));refine bx 2 25 (#[.slice aF a7.length aG]) ?_;intro aK hg w6 hbox hb;refine Ya4 (below_step (be HB.out) hb) (hbox) (bs hg (be HB.out)) (bs hg (be HB.out)) ?_;clear HB;intro HB a4 aU aV;clear hb hbox hg)|((with_reducible refine gd 3 rfl ?_);(try (refine gate_guard (by rfl) ?_;dsimp only));refine bx 3 27 (#[.string a1_0,.string a1_1,.bool a1_2]) ?_;intro ao hg w7 hbox hb;refine Ya7 (bb a4 hb) (below_step (bf HB.out) hb) (hbox) (bs hg (bf HB.out)) (bs hg (bf HB.out)) (bl hg a4) (br hg a4) ?_;clear a4 HB;intro a4 HB a5 aW aX ae af;clear hb hbox hg)|((with_reducible refine gd 4 rfl ?_);(try (refine gate_guard (by rfl) ?_;dsimp only));refine bx 4 25 (#[.slice none 0 0]) ?_;intro an hg w8 hbox hb;refine Ya10 (bb a4 hb) (bb a5 hb) (below_step (bf HB.out) hb) (hbox) (bs hg (bf HB.out)) (bs hg (bf HB.out)) (bl hg a4) (br hg a4) (bl hg a5) (br hg a5) ?_;clear a4 a5 HB;intro a4 a5 HB a6 aY aZ ag ah al am;clear hb hbox hg;have bE:=ae.out;have bF:=af.out;have bG:=ag.out;have bH:=ah.out;have ⟨bg,bh⟩:=Yc1 a4.out)|(go_at_call 39;(with_reducible refine (spec_ValidTree.calls k _ _ a7 true _ ?side1 ?side2 A3.out).mono ?_);(case side1=>exact cb (Kd.C_below ac.out HB.out));(case side2=>exact ap.out);rintro e w12 ⟨rfl,hb⟩;refine Ya4 (bb a4 hb) (bb a5 hb) (bb a6 hb) (below_step (bf HB.out) hb) ?_;clear a4 a5 a6 HB;intro a4 a5 a6 HB;(try clear hb);(try clear hb2);(try clear hk);(try clear hi))))
  (try simp only [Act.put,List.setIfInBounds_toArray,List.set_cons_zero,List.set_cons_succ])
  go_cut [21] (fun v21 wc => ∃ (kq:Nat) (bi:Bool),v21 = .bool bi∧Aside0 (spec_Put.j0 kq bi a7 a1_0 a1_1 a1_2=some (r1,r2))∧Aside0 (kq≤k)∧Aside0 (wc.heap[aK]? = some (.cells #[(.slice aF a7.length aG)] 25 (0,0)))∧Aside0 (wc.heap[ao]? = some (.cells #[.string a1_0,.string a1_1,.bool a1_2] 27 (0,0)))∧Aside0 (wc.heap[an]? = some (.cells #[(.slice none 0 0)] 25 (0,0)))∧Aside0 (Below w.heap.size w wc))
  case first =>
   have H:=bA.out;clear bA;replace H:=Option.bind_eq_some_iff.mp H;obtain ⟨aE,bI,H⟩:=H;replace H:(if aE=true then (spec_Put.j0 k (decide ((a1_1.size:Int)>1500)) a7 a1_0 a1_1 a1_2) else (spec_Put.j0 k true a7 a1_0 a1_1 a1_2))=some (r1,r2):=H;have aN:=Aside0.mk bI;clear bI
   by_cases aO:aE=true
   ·subst aO
    have H1:(spec_Put.j0 k (decide ((a1_1.size:Int)>1500)) a7 a1_0 a1_1 a1_2)=some (r1,r2):=by rw [if_pos rfl] at H;exact H
    clear H;have H:=H1;clear H1;have H':=Aside0.mk H;clear H;have hnb15:=af.out;have hnc15:=ae.out;have hnb16:=al.out;have hnc16:=am.out;have ⟨bJ,bK,bL,bM,bN,bO⟩:=Yc3 a5.out
    go_wp2_with (first|(go_at_call 23;(with_reducible refine (spec_ValidPath.calls k a1_0 true _ aN.out).mono ?_);rintro e w18 ⟨rfl,hb⟩;refine Ya4 (bb a4 hb) (bb a5 hb) (bb a6 hb) (below_step (bf HB.out) hb) ?_;clear a4 a5 a6 HB;intro a4 a5 a6 HB;(try clear hb);(try clear hb2);(try clear hk);(try clear hi);have ⟨bj,bm,bn,bo,bq,bu⟩:=Yc3 a5.out))
    try have ⟨bj,bm,bn,bo,bq,bu⟩:=Yc3 a5.out
    repeat (go_quiet (first|(go_at_call 23;(with_reducible refine (spec_ValidPath.calls k a1_0 true _ aN.out).mono ?_);rintro e w18 ⟨rfl,hb⟩;refine Ya4 (bb a4 hb) (bb a5 hb) (bb a6 hb) (below_step (bf HB.out) hb) ?_;clear a4 a5 a6 HB;intro a4 a5 a6 HB;(try clear hb);(try clear hb2);(try clear hk);(try clear hi)));try go_wp2_with (first|(go_at_call 23;(with_reducible refine (spec_ValidPath.calls k a1_0 true _ aN.out).mono ?_);rintro e w18 ⟨rfl,hb⟩;refine Ya4 (bb a4 hb) (bb a5 hb) (bb a6 hb) (below_step (bf HB.out) hb) ?_;clear a4 a5 a6 HB;intro a4 a5 a6 HB;(try clear hb);(try clear hb2);(try clear hk);(try clear hi);have ⟨bj,bm,bn,bo,bq,bu⟩:=Yc3 a5.out)))
    go_meet
    case rel=>exact ⟨_,(decide ((a1_1.size:Int)>1500)),Ye1,H',⟨by first|omega|exact Nat.le_refl _⟩,⟨bk a4.out⟩,⟨bk a5.out⟩,⟨bk a6.out⟩,⟨bf HB.out⟩⟩
   ·replace aO:=Bool.eq_false_iff.mpr aO;subst aO
    have H1:(spec_Put.j0 k true a7 a1_0 a1_1 a1_2)=some (r1,r2):=by rw [if_neg (show ¬(false=true) by decide)] at H;exact H
    clear H;have H:=H1;clear H1;have H':=Aside0.mk H;clear H;have hnb20:=af.out;have hnc20:=ae.out;have hnb21:=al.out;have hnc21:=am.out;have ⟨bP,bQ,bR,bS,bT,bU⟩:=Yc3 a5.out
    go_wp2_with (first|(go_at_call 23;(with_reducible refine (spec_ValidPath.calls k a1_0 false _ aN.out).mono ?_);rintro e w23 ⟨rfl,hb⟩;refine Ya4 (bb a4 hb) (bb a5 hb) (bb a6 hb) (below_step (bf HB.out) hb) ?_;clear a4 a5 a6 HB;intro a4 a5 a6 HB;(try clear hb);(try clear hb2);(try clear hk);(try clear hi)))
    repeat (go_quiet (first|(go_at_call 23;(with_reducible refine (spec_ValidPath.calls k a1_0 false _ aN.out).mono ?_);rintro e w23 ⟨rfl,hb⟩;refine Ya4 (bb a4 hb) (bb a5 hb) (bb a6 hb) (below_step (bf HB.out) hb) ?_;clear a4 a5 a6 HB;intro a4 a5 a6 HB;(try clear hb);(try clear hb2);(try clear hk);(try clear hi)));try go_wp2_with (first|(go_at_call 23;(with_reducible refine (spec_ValidPath.calls k a1_0 false _ aN.out).mono ?_);rintro e w23 ⟨rfl,hb⟩;refine Ya4 (bb a4 hb) (bb a5 hb) (bb a6 hb) (below_step (bf HB.out) hb) ?_;clear a4 a5 a6 HB;intro a4 a5 a6 HB;(try clear hb);(try clear hb2);(try clear hk);(try clear hi))))
    go_meet
    case rel=>exact ⟨_,(true),Ye1,H',⟨by first|omega|exact Nat.le_refl _⟩,⟨bk a4.out⟩,⟨bk a5.out⟩,⟨bk a6.out⟩,⟨bf HB.out⟩⟩
  case rest =>
   clear bA;(try clear c1);(try clear c2);(try clear p2);(try clear c4);(try clear c9);(try clear c10);(try clear aO);(try clear c15);(try clear c16);(try clear c20);(try clear c21);(try clear bg);(try clear bJ);(try clear bK);(try clear bL);(try clear bj);(try clear bm);(try clear bn);(try clear bP);(try clear bQ);(try clear bR);(try clear bh);(try clear bM);(try clear bN);(try clear bO);(try clear bo);(try clear bq);(try clear bu);(try clear bS);(try clear bT);(try clear bU);obtain ⟨kq,bi,rfl,HA,HJ4,a4,a5,a6,HB⟩:=hcut
   cases kq with
   | zero=>exact absurd HA.out (by simp [spec_Put.j0])
   | succ bB =>
    have H:=HA.out;clear HA;simp only [spec_Put.j0] at H
    by_cases b0:bi=true
    ·subst b0
     have H1:(some (([]:List (S27)),2))=some (r1,r2):=by rw [if_pos rfl] at H;exact H
     clear H;have H:=H1;clear H1;simp only [Option.some.injEq,Prod.mk.injEq] at H;obtain ⟨rfl,rfl⟩:=H;have hnb25:=ah.out;have hnc25:=ag.out;have hnb26:=am.out;have hnc26:=al.out;have ⟨cL,cM⟩:=Yc1 a6.out
     go_wp2
     repeat (go_quiet (fail);try go_wp2)
     refine bodyPost_ret (results_ct rfl _ _ an 25 #[.slice none 0 0] (0,0) _ rfl (bp a6.out) Tryd.underlying25 rfl (by kernel_rfl)) rfl ?_;exact ⟨_,Ye2,nl,(bf HB.out)⟩
    ·replace b0:=Bool.eq_false_iff.mpr b0;subst b0
     have H1:(spec_Put.l0 bB 0 a7 a1_0 a1_1 a1_2)=some (r1,r2):=by rw [if_neg (show ¬(false=true) by decide)] at H;exact H
     clear H;have H:=H1;clear H1;have H':=Aside0.mk H;clear H
     go_wp2
     repeat (go_quiet (fail);try go_wp2)
     go_loopg [6] bB (fun kq v6 w' => ∃ (a8:Int),v6 = .int .i64 a8∧Aside0 (spec_Put.l0 kq a8 a7 a1_0 a1_1 a1_2=some (r1,r2))∧Aside0 (kq≤bB)∧Aside0 (w'.heap[aK]? = some (.cells #[(.slice aF a7.length aG)] 25 (0,0)))∧Aside0 (w'.heap[ao]? = some (.cells #[.string a1_0,.string a1_1,.bool a1_2] 27 (0,0)))∧Aside0 (w'.heap[an]? = some (.cells #[(.slice none 0 0)] 25 (0,0)))∧Aside0 (Below w.heap.size w w'))
     case atStart=>exact ⟨(0),Ye1,H',⟨Nat.le_refl _⟩,⟨bk a4.out⟩,⟨bk a5.out⟩,⟨bk a6.out⟩,⟨bf HB.out⟩⟩
     case round =>
      clear H';(try clear c1);(try clear c2);(try clear p2);(try clear c4);(try clear c9);(try clear c10);(try clear aO);(try clear c15);(try clear c16);(try clear c20);(try clear c21);(try clear b0);(try clear c25);(try clear c26);(try clear bg);(try clear bJ);(try clear bK);(try clear bL);(try clear bj);(try clear bm);(try clear bn);(try clear bP);(try clear bQ);(try clear bR);(try clear cL);(try clear bh);(try clear bM);(try clear bN);(try clear bO);(try clear bo);(try clear bq);(try clear bu);(try clear bS);(try clear bT);(try clear bU);(try clear cM);(try clear p2);obtain ⟨a8,rfl,HA,HK2,a4,a5,a6,HB⟩:=hrel
      cases gk with
      | zero=>exact absurd HA.out (by simp [spec_Put.l0])
      | succ k2 =>
       have H:=HA.out;clear HA;simp only [spec_Put.l0] at H
       by_cases aP:a8<(a7.length:Int)
       ·rw [if_pos aP] at H
        have cN:decide (a8<(a7.length:Int))=true:=decide_eq_true aP;clear aP
        by_cases bv:0≤a8
        ·rw [if_pos bv] at H
         have c29b0:decide (0≤a8)=true:=decide_eq_true bv;clear bv;replace H:=Option.bind_eq_some_iff.mp H;obtain ⟨bd,bV,H⟩:=H;replace H:(if bd=true then (some (([]:List (S27)),3)) else ((spec_l5Begins.f a1_0 ((rd_T27 a7 a8).f0)).bind fun aH=>(if aH=true then (some (([]:List (S27)),3)) else (spec_Put.l0 k2 (wrap64 (a8+1)) a7 a1_0 a1_1 a1_2))))=some (r1,r2):=H;have aq:=Aside0.mk bV;clear bV
         by_cases bw:bd=true
         ·subst bw
          have H1:(some (([]:List (S27)),3))=some (r1,r2):=by rw [if_pos rfl] at H;exact H
          clear H;have H:=H1;clear H1;simp only [Option.some.injEq,Prod.mk.injEq] at H;obtain ⟨rfl,rfl⟩:=H;have hnb32:=ae.out;have hnc32:=af.out;have hnb33:=ag.out;have hnc33:=ah.out;have ⟨cQ,cR⟩:=Yc1 a4.out;have au:0≤(a8:Int):=oda;have av:a8<(a7.length:Int):=oda;obtain ⟨aI,b1,bW,bX,bY⟩:=at_T27 (Kd.C_below ac.out HB.out) a8 au av
          cases b1
          replace au:=eq_true au;replace av:=eq_true av;have hnb35:=al.out;have hnc35:=am.out;have ⟨cS,cT,cU,cV,cW,cX⟩:=Yc3 a5.out
          go_wp2_with (first|(go_at_call 72;(with_reducible refine (spec_l5Begins.calls ((rd_T27 a7 a8).f0) a1_0 true _ aq.out).mono ?_);rintro e w' ⟨rfl,⟨nd,rfl⟩⟩;(try first|exact ⟨rfl,_,World.drewN_drewN _ _ _⟩|exact ⟨rfl,_,Eq.trans (World.drewN_drewN _ _ _) (congrArg (World.drewN _) (Nat.add_assoc _ _ _))⟩);have ⟨bZ,c0⟩:=Yc1 a6.out))
          try have ⟨bZ,c0⟩:=Yc1 a6.out
          repeat (go_quiet (first|(go_at_call 72;(with_reducible refine (spec_l5Begins.calls ((rd_T27 a7 a8).f0) a1_0 true _ aq.out).mono ?_);rintro e w' ⟨rfl,⟨nd,rfl⟩⟩;(try first|exact ⟨rfl,_,World.drewN_drewN _ _ _⟩|exact ⟨rfl,_,Eq.trans (World.drewN_drewN _ _ _) (congrArg (World.drewN _) (Nat.add_assoc _ _ _))⟩)));try go_wp2_with (first|(go_at_call 72;(with_reducible refine (spec_l5Begins.calls ((rd_T27 a7 a8).f0) a1_0 true _ aq.out).mono ?_);rintro e w' ⟨rfl,⟨nd,rfl⟩⟩;(try first|exact ⟨rfl,_,World.drewN_drewN _ _ _⟩|exact ⟨rfl,_,Eq.trans (World.drewN_drewN _ _ _) (congrArg (World.drewN _) (Nat.add_assoc _ _ _))⟩);have ⟨bZ,c0⟩:=Yc1 a6.out)))
          refine bodyPost_ret (results_ct rfl _ _ an 25 #[.slice none 0 0] (0,0) _ rfl (bp a6.out) Tryd.underlying25 rfl (by kernel_rfl)) rfl ?_;exact ⟨_,Ye2,nl,(bf HB.out)⟩
         ·replace bw:=Bool.eq_false_iff.mpr bw;subst bw
          have H1:((spec_l5Begins.f a1_0 ((rd_T27 a7 a8).f0)).bind fun aH=>(if aH=true then (some (([]:List (S27)),3)) else (spec_Put.l0 k2 (wrap64 (a8+1)) a7 a1_0 a1_1 a1_2)))=some (r1,r2):=by rw [if_neg (show ¬(false=true) by decide)] at H;exact H
          clear H;have H:=H1;clear H1;replace H:=Option.bind_eq_some_iff.mp H;obtain ⟨aH,ca,H⟩:=H;replace H:(if aH=true then (some (([]:List (S27)),3)) else (spec_Put.l0 k2 (wrap64 (a8+1)) a7 a1_0 a1_1 a1_2))=some (r1,r2):=H;have aQ:=Aside0.mk ca;clear ca
          by_cases bz:aH=true
          ·subst bz
           have H1:(some (([]:List (S27)),3))=some (r1,r2):=by rw [if_pos rfl] at H;exact H
           clear H;have H:=H1;clear H1;simp only [Option.some.injEq,Prod.mk.injEq] at H;obtain ⟨rfl,rfl⟩:=H;have hnb40:=ae.out;have hnc40:=af.out;have hnb41:=ag.out;have hnc41:=ah.out;have ⟨cY,cZ⟩:=Yc1 a4.out;have au:0≤(a8:Int):=oda;have av:a8<(a7.length:Int):=oda;obtain ⟨aI,b1,bW,bX,bY⟩:=at_T27 (Kd.C_below ac.out HB.out) a8 au av
           cases b1
           replace au:=eq_true au;replace av:=eq_true av;have hnb43:=al.out;have hnc43:=am.out;have ⟨d0,d1,d2,d3,d4,d5⟩:=Yc3 a5.out
           go_wp2_with (first|(go_at_call 72;(with_reducible refine (spec_l5Begins.calls ((rd_T27 a7 a8).f0) a1_0 false _ aq.out).mono ?_);rintro e w' ⟨rfl,⟨nd,rfl⟩⟩;(try first|exact ⟨rfl,_,World.drewN_drewN _ _ _⟩|exact ⟨rfl,_,Eq.trans (World.drewN_drewN _ _ _) (congrArg (World.drewN _) (Nat.add_assoc _ _ _))⟩);have aa:0≤(a8:Int):=oda;have ab:a8<(a7.length:Int):=oda;obtain ⟨aw,ax,ai,aj,ak⟩:=at_T27 ac.out a8 aa ab;obtain rfl:aI=aw:=(by injection ax);replace ai:=pw_cell_below HB.out ai;replace aj:=pw_cell_below HB.out aj;replace ak:=pw_cell_below HB.out ak;replace aa:=eq_true aa;replace ab:=eq_true ab)|(go_at_call 72;(with_reducible refine (spec_l5Begins.calls a1_0 ((rd_T27 a7 a8).f0) true _ aQ.out).mono ?_);rintro e w' ⟨rfl,⟨nd,rfl⟩⟩;(try first|exact ⟨rfl,_,World.drewN_drewN _ _ _⟩|exact ⟨rfl,_,Eq.trans (World.drewN_drewN _ _ _) (congrArg (World.drewN _) (Nat.add_assoc _ _ _))⟩);have ⟨cc,cd⟩:=Yc1 a6.out))
           try have ⟨cc,cd⟩:=Yc1 a6.out
           repeat (go_quiet (first|(go_at_call 72;(with_reducible refine (spec_l5Begins.calls ((rd_T27 a7 a8).f0) a1_0 false _ aq.out).mono ?_);rintro e w' ⟨rfl,⟨nd,rfl⟩⟩;(try first|exact ⟨rfl,_,World.drewN_drewN _ _ _⟩|exact ⟨rfl,_,Eq.trans (World.drewN_drewN _ _ _) (congrArg (World.drewN _) (Nat.add_assoc _ _ _))⟩);have aa:0≤(a8:Int):=oda;have ab:a8<(a7.length:Int):=oda;obtain ⟨aw,ax,ai,aj,ak⟩:=at_T27 ac.out a8 aa ab;obtain rfl:aI=aw:=(by injection ax);replace ai:=pw_cell_below HB.out ai;replace aj:=pw_cell_below HB.out aj;replace ak:=pw_cell_below HB.out ak;replace aa:=eq_true aa;replace ab:=eq_true ab)|(go_at_call 72;(with_reducible refine (spec_l5Begins.calls a1_0 ((rd_T27 a7 a8).f0) true _ aQ.out).mono ?_);rintro e w' ⟨rfl,⟨nd,rfl⟩⟩;(try first|exact ⟨rfl,_,World.drewN_drewN _ _ _⟩|exact ⟨rfl,_,Eq.trans (World.drewN_drewN _ _ _) (congrArg (World.drewN _) (Nat.add_assoc _ _ _))⟩)));try go_wp2_with (first|(go_at_call 72;(with_reducible refine (spec_l5Begins.calls ((rd_T27 a7 a8).f0) a1_0 false _ aq.out).mono ?_);rintro e w' ⟨rfl,⟨nd,rfl⟩⟩;(try first|exact ⟨rfl,_,World.drewN_drewN _ _ _⟩|exact ⟨rfl,_,Eq.trans (World.drewN_drewN _ _ _) (congrArg (World.drewN _) (Nat.add_assoc _ _ _))⟩);have aa:0≤(a8:Int):=oda;have ab:a8<(a7.length:Int):=oda;obtain ⟨aw,ax,ai,aj,ak⟩:=at_T27 ac.out a8 aa ab;obtain rfl:aI=aw:=(by injection ax);replace ai:=pw_cell_below HB.out ai;replace aj:=pw_cell_below HB.out aj;replace ak:=pw_cell_below HB.out ak;replace aa:=eq_true aa;replace ab:=eq_true ab)|(go_at_call 72;(with_reducible refine (spec_l5Begins.calls a1_0 ((rd_T27 a7 a8).f0) true _ aQ.out).mono ?_);rintro e w' ⟨rfl,⟨nd,rfl⟩⟩;(try first|exact ⟨rfl,_,World.drewN_drewN _ _ _⟩|exact ⟨rfl,_,Eq.trans (World.drewN_drewN _ _ _) (congrArg (World.drewN _) (Nat.add_assoc _ _ _))⟩);have ⟨cc,cd⟩:=Yc1 a6.out)))
           refine bodyPost_ret (results_ct rfl _ _ an 25 #[.slice none 0 0] (0,0) _ rfl (bp a6.out) Tryd.underlying25 rfl (by kernel_rfl)) rfl ?_;exact ⟨_,Ye2,nl,(bf HB.out)⟩
          ·replace bz:=Bool.eq_false_iff.mpr bz;subst bz
           have H1:(spec_Put.l0 k2 (wrap64 (a8+1)) a7 a1_0 a1_1 a1_2)=some (r1,r2):=by rw [if_neg (show ¬(false=true) by decide)] at H;exact H
           clear H;have H:=H1;clear H1;have H':=Aside0.mk H;clear H;have hnb46:=ae.out;have hnc46:=af.out;have hnb47:=ag.out;have hnc47:=ah.out;have ⟨d6,d7⟩:=Yc1 a4.out;have au:0≤(a8:Int):=oda;have av:a8<(a7.length:Int):=oda;obtain ⟨aI,b1,bW,bX,bY⟩:=at_T27 (Kd.C_below ac.out HB.out) a8 au av
           cases b1
           replace au:=eq_true au;replace av:=eq_true av;have hnb49:=al.out;have hnc49:=am.out;have ⟨d8,d9,da,db,dc,dd⟩:=Yc3 a5.out
           go_wp2_with (first|(go_at_call 72;(with_reducible refine (spec_l5Begins.calls ((rd_T27 a7 a8).f0) a1_0 false _ aq.out).mono ?_);rintro e w' ⟨rfl,⟨nd,rfl⟩⟩;(try first|exact ⟨rfl,_,World.drewN_drewN _ _ _⟩|exact ⟨rfl,_,Eq.trans (World.drewN_drewN _ _ _) (congrArg (World.drewN _) (Nat.add_assoc _ _ _))⟩);have aa:0≤(a8:Int):=oda;have ab:a8<(a7.length:Int):=oda;obtain ⟨aw,ax,ai,aj,ak⟩:=at_T27 ac.out a8 aa ab;obtain rfl:aI=aw:=(by injection ax);replace ai:=pw_cell_below HB.out ai;replace aj:=pw_cell_below HB.out aj;replace ak:=pw_cell_below HB.out ak;replace aa:=eq_true aa;replace ab:=eq_true ab)|(go_at_call 72;(with_reducible refine (spec_l5Begins.calls a1_0 ((rd_T27 a7 a8).f0) false _ aQ.out).mono ?_);rintro e w' ⟨rfl,⟨nd,rfl⟩⟩;(try first|exact ⟨rfl,_,World.drewN_drewN _ _ _⟩|exact ⟨rfl,_,Eq.trans (World.drewN_drewN _ _ _) (congrArg (World.drewN _) (Nat.add_assoc _ _ _))⟩)))
           repeat (go_quiet (first|(go_at_call 72;(with_reducible refine (spec_l5Begins.calls ((rd_T27 a7 a8).f0) a1_0 false _ aq.out).mono ?_);rintro e w' ⟨rfl,⟨nd,rfl⟩⟩;(try first|exact ⟨rfl,_,World.drewN_drewN _ _ _⟩|exact ⟨rfl,_,Eq.trans (World.drewN_drewN _ _ _) (congrArg (World.drewN _) (Nat.add_assoc _ _ _))⟩);have aa:0≤(a8:Int):=oda;have ab:a8<(a7.length:Int):=oda;obtain ⟨aw,ax,ai,aj,ak⟩:=at_T27 ac.out a8 aa ab;obtain rfl:aI=aw:=(by injection ax);replace ai:=pw_cell_below HB.out ai;replace aj:=pw_cell_below HB.out aj;replace ak:=pw_cell_below HB.out ak;replace aa:=eq_true aa;replace ab:=eq_true ab)|(go_at_call 72;(with_reducible refine (spec_l5Begins.calls a1_0 ((rd_T27 a7 a8).f0) false _ aQ.out).mono ?_);rintro e w' ⟨rfl,⟨nd,rfl⟩⟩;(try first|exact ⟨rfl,_,World.drewN_drewN _ _ _⟩|exact ⟨rfl,_,Eq.trans (World.drewN_drewN _ _ _) (congrArg (World.drewN _) (Nat.add_assoc _ _ _))⟩)));try go_wp2_with (first|(go_at_call 72;(with_reducible refine (spec_l5Begins.calls ((rd_T27 a7 a8).f0) a1_0 false _ aq.out).mono ?_);rintro e w' ⟨rfl,⟨nd,rfl⟩⟩;(try first|exact ⟨rfl,_,World.drewN_drewN _ _ _⟩|exact ⟨rfl,_,Eq.trans (World.drewN_drewN _ _ _) (congrArg (World.drewN _) (Nat.add_assoc _ _ _))⟩);have aa:0≤(a8:Int):=oda;have ab:a8<(a7.length:Int):=oda;obtain ⟨aw,ax,ai,aj,ak⟩:=at_T27 ac.out a8 aa ab;obtain rfl:aI=aw:=(by injection ax);replace ai:=pw_cell_below HB.out ai;replace aj:=pw_cell_below HB.out aj;replace ak:=pw_cell_below HB.out ak;replace aa:=eq_true aa;replace ab:=eq_true ab)|(go_at_call 72;(with_reducible refine (spec_l5Begins.calls a1_0 ((rd_T27 a7 a8).f0) false _ aQ.out).mono ?_);rintro e w' ⟨rfl,⟨nd,rfl⟩⟩;(try first|exact ⟨rfl,_,World.drewN_drewN _ _ _⟩|exact ⟨rfl,_,Eq.trans (World.drewN_drewN _ _ _) (congrArg (World.drewN _) (Nat.add_assoc _ _ _))⟩))))
           go_roundg k2
           case measure=>have:=HJ4.out;have:=HK2.out;omega
           case rel=>exact ⟨(wrap64 (a8+1)),Ye1,H',⟨by have:=HJ4.out;have:=HK2.out;omega⟩,⟨bk a4.out⟩,⟨bk a5.out⟩,⟨bk a6.out⟩,⟨bf HB.out⟩⟩
        ·rw [if_neg bv] at H
         exact absurd H (by simp)
       ·rw [if_neg aP] at H
        have cN:decide (a8<(a7.length:Int))=false:=decide_eq_false aP;clear aP;replace H:=Option.bind_eq_some_iff.mp H;obtain ⟨ad,ce,H⟩:=H;replace H:(if (ad.length:Int)>100 then (some (([]:List (S27)),4)) else (some (ad,0)))=some (r1,r2):=H;have aR:=Aside0.mk ce;clear ce
        by_cases aS:(ad.length:Int)>100
        ·rw [if_pos aS] at H
         have cO:decide (100<(ad.length:Int))=true:=decide_eq_true aS;have cP:decide (100<ad.length)=true:=decide_eq_true (by omega);clear aS;simp only [Option.some.injEq,Prod.mk.injEq] at H;obtain ⟨rfl,rfl⟩:=H;have hnb53:=ae.out;have hnc53:=af.out;have hnb54:=ag.out;have hnc54:=ah.out;have ⟨de,df⟩:=Yc1 a4.out;have hnb56:=al.out;have hnc56:=am.out;have ⟨dg,dh,di,dj,dk,dl⟩:=Yc3 a5.out
         go_wp2_with (first|(go_at_call 73;(with_reducible refine (spec_l5Set.calls k2 _ _ a7 a1_0 a1_1 a1_2 ad _ ?side1 ?side2 aR.out).mono ?_);(case side1=>exact cb (Kd.C_below ac.out HB.out));(case side2=>exact ap.out);rintro e w58 ⟨b2,rfl,ho0,hb⟩;refine Ya5 (Kd.R_lower (Kd.R_newB ho0 (g:=ao) (o:=.cells #[.string a1_0,.string a1_1,.bool a1_2] 27 (0,0)) (bk a5.out)) (below_size (bf HB.out))) (bb a4 hb) (bb a5 hb) (bb a6 hb) (below_step (bf HB.out) hb) ?_;clear a4 a5 a6 HB;intro a9 a4 a5 a6 HB;(try clear hb);(try clear hb2);(try clear hk);(try clear hi);(try clear ho0))|((with_reducible refine gd 7 rfl ?_);(try (refine gate_guard (by rfl) ?_;dsimp only));refine bx 7 25 (#[.slice none 0 0]) ?_;intro aT hg w59 hbox hb;refine Ya14 (Kd.R_below (kr a9.out) hb) (bb a4 hb) (bb a5 hb) (bb a6 hb) (below_step (bf HB.out) hb) (hbox) (bs hg (bf HB.out)) (bs hg (bf HB.out)) (bl hg a4) (br hg a4) (bl hg a5) (br hg a5) (bl hg a6) (br hg a6) ?_;clear a9 a4 a5 a6 HB;intro a9 a4 a5 a6 HB ar b3 b4 ay az aA aB aC aD;clear hb hbox hg;obtain ⟨cf,cg,b5⟩:=Kd.R_slice a9.out;subst b5;have ch:=az.out;have ci:=ay.out;have cj:=aB.out;have ck:=aA.out;have cl:=aD.out;have cm:=aC.out;have ⟨cn,co⟩:=Yc1 ar.out;have ⟨cp,cq⟩:=Yc1 a6.out))
         try have ⟨cp,cq⟩:=Yc1 a6.out
         repeat (go_quiet (first|(go_at_call 73;(with_reducible refine (spec_l5Set.calls k2 _ _ a7 a1_0 a1_1 a1_2 ad _ ?side1 ?side2 aR.out).mono ?_);(case side1=>exact cb (Kd.C_below ac.out HB.out));(case side2=>exact ap.out);rintro e w58 ⟨b2,rfl,ho0,hb⟩;refine Ya5 (Kd.R_lower (Kd.R_newB ho0 (g:=ao) (o:=.cells #[.string a1_0,.string a1_1,.bool a1_2] 27 (0,0)) (bk a5.out)) (below_size (bf HB.out))) (bb a4 hb) (bb a5 hb) (bb a6 hb) (below_step (bf HB.out) hb) ?_;clear a4 a5 a6 HB;intro a9 a4 a5 a6 HB;(try clear hb);(try clear hb2);(try clear hk);(try clear hi);(try clear ho0))|((with_reducible refine gd 7 rfl ?_);(try (refine gate_guard (by rfl) ?_;dsimp only));refine bx 7 25 (#[.slice none 0 0]) ?_;intro aT hg w59 hbox hb;refine Ya14 (Kd.R_below (kr a9.out) hb) (bb a4 hb) (bb a5 hb) (bb a6 hb) (below_step (bf HB.out) hb) (hbox) (bs hg (bf HB.out)) (bs hg (bf HB.out)) (bl hg a4) (br hg a4) (bl hg a5) (br hg a5) (bl hg a6) (br hg a6) ?_;clear a9 a4 a5 a6 HB;intro a9 a4 a5 a6 HB ar b3 b4 ay az aA aB aC aD;clear hb hbox hg;obtain ⟨cf,cg,b5⟩:=Kd.R_slice a9.out;subst b5;have ch:=az.out;have ci:=ay.out;have cj:=aB.out;have ck:=aA.out;have cl:=aD.out;have cm:=aC.out;have ⟨cn,co⟩:=Yc1 ar.out));try go_wp2_with (first|(go_at_call 73;(with_reducible refine (spec_l5Set.calls k2 _ _ a7 a1_0 a1_1 a1_2 ad _ ?side1 ?side2 aR.out).mono ?_);(case side1=>exact cb (Kd.C_below ac.out HB.out));(case side2=>exact ap.out);rintro e w58 ⟨b2,rfl,ho0,hb⟩;refine Ya5 (Kd.R_lower (Kd.R_newB ho0 (g:=ao) (o:=.cells #[.string a1_0,.string a1_1,.bool a1_2] 27 (0,0)) (bk a5.out)) (below_size (bf HB.out))) (bb a4 hb) (bb a5 hb) (bb a6 hb) (below_step (bf HB.out) hb) ?_;clear a4 a5 a6 HB;intro a9 a4 a5 a6 HB;(try clear hb);(try clear hb2);(try clear hk);(try clear hi);(try clear ho0))|((with_reducible refine gd 7 rfl ?_);(try (refine gate_guard (by rfl) ?_;dsimp only));refine bx 7 25 (#[.slice none 0 0]) ?_;intro aT hg w59 hbox hb;refine Ya14 (Kd.R_below (kr a9.out) hb) (bb a4 hb) (bb a5 hb) (bb a6 hb) (below_step (bf HB.out) hb) (hbox) (bs hg (bf HB.out)) (bs hg (bf HB.out)) (bl hg a4) (br hg a4) (bl hg a5) (br hg a5) (bl hg a6) (br hg a6) ?_;clear a9 a4 a5 a6 HB;intro a9 a4 a5 a6 HB ar b3 b4 ay az aA aB aC aD;clear hb hbox hg;obtain ⟨cf,cg,b5⟩:=Kd.R_slice a9.out;subst b5;have ch:=az.out;have ci:=ay.out;have cj:=aB.out;have ck:=aA.out;have cl:=aD.out;have cm:=aC.out;have ⟨cn,co⟩:=Yc1 ar.out;have ⟨cp,cq⟩:=Yc1 a6.out)))
         refine bodyPost_ret (results_ct rfl _ _ an 25 #[.slice none 0 0] (0,0) _ rfl (bp a6.out) Tryd.underlying25 rfl (by kernel_rfl)) rfl ?_;exact ⟨_,Ye2,nl,(bf HB.out)⟩
        ·rw [if_neg aS] at H
         have cO:decide (100<(ad.length:Int))=false:=decide_eq_false aS;have cP:decide (100<ad.length)=false:=decide_eq_false (by omega);clear aS;simp only [Option.some.injEq,Prod.mk.injEq] at H;obtain ⟨rfl,rfl⟩:=H;have hnb66:=ae.out;have hnc66:=af.out;have hnb67:=ag.out;have hnc67:=ah.out;have ⟨dm,dn⟩:=Yc1 a4.out;have hnb69:=al.out;have hnc69:=am.out;have ⟨dp,dq,dr,ds,dt,du⟩:=Yc3 a5.out
         go_wp2_with (first|(go_at_call 73;(with_reducible refine (spec_l5Set.calls k2 _ _ a7 a1_0 a1_1 a1_2 ad _ ?side1 ?side2 aR.out).mono ?_);(case side1=>exact cb (Kd.C_below ac.out HB.out));(case side2=>exact ap.out);rintro e w71 ⟨b2,rfl,ho0,hb⟩;refine Ya5 (Kd.R_lower (Kd.R_newB ho0 (g:=ao) (o:=.cells #[.string a1_0,.string a1_1,.bool a1_2] 27 (0,0)) (bk a5.out)) (below_size (bf HB.out))) (bb a4 hb) (bb a5 hb) (bb a6 hb) (below_step (bf HB.out) hb) ?_;clear a4 a5 a6 HB;intro a9 a4 a5 a6 HB;(try clear hb);(try clear hb2);(try clear hk);(try clear hi);(try clear ho0))|((with_reducible refine gd 7 rfl ?_);(try (refine gate_guard (by rfl) ?_;dsimp only));refine bx 7 25 (#[.slice none 0 0]) ?_;intro aT hg w72 hbox hb;refine Ya14 (Kd.R_below (kr a9.out) hb) (bb a4 hb) (bb a5 hb) (bb a6 hb) (below_step (bf HB.out) hb) (hbox) (bs hg (bf HB.out)) (bs hg (bf HB.out)) (bl hg a4) (br hg a4) (bl hg a5) (br hg a5) (bl hg a6) (br hg a6) ?_;clear a9 a4 a5 a6 HB;intro a9 a4 a5 a6 HB ar b3 b4 ay az aA aB aC aD;clear hb hbox hg;obtain ⟨b6,b7,b8⟩:=Kd.R_slice a9.out;subst b8;have cr:=az.out;have cs:=ay.out;have ct:=aB.out;have cu:=aA.out;have cv:=aD.out;have cw:=aC.out;have ⟨cx,cy⟩:=Yc1 ar.out;have ⟨cz,cA⟩:=Yc1 a6.out))
         try have ⟨cz,cA⟩:=Yc1 a6.out
         repeat (go_quiet (first|(go_at_call 73;(with_reducible refine (spec_l5Set.calls k2 _ _ a7 a1_0 a1_1 a1_2 ad _ ?side1 ?side2 aR.out).mono ?_);(case side1=>exact cb (Kd.C_below ac.out HB.out));(case side2=>exact ap.out);rintro e w71 ⟨b2,rfl,ho0,hb⟩;refine Ya5 (Kd.R_lower (Kd.R_newB ho0 (g:=ao) (o:=.cells #[.string a1_0,.string a1_1,.bool a1_2] 27 (0,0)) (bk a5.out)) (below_size (bf HB.out))) (bb a4 hb) (bb a5 hb) (bb a6 hb) (below_step (bf HB.out) hb) ?_;clear a4 a5 a6 HB;intro a9 a4 a5 a6 HB;(try clear hb);(try clear hb2);(try clear hk);(try clear hi);(try clear ho0))|((with_reducible refine gd 7 rfl ?_);(try (refine gate_guard (by rfl) ?_;dsimp only));refine bx 7 25 (#[.slice none 0 0]) ?_;intro aT hg w72 hbox hb;refine Ya14 (Kd.R_below (kr a9.out) hb) (bb a4 hb) (bb a5 hb) (bb a6 hb) (below_step (bf HB.out) hb) (hbox) (bs hg (bf HB.out)) (bs hg (bf HB.out)) (bl hg a4) (br hg a4) (bl hg a5) (br hg a5) (bl hg a6) (br hg a6) ?_;clear a9 a4 a5 a6 HB;intro a9 a4 a5 a6 HB ar b3 b4 ay az aA aB aC aD;clear hb hbox hg;obtain ⟨b6,b7,b8⟩:=Kd.R_slice a9.out;subst b8;have cr:=az.out;have cs:=ay.out;have ct:=aB.out;have cu:=aA.out;have cv:=aD.out;have cw:=aC.out;have ⟨cx,cy⟩:=Yc1 ar.out));try go_wp2_with (first|(go_at_call 73;(with_reducible refine (spec_l5Set.calls k2 _ _ a7 a1_0 a1_1 a1_2 ad _ ?side1 ?side2 aR.out).mono ?_);(case side1=>exact cb (Kd.C_below ac.out HB.out));(case side2=>exact ap.out);rintro e w71 ⟨b2,rfl,ho0,hb⟩;refine Ya5 (Kd.R_lower (Kd.R_newB ho0 (g:=ao) (o:=.cells #[.string a1_0,.string a1_1,.bool a1_2] 27 (0,0)) (bk a5.out)) (below_size (bf HB.out))) (bb a4 hb) (bb a5 hb) (bb a6 hb) (below_step (bf HB.out) hb) ?_;clear a4 a5 a6 HB;intro a9 a4 a5 a6 HB;(try clear hb);(try clear hb2);(try clear hk);(try clear hi);(try clear ho0))|((with_reducible refine gd 7 rfl ?_);(try (refine gate_guard (by rfl) ?_;dsimp only));refine bx 7 25 (#[.slice none 0 0]) ?_;intro aT hg w72 hbox hb;refine Ya14 (Kd.R_below (kr a9.out) hb) (bb a4 hb) (bb a5 hb) (bb a6 hb) (below_step (bf HB.out) hb) (hbox) (bs hg (bf HB.out)) (bs hg (bf HB.out)) (bl hg a4) (br hg a4) (bl hg a5) (br hg a5) (bl hg a6) (br hg a6) ?_;clear a9 a4 a5 a6 HB;intro a9 a4 a5 a6 HB ar b3 b4 ay az aA aB aC aD;clear hb hbox hg;obtain ⟨b6,b7,b8⟩:=Kd.R_slice a9.out;subst b8;have cr:=az.out;have cs:=ay.out;have ct:=aB.out;have cu:=aA.out;have cv:=aD.out;have cw:=aC.out;have ⟨cx,cy⟩:=Yc1 ar.out;have ⟨cz,cA⟩:=Yc1 a6.out)))
         refine bodyPost_ret (results_ct rfl _ _ an 25 #[.slice b6 ad.length b7] (0,0) _ rfl (bp a6.out) Tryd.underlying25 rfl (by kernel_rfl)) rfl ?_;exact ⟨_,Ye2,by (with_reducible repeat (first|apply Kd.R_alloc|apply Kd.R_drewN|apply Kd.R_drew));exact Kd.R_mono (Kd.R_far (p:=⟨an,0,none⟩) (Kd.R_far (p:=⟨aT,0,none⟩) (Kd.R_types (Kd.R_types a9.out ar.out (by decide)) a6.out (by decide)) (fun _ hk=>hk.1.2) (.slice b6 ad.length b7)) (fun _ hk=>hk.2) (.slice b6 ad.length b7)) (fun _ hk=>trivial),(bf HB.out)⟩
 ·replace c4:=Bool.eq_false_iff.mpr c4;subst c4
  have H1:(some (([]:List (S27)),1))=some (r1,r2):=by rw [if_neg (show ¬(false=true) by decide)] at H;exact H
  clear H;have H:=H1;clear H1;simp only [Option.some.injEq,Prod.mk.injEq] at H;obtain ⟨rfl,rfl⟩:=H
  go_enter Tryd.func15,Tryd.ntmps15
  go_wp2_with (first|((with_reducible refine gd 2 rfl ?_);(try (refine gate_guard (by rfl) ?_;dsimp only));refine bx 2 25 (#[.slice aF a7.length aG]) ?_;intro aK hg w79 hbox hb;refine Ya4 (below_step (be HB.out) hb) (hbox) (bs hg (be HB.out)) (bs hg (be HB.out)) ?_;clear HB;intro HB a4 aU aV;clear hb hbox hg)|((with_reducible refine gd 3 rfl ?_);(try (refine gate_guard (by rfl) ?_;dsimp only));refine bx 3 27 (#[.string a1_0,.string a1_1,.bool a1_2]) ?_;intro ao hg w80 hbox hb;refine Ya7 (bb a4 hb) (below_step (bf HB.out) hb) (hbox) (bs hg (bf HB.out)) (bs hg (bf HB.out)) (bl hg a4) (br hg a4) ?_;clear a4 HB;intro a4 HB a5 aW aX ae af;clear hb hbox hg)|((with_reducible refine gd 4 rfl ?_);(try (refine gate_guard (by rfl) ?_;dsimp only));refine bx 4 25 (#[.slice none 0 0]) ?_;intro an hg w81 hbox hb;refine Ya10 (bb a4 hb) (bb a5 hb) (below_step (bf HB.out) hb) (hbox) (bs hg (bf HB.out)) (bs hg (bf HB.out)) (bl hg a4) (br hg a4) (bl hg a5) (br hg a5) ?_;clear a4 a5 HB;intro a4 a5 HB a6 aY aZ ag ah al am;clear hb hbox hg;have cB:=ae.out;have cC:=af.out;have cD:=ag.out;have cE:=ah.out;have ⟨cF,cG⟩:=Yc1 a4.out)|(go_at_call 39;(with_reducible refine (spec_ValidTree.calls k _ _ a7 false _ ?side1 ?side2 A3.out).mono ?_);(case side1=>exact cb (Kd.C_below ac.out HB.out));(case side2=>exact ap.out);rintro e w85 ⟨rfl,hb⟩;refine Ya4 (bb a4 hb) (bb a5 hb) (bb a6 hb) (below_step (bf HB.out) hb) ?_;clear a4 a5 a6 HB;intro a4 a5 a6 HB;(try clear hb);(try clear hb2);(try clear hk);(try clear hi);have cH:=am.out;have cI:=al.out;have ⟨cJ,cK⟩:=Yc1 a6.out))
  try have ⟨cF,cG⟩:=Yc1 a4.out
  try have ⟨cJ,cK⟩:=Yc1 a6.out
  repeat (go_quiet (first|((with_reducible refine gd 2 rfl ?_);(try (refine gate_guard (by rfl) ?_;dsimp only));refine bx 2 25 (#[.slice aF a7.length aG]) ?_;intro aK hg w79 hbox hb;refine Ya4 (below_step (be HB.out) hb) (hbox) (bs hg (be HB.out)) (bs hg (be HB.out)) ?_;clear HB;intro HB a4 aU aV;clear hb hbox hg)|((with_reducible refine gd 3 rfl ?_);(try (refine gate_guard (by rfl) ?_;dsimp only));refine bx 3 27 (#[.string a1_0,.string a1_1,.bool a1_2]) ?_;intro ao hg w80 hbox hb;refine Ya7 (bb a4 hb) (below_step (bf HB.out) hb) (hbox) (bs hg (bf HB.out)) (bs hg (bf HB.out)) (bl hg a4) (br hg a4) ?_;clear a4 HB;intro a4 HB a5 aW aX ae af;clear hb hbox hg)|((with_reducible refine gd 4 rfl ?_);(try (refine gate_guard (by rfl) ?_;dsimp only));refine bx 4 25 (#[.slice none 0 0]) ?_;intro an hg w81 hbox hb;refine Ya10 (bb a4 hb) (bb a5 hb) (below_step (bf HB.out) hb) (hbox) (bs hg (bf HB.out)) (bs hg (bf HB.out)) (bl hg a4) (br hg a4) (bl hg a5) (br hg a5) ?_;clear a4 a5 HB;intro a4 a5 HB a6 aY aZ ag ah al am;clear hb hbox hg;have cB:=ae.out;have cC:=af.out;have cD:=ag.out;have cE:=ah.out)|(go_at_call 39;(with_reducible refine (spec_ValidTree.calls k _ _ a7 false _ ?side1 ?side2 A3.out).mono ?_);(case side1=>exact cb (Kd.C_below ac.out HB.out));(case side2=>exact ap.out);rintro e w85 ⟨rfl,hb⟩;refine Ya4 (bb a4 hb) (bb a5 hb) (bb a6 hb) (below_step (bf HB.out) hb) ?_;clear a4 a5 a6 HB;intro a4 a5 a6 HB;(try clear hb);(try clear hb2);(try clear hk);(try clear hi);have cH:=am.out;have cI:=al.out));try go_wp2_with (first|((with_reducible refine gd 2 rfl ?_);(try (refine gate_guard (by rfl) ?_;dsimp only));refine bx 2 25 (#[.slice aF a7.length aG]) ?_;intro aK hg w79 hbox hb;refine Ya4 (below_step (be HB.out) hb) (hbox) (bs hg (be HB.out)) (bs hg (be HB.out)) ?_;clear HB;intro HB a4 aU aV;clear hb hbox hg)|((with_reducible refine gd 3 rfl ?_);(try (refine gate_guard (by rfl) ?_;dsimp only));refine bx 3 27 (#[.string a1_0,.string a1_1,.bool a1_2]) ?_;intro ao hg w80 hbox hb;refine Ya7 (bb a4 hb) (below_step (bf HB.out) hb) (hbox) (bs hg (bf HB.out)) (bs hg (bf HB.out)) (bl hg a4) (br hg a4) ?_;clear a4 HB;intro a4 HB a5 aW aX ae af;clear hb hbox hg)|((with_reducible refine gd 4 rfl ?_);(try (refine gate_guard (by rfl) ?_;dsimp only));refine bx 4 25 (#[.slice none 0 0]) ?_;intro an hg w81 hbox hb;refine Ya10 (bb a4 hb) (bb a5 hb) (below_step (bf HB.out) hb) (hbox) (bs hg (bf HB.out)) (bs hg (bf HB.out)) (bl hg a4) (br hg a4) (bl hg a5) (br hg a5) ?_;clear a4 a5 HB;intro a4 a5 HB a6 aY aZ ag ah al am;clear hb hbox hg;have cB:=ae.out;have cC:=af.out;have cD:=ag.out;have cE:=ah.out;have ⟨cF,cG⟩:=Yc1 a4.out)|(go_at_call 39;(with_reducible refine (spec_ValidTree.calls k _ _ a7 false _ ?side1 ?side2 A3.out).mono ?_);(case side1=>exact cb (Kd.C_below ac.out HB.out));(case side2=>exact ap.out);rintro e w85 ⟨rfl,hb⟩;refine Ya4 (bb a4 hb) (bb a5 hb) (bb a6 hb) (below_step (bf HB.out) hb) ?_;clear a4 a5 a6 HB;intro a4 a5 a6 HB;(try clear hb);(try clear hb2);(try clear hk);(try clear hi);have cH:=am.out;have cI:=al.out;have ⟨cJ,cK⟩:=Yc1 a6.out)))
  refine bodyPost_ret (results_ct rfl _ _ an 25 #[.slice none 0 0] (0,0) _ rfl (bp a6.out) Tryd.underlying25 rfl (by kernel_rfl)) rfl ?_;exact ⟨_,Ye2,nl,(bf HB.out)⟩

end Go.Proofs.YtknagppkeodggaaDoor.P


namespace Go.Proofs.YtknagppkeodggaaDoor.P
open Go.RowKit Go.Proofs.YtknagppkeodggaaDoorW.PrintWords Go.Proofs.YtknagppkeodggaaDoorW.PrintLast Go.Proofs.YtknagppkeodggaaDoorW.PrintMore
attribute [local go_sem] max2_int min2_int max_two min_two max_three min_three max_four min_four
set_option linter.unusedVariables false
set_option linter.unusedSimpArgs false

def spec_l5Copy.f (a0:List (S27)):Option ((List (S27))):=(some (([]:List (S27)):List (S27))).bind fun a2=>(if a2.length+a0.length<3518437208883 then (some (a2++a0)) else (none))
set_option maxHeartbeats 8000000 in
set_option maxRecDepth 100000 in
theorem spec_l5Copy.calls (a6:Option Addr) (a7:Nat) (a0:List (S27)) (r:List (S27)) (w:World) (ab:Kd.C k27 w a6 a0.length a0) (ac:a0.length≤a7) (h:spec_l5Copy.f a0=some r) :
  Calls Tryd.prog 157 #[.agg #[.slice a6 a0.length a7]] w fun e w' => ∃ v0_:Value,e = .returned (.agg #[v0_])∧Kd.R k27 27 w' w.heap.size (fun _=>True) v0_ r∧Below w.heap.size w w':=by
 have hu25:=Tryd.underlying25;have ah:=Aside0.mk ab;have HC0_0:=Aside0.mk ac;clear ab ac;have HB:=Aside0.mk (Below.refl w.heap.size w);have H:((some (([]:List (S27)):List (S27))).bind fun a2=>(if a2.length+a0.length<3518437208883 then (some (a2++a0)) else (none)))=some r:=h;clear h
 obtain ⟨a2,a4⟩:∃ y_:List (S27),y_=(([]:List (S27))):=⟨_,rfl⟩
 replace H:(if a2.length+a0.length<3518437208883 then (some (a2++a0)) else (none))=some r:=by first|(rw [a4];with_reducible exact H)|(have H2_:=(Option.bind_some _ _).symm.trans H;rw [a4];with_reducible exact H2_)|(have H2_:=(Option.bind_some _ _).symm.trans H;with_reducible exact H2_)|with_reducible exact H|(rw [a4];exact H)|exact H
 have ad:=Aside0.mk a4;clear a4
 by_cases c2:a2.length+a0.length<3518437208883
 ·rw [if_pos c2] at H
  have ai:=Aside0.mk c2;clear c2
  obtain ⟨a9,a5⟩:∃ y_:List (S27),y_=(a2++a0):=⟨_,rfl⟩
  replace H:(some a9)=some r:=by first|(rw [a5];with_reducible exact H)|(have H2_:=(Option.bind_some _ _).symm.trans H;rw [a5];with_reducible exact H2_)|(have H2_:=(Option.bind_some _ _).symm.trans H;with_reducible exact H2_)|with_reducible exact H|(rw [a5];exact H)|exact H
  have aj:=Aside0.mk a5;clear a5;obtain rfl:=Option.some.inj H
  go_enter Tryd.func157,Tryd.ntmps157
  go_wp2_with (first|((with_reducible refine gd 1 rfl ?_);refine bx 1 25 (#[.slice a6 a0.length a7]) ?_;intro ak hg w3 hbox hb;refine Ya4 (below_step (be HB.out) hb) (hbox) (bs hg (be HB.out)) (bs hg (be HB.out)) ?_;clear HB;intro HB a1 GW226 GE226;clear hb hbox hg)|((with_reducible refine gd 2 rfl ?_);refine bx 2 25 (#[.slice none 0 0]) ?_;intro aa hg w4 hbox hb;refine Ya7 (bb a1 hb) (below_step (bf HB.out) hb) (hbox) (bs hg (bf HB.out)) (bs hg (bf HB.out)) (bl hg a1) (br hg a1) ?_;clear a1 HB;intro a1 HB a3 GW227 GE227 al am;clear hb hbox hg)|((with_reducible refine gd 3 rfl ?_);refine Kd.R_lit k27 _ 27 ?hg (N:=3) ?hd (xs:=([]:List (S27))) (inner:=[]) (ok:=fun _=>True) (okp:=fun _=>True) ?hr ?hp (fun _ hk=>hk) trivial (Below.refl _ _) (Nat.le_refl _) (by simp) ?_;(case hd=>rfl);(case hg=>rfl);(case hr=>first|(go_simp;done)|(go_simp;rfl));(case hp=>exact (Reps.none _ _));intro an w5 ho6 hb hg_ hnew_;clear hg_ hnew_;(first|rw [←ad.out] at ho6|(simp only [Int.reduceToNat] at ho6;rw [←ad.out] at ho6));refine Ya4 (Kd.R_lower ho6 (below_size (bf HB.out))) (bb a1 hb) (bb a3 hb) (below_step (bf HB.out) hb) ?_;clear a1 a3 HB;intro a8 a1 a3 HB;clear hb ho6;have hnb7:=al.out;have hnc7:=am.out;have ⟨ap,aq⟩:=Yc1 a1.out)|((with_reducible refine gate_builtin (b:=.append) (xs:=#[.tmp 3,.tmp 5]) rfl ?_);at_builtin;refine Kd.R_append_rows k27 (w0:=w) w.heap.size rfl (.tmp 3) (.tmp 5) 23 27 (.agg #[(.string ⟨#[]⟩),(.string ⟨#[]⟩),(.bool false)]) 40 rfl Tryd.underlying23 info27 rfl (by decide) (by omega) an a2 a0 _ _ _ (fun _=>True) (fun _=>False) rfl rfl ?aO ?aR (fun _ _ h=>h) (fun _ h=>h.elim) ?aF ?aB ?aS ?aL ?_;(case aR=>exact cb (Kd.C_below ah.out HB.out));(case aB=>exact (bf HB.out));(case aF=>exact (fun _ _=>trivial));(case aO=>exact (kr a8.out));(case aS=>exact (below_size (bf HB.out)));(case aL=>have:=ai.out;omega);intro v232 w9 ho hb hg hat;rw [←aj.out] at ho;refine Ya4 (blk_grown (g:=ak) (o:=.cells #[.slice a6 a0.length a7] 25 (0,0)) (bk a1.out) hg (Kd.R_ne a8.out a1.out (by decide))) (blk_grown (g:=aa) (o:=.cells #[.slice none 0 0] 25 (0,0)) (bk a3.out) hg (Kd.R_ne a8.out a3.out (by decide))) (hb) (ho) ?_;clear a1 a3 HB a8;intro a1 a3 HB ae;clear ho hb hg hat;obtain ⟨af,ag,ao⟩:=Kd.R_slice ae.out;subst ao;have ⟨ar,au⟩:=Yc1 a3.out))
  refine bodyPost_ret (results_cell_row rfl _ _ aa 25 #[.slice af a9.length ag] (0,0) _ rfl (bp a3.out) Tryd.underlying25 rfl (by kernel_rfl)) rfl ?_;exact ⟨_,Ye2,by (with_reducible repeat (first|apply Kd.R_alloc|apply Kd.R_drewN|apply Kd.R_drew));exact Kd.R_mono (Kd.R_far (p:=⟨aa,0,none⟩) (Kd.R_types ae.out a3.out (by decide)) (fun _ hk=>hk.2) (.slice af a9.length ag)) (fun _ hk=>trivial),(bf HB.out)⟩
 ·rw [if_neg c2] at H
  exact absurd H (by simp)

end Go.Proofs.YtknagppkeodggaaDoor.P


namespace Go.Proofs.YtknagppkeodggaaDoor.P
open Go.RowKit Go.Proofs.YtknagppkeodggaaDoorW.PrintWords Go.Proofs.YtknagppkeodggaaDoorW.PrintLast Go.Proofs.YtknagppkeodggaaDoorW.PrintMore
attribute [local go_sem] max2_int min2_int max_two min_two max_three min_three max_four min_four
set_option linter.unusedVariables false
set_option linter.unusedSimpArgs false

def spec_l4Bytes.f:Nat→ByteArray→ByteArray→Option (Bool)
 | 0,_,_=>none
 | k+1,a0,a1=>if a0.toList=([]:List UInt8) then (some (a1.toList==([]:List UInt8))) else (if 0<(a0.size:Int) then (if (bt a0 0)=42 then (if 1≤(a0.size:Int) then ((spec_l4Bytes.f k (a0.extract 1 a0.size) a1).bind fun a7=>(if a7=true then (some true) else (if a1.toList=([]:List UInt8) then (some false) else (if 1≤(a1.size:Int) then ((spec_l4Bytes.f k a0 (a1.extract 1 a1.size)).bind fun a2=>(some a2)) else (none))))) else (none)) else (if a1.toList=([]:List UInt8) then (some false) else (if (bt a0 0)=63 then (if 1≤(a0.size:Int) then (if 1≤(a1.size:Int) then ((spec_l4Bytes.f k (a0.extract 1 a0.size) (a1.extract 1 a1.size)).bind fun a8=>(some a8)) else (none)) else (none)) else (if 0<(a1.size:Int) then (if (bt a0 0)=(bt a1 0) then (if 1≤(a0.size:Int) then (if 1≤(a1.size:Int) then ((spec_l4Bytes.f k (a0.extract 1 a0.size) (a1.extract 1 a1.size)).bind fun a9=>(some a9)) else (none)) else (none)) else (some false)) else (none))))) else (none))
theorem spec_l4Bytes.mono_l:∀ k,(∀ y0 y1,LeO (spec_l4Bytes.f k y0 y1) (spec_l4Bytes.f (k+1) y0 y1))
 | 0=>fun _ _ r h=>by simp [spec_l4Bytes.f] at h
 | k + 1 => by
  have ih0:=spec_l4Bytes.mono_l k
  ·intro y0 y1
   unfold spec_l4Bytes.f
   repeat' first
   | (with_reducible exact ih0 _ _)
   | (with_reducible exact LeO.refl _)
   | (with_reducible exact LeO.none _)
   | (with_reducible refine LeO.ite ?_ ?_)
   | (with_reducible refine LeO.bind ?_ (fun _ => ?_))
   | exact ih0 _ _
   | exact LeO.none _
   | refine LeO.ite ?_ ?_
   | refine LeO.bind ?_ (fun _ => ?_)
theorem spec_l4Bytes.mono:∀ a0 a1 k,LeO (spec_l4Bytes.f k a0 a1) (spec_l4Bytes.f (k+1) a0 a1):=by
 intro a0 a1 k;have ih0:=spec_l4Bytes.mono_l k;exact ih0 a0 a1
def spec_l4Bytes.T5:Bool×List (List Nat×List Nat):=(true,[([],[]),([0],[0]),([1],[1]),([2],[2]),([3,2],[2,3]),([4,2],[2,4]),([5,2,2],[2,5]),([6],[6]),([7,6],[6,7]),([6],[6]),([9,6],[6,9]),([8,10,6],[6,8,10]),([6,11,2],[2,6,11]),([2,12],[2,12]),([13,6],[13]),([14],[14]),([15,14],[14,15]),([14],[14]),([17,14],[14,17]),([16,18,14,14],[14,16,18]),([14,19],[14,19]),([20,19,0,1,2,3,4,5,6,7,8,9,10,11,12,13,14,15,16,17,18,19,20],[20])])
def spec_l4Bytes.B5:List Nat:=[0,1,3,7,15,31,63,127,255,127,639,2047,4095,8191,16383,32767,65535,32767,163839,524287,1048575,2097151]
theorem spec_l4Bytes.tab5:rtab .any (opsOf Tryd.f148 5)=spec_l4Bytes.T5:=by kernel_rfl
theorem spec_l4Bytes.bits5:waitsOk spec_l4Bytes.T5.2 spec_l4Bytes.B5=true:=by kernel_rfl
set_option maxHeartbeats 8000000 in
set_option maxRecDepth 100000 in
theorem spec_l4Bytes.calls (k : Nat) : ∀ (a0 : ByteArray) (a1 : ByteArray) (r : Bool) (w : World) (h : spec_l4Bytes.f k a0 a1 = some r),
  Calls Tryd.prog 148 #[.string a0,.string a1] w fun e w'=>e = .returned (.bool r)∧Below w.heap.size w w':=by
 induction k using Nat.strongRecOn with
 | _ k ih =>
 intro a0 a1 r w h
 cases k with
 | zero=>exact absurd h (by simp [spec_l4Bytes.f])
 | succ k =>
 simp only [spec_l4Bytes.f] at h;have HB:=Aside0.mk (Below.refl w.heap.size w);have H:(if a0.toList=([]:List UInt8) then (some (a1.toList==([]:List UInt8))) else (if 0<(a0.size:Int) then (if (bt a0 0)=42 then (if 1≤(a0.size:Int) then ((spec_l4Bytes.f k (a0.extract 1 a0.size) a1).bind fun a7=>(if a7=true then (some true) else (if a1.toList=([]:List UInt8) then (some false) else (if 1≤(a1.size:Int) then ((spec_l4Bytes.f k a0 (a1.extract 1 a1.size)).bind fun a2=>(some a2)) else (none))))) else (none)) else (if a1.toList=([]:List UInt8) then (some false) else (if (bt a0 0)=63 then (if 1≤(a0.size:Int) then (if 1≤(a1.size:Int) then ((spec_l4Bytes.f k (a0.extract 1 a0.size) (a1.extract 1 a1.size)).bind fun a8=>(some a8)) else (none)) else (none)) else (if 0<(a1.size:Int) then (if (bt a0 0)=(bt a1 0) then (if 1≤(a0.size:Int) then (if 1≤(a1.size:Int) then ((spec_l4Bytes.f k (a0.extract 1 a0.size) (a1.extract 1 a1.size)).bind fun a9=>(some a9)) else (none)) else (none)) else (some false)) else (none))))) else (none)))=some r:=h;clear h
 by_cases c3:a0.toList=([]:List UInt8)
 ·rw [if_pos c3] at H
  have aj:(a0.toList==([]:List UInt8))=true:=beq_iff_eq.mpr c3;have ak:(a0.toList != ([]:List UInt8))=false:=bne_eq_false_iff_eq.mpr c3;clear c3;obtain rfl:=Option.some.inj H
  go_enter Tryd.func148,Tryd.ntmps148
  go_wp2
  go_ret
  exact ⟨Ye2,be HB.out⟩
 ·rw [if_neg c3] at H
  have aj:(a0.toList==([]:List UInt8))=false:=beq_eq_false_iff_ne.mpr c3;have ak:(a0.toList != ([]:List UInt8))=true:=bne_iff_ne.mpr c3
  by_cases c4:0<(a0.size:Int)
  ·rw [if_pos c4] at H
   have c4b0:decide (0<(a0.size:Int))=true:=decide_eq_true c4;have c4b1:decide (0<a0.size)=true:=decide_eq_true (by omega);clear c4
   by_cases c6:(bt a0 0)=42
   ·rw [if_pos c6] at H
    have al:((bt a0 0)==42)=true:=beq_iff_eq.mpr c6;have am:((bt a0 0) != 42)=false:=bne_eq_false_iff_eq.mpr c6;clear c6
    by_cases c7:1≤(a0.size:Int)
    ·rw [if_pos c7] at H
     have c7b0:=eq_true c7;have c7b1:decide (1≤(a0.size:Int))=true:=decide_eq_true c7;clear c7;replace H:=Option.bind_eq_some_iff.mp H;obtain ⟨a7,A80,H⟩:=H;replace H:(if a7=true then (some true) else (if a1.toList=([]:List UInt8) then (some false) else (if 1≤(a1.size:Int) then ((spec_l4Bytes.f k a0 (a1.extract 1 a1.size)).bind fun a2=>(some a2)) else (none))))=some r:=H;have A8:=Aside0.mk A80;clear A80
     by_cases c9:a7=true
     ·subst c9
      have H1:(some true)=some r:=by rw [if_pos rfl] at H;exact H
      clear H;have H:=H1;clear H1;obtain rfl:=Option.some.inj H
      have p5:0≤(0:Int):=(by omega)
      have q5:0<a0.size:=(by have:(0:Int)<(a0.size:Int):=oda;omega)
      have hx5:∀ h:0<a0.size,((a0[0]'h).toNat:Int)=bt a0 0:=bt_at a0 0;clear p5;have qi5:(0<(a0.size:Int))=True:=eq_true (oda);replace q5:=eq_true q5
      go_enter Tryd.func148,Tryd.ntmps148
      go_wp2_with (first|((with_reducible refine gc 148 rfl ?_);refine gl (some 15) _ (#[.string (a0.extract 1 a0.size),.string a1]) Tryd.func148 ?_;(with_reducible refine (ih k (by omega) (a0.extract 1 a0.size) a1 true _ A8.out).mono ?_);rintro e w10 ⟨rfl,hb⟩;refine ⟨_,rfl,?_⟩;refine Ya1 (below_step (be HB.out) hb) ?_;clear HB;intro HB;(try clear hb);(try clear hb2);(try clear hk);(try clear hi)))
      go_ret
      exact ⟨Ye2,be HB.out⟩
     ·replace c9:=Bool.eq_false_iff.mpr c9;subst c9
      have H1:(if a1.toList=([]:List UInt8) then (some false) else (if 1≤(a1.size:Int) then ((spec_l4Bytes.f k a0 (a1.extract 1 a1.size)).bind fun a2=>(some a2)) else (none)))=some r:=by rw [if_neg (show ¬(false=true) by decide)] at H;exact H
      clear H;have H:=H1;clear H1
      by_cases a3:a1.toList=([]:List UInt8)
      ·rw [if_pos a3] at H
       have an:(a1.toList==([]:List UInt8))=true:=beq_iff_eq.mpr a3;have ao:(a1.toList != ([]:List UInt8))=false:=bne_eq_false_iff_eq.mpr a3;clear a3;obtain rfl:=Option.some.inj H
       have p5:0≤(0:Int):=(by omega)
       have q5:0<a0.size:=(by have:(0:Int)<(a0.size:Int):=oda;omega)
       have hx5:∀ h:0<a0.size,((a0[0]'h).toNat:Int)=bt a0 0:=bt_at a0 0;clear p5;have qi5:(0<(a0.size:Int))=True:=eq_true (oda);replace q5:=eq_true q5
       go_enter Tryd.func148,Tryd.ntmps148
       go_wp2_with (first|((with_reducible refine gc 148 rfl ?_);refine gl (some 15) _ (#[.string (a0.extract 1 a0.size),.string a1]) Tryd.func148 ?_;(with_reducible refine (ih k (by omega) (a0.extract 1 a0.size) a1 false _ A8.out).mono ?_);rintro e w12 ⟨rfl,hb⟩;refine ⟨_,rfl,?_⟩;refine Ya1 (below_step (be HB.out) hb) ?_;clear HB;intro HB;(try clear hb);(try clear hb2);(try clear hk);(try clear hi)))
       go_ret
       exact ⟨Ye2,be HB.out⟩
      ·rw [if_neg a3] at H
       have an:(a1.toList==([]:List UInt8))=false:=beq_eq_false_iff_ne.mpr a3;have ao:(a1.toList != ([]:List UInt8))=true:=bne_iff_ne.mpr a3
       by_cases aa:1≤(a1.size:Int)
       ·rw [if_pos aa] at H
        have c13b0:=eq_true aa;have c13b1:decide (1≤(a1.size:Int))=true:=decide_eq_true aa;clear aa;replace H:=Option.bind_eq_some_iff.mp H;obtain ⟨a2,ag,H⟩:=H;replace H:(some a2)=some r:=H;have A14:=Aside0.mk ag;clear ag;obtain rfl:=Option.some.inj H
        have p5:0≤(0:Int):=(by omega)
        have q5:0<a0.size:=(by have:(0:Int)<(a0.size:Int):=oda;omega)
        have hx5:∀ h:0<a0.size,((a0[0]'h).toNat:Int)=bt a0 0:=bt_at a0 0;clear p5;have qi5:(0<(a0.size:Int))=True:=eq_true (oda);replace q5:=eq_true q5
        go_enter Tryd.func148,Tryd.ntmps148
        go_wp2_with (first|((with_reducible refine gc 148 rfl ?_);refine gl (some 15) _ (#[.string (a0.extract 1 a0.size),.string a1]) Tryd.func148 ?_;(with_reducible refine (ih k (by omega) (a0.extract 1 a0.size) a1 false _ A8.out).mono ?_);rintro e w15 ⟨rfl,hb⟩;refine ⟨_,rfl,?_⟩;refine Ya1 (below_step (be HB.out) hb) ?_;clear HB;intro HB;(try clear hb);(try clear hb2);(try clear hk);(try clear hi))|(go_at_call 148;(with_reducible refine (ih k (by omega) a0 (a1.extract 1 a1.size) a2 _ A14.out).mono ?_);rintro e w16 ⟨rfl,hb⟩;refine Ya1 (below_step (be HB.out) hb) ?_;clear HB;intro HB;(try clear hb);(try clear hb2);(try clear hk);(try clear hi)))
        go_ret
        exact ⟨Ye2,be HB.out⟩
       ·rw [if_neg aa] at H
        exact absurd H (by simp)
    ·rw [if_neg c7] at H
     exact absurd H (by simp)
   ·rw [if_neg c6] at H
    have al:((bt a0 0)==42)=false:=beq_eq_false_iff_ne.mpr c6;have am:((bt a0 0) != 42)=true:=bne_iff_ne.mpr c6
    by_cases a4:a1.toList=([]:List UInt8)
    ·rw [if_pos a4] at H
     have ap:(a1.toList==([]:List UInt8))=true:=beq_iff_eq.mpr a4;have aq:(a1.toList != ([]:List UInt8))=false:=bne_eq_false_iff_eq.mpr a4;clear a4;obtain rfl:=Option.some.inj H
     have p5:0≤(0:Int):=(by omega)
     have q5:0<a0.size:=(by have:(0:Int)<(a0.size:Int):=oda;omega)
     have hx5:∀ h:0<a0.size,((a0[0]'h).toNat:Int)=bt a0 0:=bt_at a0 0;clear p5;have qi5:(0<(a0.size:Int))=True:=eq_true (oda);replace q5:=eq_true q5
     go_enter Tryd.func148,Tryd.ntmps148
     try go_wp2
     refine Ya1 (below_drew1 HB.out) ?_;clear HB;intro HB;refine start_ (n:=22) (S:=fun w'=>True) (ds:=[]) (fb 22 0) (by kernel_rfl) rfl rfl trivial (fun hHeld => ?_);refine with_tabW spec_l4Bytes.tab5 spec_l4Bytes.bits5 (fun HT_ HW_ => ?_);generalize w.drew=w18 at HB hHeld ⊢; refine pu 0 26 (fb 22 1) HT_ ?_;refine pu 1 27 (fb 22 3) HT_ ?_;refine pu 2 28 (fb 22 7) HT_ ?_;refine pn 3 29 (fb 22 15) HT_ ?_;refine pn 4 30 (fb 22 31) HT_ ?_;refine pn 5 31 (fb 22 63) HT_ ?_;refine pn 6 32 (fb 22 127) HT_ ?_;refine pn 7 33 (fb 22 255) HT_ ?_;refine pn 8 34 (fb 22 511) HT_ ?_;refine pn 9 35 (fb 22 1023) HT_ ?_;refine pn 10 36 (fb 22 2047) HT_ ?_;refine pn 11 37 (fb 22 4095) HT_ ?_;refine pn 12 38 (fb 22 8191) HT_ ?_;refine pu 13 39 (fb 22 16383) HT_ ?_;refine pu 14 40 (fb 22 32767) HT_ ?_;refine pn 15 41 (fb 22 65535) HT_ ?_;refine pn 16 42 (fb 22 131071) HT_ ?_;refine pn 17 43 (fb 22 262143) HT_ ?_;refine pn 18 44 (fb 22 524287) HT_ ?_;refine pn 19 45 (fb 22 1048575) HT_ ?_;refine pu 20 46 (fb 22 2097151) HT_ ?_;refine pu 21 4 (fb 22 4194303) HT_ ?_;refine done_ (done_of HT_.out (by kernel_rfl)) ?_
     try go_wp2
     go_ret
     exact ⟨Ye2,be HB.out⟩
    ·rw [if_neg a4] at H
     have ap:(a1.toList==([]:List UInt8))=false:=beq_eq_false_iff_ne.mpr a4;have aq:(a1.toList != ([]:List UInt8))=true:=bne_iff_ne.mpr a4
     by_cases a5:(bt a0 0)=63
     ·rw [if_pos a5] at H
      have ar:((bt a0 0)==63)=true:=beq_iff_eq.mpr a5;have au:((bt a0 0) != 63)=false:=bne_eq_false_iff_eq.mpr a5;clear a5
      by_cases ab:1≤(a0.size:Int)
      ·rw [if_pos ab] at H
       have c21b0:=eq_true ab;have c21b1:decide (1≤(a0.size:Int))=true:=decide_eq_true ab;clear ab
       by_cases ac:1≤(a1.size:Int)
       ·rw [if_pos ac] at H
        have c22b0:=eq_true ac;have c22b1:decide (1≤(a1.size:Int))=true:=decide_eq_true ac;clear ac;replace H:=Option.bind_eq_some_iff.mp H;obtain ⟨a8,ah,H⟩:=H;replace H:(some a8)=some r:=H;have A23:=Aside0.mk ah;clear ah;obtain rfl:=Option.some.inj H
        have p5:0≤(0:Int):=(by omega)
        have q5:0<a0.size:=(by have:(0:Int)<(a0.size:Int):=oda;omega)
        have hx5:∀ h:0<a0.size,((a0[0]'h).toNat:Int)=bt a0 0:=bt_at a0 0;clear p5;have qi5:(0<(a0.size:Int))=True:=eq_true (oda);replace q5:=eq_true q5
        go_enter Tryd.func148,Tryd.ntmps148
        try go_wp2
        refine Ya1 (below_drew1 HB.out) ?_;clear HB;intro HB
        have p19:0≤(0:Int):=(by omega)
        have q19:0<a0.size:=(by have:(0:Int)<(a0.size:Int):=oda;omega)
        have hx19:∀ h:0<a0.size,((a0[0]'h).toNat:Int)=bt a0 0:=bt_at a0 0;clear p19;have qi19:(0<(a0.size:Int))=True:=eq_true (oda);replace q19:=eq_true q19;refine start_ (n:=22) (S:=fun w'=>True) (ds:=[]) (fb 22 0) (by kernel_rfl) rfl rfl trivial (fun hHeld => ?_);refine with_tabW spec_l4Bytes.tab5 spec_l4Bytes.bits5 (fun HT_ HW_ => ?_);generalize w.drew=w24 at HB hHeld ⊢; refine pu 0 26 (fb 22 1) HT_ ?_;refine pu 1 27 (fb 22 3) HT_ ?_;refine pu 2 28 (fb 22 7) HT_ ?_;refine pu 3 29 (fb 22 15) HT_ ?_;refine take_ (i:=4) (N:=some 30) (v:=?_) (a':=?_) (fb 22 31) rfl rfl (take_ofW HT_.out HW_.out (by kernel_rfl)) (fun _ _ _ h=>h) (Or.inl ⟨by rfl,?_⟩) hHeld ?_ ?_;rotate_left
        ·intro w' _;go_simp;(with_reducible rfl)
        rotate_left
        ·simp only [Act.put,List.setIfInBounds_toArray,List.set_cons_zero,List.set_cons_succ,i64_w,i32_w];rfl
        refine pu 5 31 (fb 22 63) HT_ ?_;refine pu 6 32 (fb 22 127) HT_ ?_;refine pn 7 33 (fb 22 255) HT_ ?_;refine pn 8 34 (fb 22 511) HT_ ?_;refine pn 9 35 (fb 22 1023) HT_ ?_;refine pn 10 36 (fb 22 2047) HT_ ?_;refine pn 11 37 (fb 22 4095) HT_ ?_;refine pu 12 38 (fb 22 8191) HT_ ?_;refine pu 13 39 (fb 22 16383) HT_ ?_;refine pu 14 40 (fb 22 32767) HT_ ?_;refine pu 15 41 (fb 22 65535) HT_ ?_;refine pu 16 42 (fb 22 131071) HT_ ?_;refine pu 17 43 (fb 22 262143) HT_ ?_;refine pu 18 44 (fb 22 524287) HT_ ?_;refine o1 19 (some 45) (fb 22 1048575) HT_ (fun K hK => ?_);refine gs _ (#[.string (a0.extract 1 a0.size),.string (a1.extract 1 a1.size)]) Tryd.func148 ?_;(with_reducible refine (ih k (by omega) (a0.extract 1 a0.size) (a1.extract 1 a1.size) a8 _ A23.out).mono ?_);rintro e w25 ⟨rfl,hb⟩;refine ⟨_,rfl,?_⟩;refine Ya1 (below_step (be HB.out) hb) ?_;clear HB;intro HB;(try clear hb);(try clear hb2);(try clear hk);(try clear hi);refine hK.out _ _ trivial (fun hHeld => ?_);clear hK K;refine nm 45 ?_;refine pu 20 46 (fb 22 2097151) HT_ ?_;refine pu 21 4 (fb 22 4194303) HT_ ?_;refine done_ (done_of HT_.out (by kernel_rfl)) ?_
        try go_wp2
        go_ret
        exact ⟨Ye2,be HB.out⟩
       ·rw [if_neg ac] at H
        exact absurd H (by simp)
      ·rw [if_neg ab] at H
       exact absurd H (by simp)
     ·rw [if_neg a5] at H
      have ar:((bt a0 0)==63)=false:=beq_eq_false_iff_ne.mpr a5;have au:((bt a0 0) != 63)=true:=bne_iff_ne.mpr a5
      by_cases af:0<(a1.size:Int)
      ·rw [if_pos af] at H
       have c27b0:decide (0<(a1.size:Int))=true:=decide_eq_true af;have c27b1:decide (0<a1.size)=true:=decide_eq_true (by omega);clear af
       by_cases a6:(bt a0 0)=(bt a1 0)
       ·rw [if_pos a6] at H
        have av:((bt a0 0)==(bt a1 0))=true:=beq_iff_eq.mpr a6;have aw:((bt a0 0) != (bt a1 0))=false:=bne_eq_false_iff_eq.mpr a6;clear a6
        by_cases ad:1≤(a0.size:Int)
        ·rw [if_pos ad] at H
         have c30b0:=eq_true ad;have c30b1:decide (1≤(a0.size:Int))=true:=decide_eq_true ad;clear ad
         by_cases ae:1≤(a1.size:Int)
         ·rw [if_pos ae] at H
          have c31b0:=eq_true ae;have c31b1:decide (1≤(a1.size:Int))=true:=decide_eq_true ae;clear ae;replace H:=Option.bind_eq_some_iff.mp H;obtain ⟨a9,ai,H⟩:=H;replace H:(some a9)=some r:=H;have A32:=Aside0.mk ai;clear ai;obtain rfl:=Option.some.inj H
          have p5:0≤(0:Int):=(by omega)
          have q5:0<a0.size:=(by have:(0:Int)<(a0.size:Int):=oda;omega)
          have hx5:∀ h:0<a0.size,((a0[0]'h).toNat:Int)=bt a0 0:=bt_at a0 0;clear p5;have qi5:(0<(a0.size:Int))=True:=eq_true (oda);replace q5:=eq_true q5
          go_enter Tryd.func148,Tryd.ntmps148
          try go_wp2
          refine Ya1 (below_drew1 HB.out) ?_;clear HB;intro HB
          have p19:0≤(0:Int):=(by omega)
          have q19:0<a0.size:=(by have:(0:Int)<(a0.size:Int):=oda;omega)
          have hx19:∀ h:0<a0.size,((a0[0]'h).toNat:Int)=bt a0 0:=bt_at a0 0;clear p19;have qi19:(0<(a0.size:Int))=True:=eq_true (oda);replace q19:=eq_true q19
          have p26:0≤(0:Int):=(by omega)
          have q26:0<a0.size:=(by have:(0:Int)<(a0.size:Int):=oda;omega)
          have hx26:∀ h:0<a0.size,((a0[0]'h).toNat:Int)=bt a0 0:=bt_at a0 0;clear p26;have qi26:(0<(a0.size:Int))=True:=eq_true (oda);replace q26:=eq_true q26
          have p28:0≤(0:Int):=(by omega)
          have q28:0<a1.size:=(by have:(0:Int)<(a1.size:Int):=oda;omega)
          have hx28:∀ h:0<a1.size,((a1[0]'h).toNat:Int)=bt a1 0:=bt_at a1 0;clear p28;have qi28:(0<(a1.size:Int))=True:=eq_true (oda);replace q28:=eq_true q28;refine start_ (n:=22) (S:=fun w'=>True) (ds:=[]) (fb 22 0) (by kernel_rfl) rfl rfl trivial (fun hHeld => ?_);refine with_tabW spec_l4Bytes.tab5 spec_l4Bytes.bits5 (fun HT_ HW_ => ?_);generalize w.drew=w33 at HB hHeld ⊢; refine pu 0 26 (fb 22 1) HT_ ?_;refine pu 1 27 (fb 22 3) HT_ ?_;refine pu 2 28 (fb 22 7) HT_ ?_;refine pu 3 29 (fb 22 15) HT_ ?_;refine take_ (i:=4) (N:=some 30) (v:=?_) (a':=?_) (fb 22 31) rfl rfl (take_ofW HT_.out HW_.out (by kernel_rfl)) (fun _ _ _ h=>h) (Or.inl ⟨by rfl,?_⟩) hHeld ?_ ?_;rotate_left
          ·intro w' _;go_simp;(with_reducible rfl)
          rotate_left
          ·simp only [Act.put,List.setIfInBounds_toArray,List.set_cons_zero,List.set_cons_succ,i64_w,i32_w];rfl
          refine pu 5 31 (fb 22 63) HT_ ?_;refine pu 6 32 (fb 22 127) HT_ ?_;refine pu 7 33 (fb 22 255) HT_ ?_;refine pu 9 35 (fb 22 767) HT_ ?_;refine take_ (i:=8) (N:=some 34) (v:=?_) (a':=?_) (fb 22 1023) rfl rfl (take_ofW HT_.out HW_.out (by kernel_rfl)) (fun _ _ _ h=>h) (Or.inl ⟨by rfl,?_⟩) hHeld ?_ ?_;rotate_left
          ·intro w' _;go_simp;(with_reducible rfl)
          rotate_left
          ·simp only [Act.put,List.setIfInBounds_toArray,List.set_cons_zero,List.set_cons_succ,i64_w,i32_w];rfl
          refine take_ (i:=10) (N:=some 36) (v:=?_) (a':=?_) (fb 22 2047) rfl rfl (take_ofW HT_.out HW_.out (by kernel_rfl)) (fun _ _ _ h=>h) (Or.inl ⟨by rfl,?_⟩) hHeld ?_ ?_;rotate_left
          ·intro w' _;go_simp;(with_reducible rfl)
          rotate_left
          ·simp only [Act.put,List.setIfInBounds_toArray,List.set_cons_zero,List.set_cons_succ,i64_w,i32_w];rfl
          refine pu 11 37 (fb 22 4095) HT_ ?_;refine pu 12 38 (fb 22 8191) HT_ ?_;refine pu 13 39 (fb 22 16383) HT_ ?_;refine pu 14 40 (fb 22 32767) HT_ ?_;refine pu 15 41 (fb 22 65535) HT_ ?_;refine pu 16 42 (fb 22 131071) HT_ ?_;refine pu 17 43 (fb 22 262143) HT_ ?_;refine pu 18 44 (fb 22 524287) HT_ ?_;refine o1 19 (some 45) (fb 22 1048575) HT_ (fun K hK => ?_);refine gs _ (#[.string (a0.extract 1 a0.size),.string (a1.extract 1 a1.size)]) Tryd.func148 ?_;(with_reducible refine (ih k (by omega) (a0.extract 1 a0.size) (a1.extract 1 a1.size) a9 _ A32.out).mono ?_);rintro e w34 ⟨rfl,hb⟩;refine ⟨_,rfl,?_⟩;refine Ya1 (below_step (be HB.out) hb) ?_;clear HB;intro HB;(try clear hb);(try clear hb2);(try clear hk);(try clear hi);refine hK.out _ _ trivial (fun hHeld => ?_);clear hK K;refine nm 45 ?_;refine pu 20 46 (fb 22 2097151) HT_ ?_;refine pu 21 4 (fb 22 4194303) HT_ ?_;refine done_ (done_of HT_.out (by kernel_rfl)) ?_
          try go_wp2
          go_ret
          exact ⟨Ye2,be HB.out⟩
         ·rw [if_neg ae] at H
          exact absurd H (by simp)
        ·rw [if_neg ad] at H
         exact absurd H (by simp)
       ·rw [if_neg a6] at H
        have av:((bt a0 0)==(bt a1 0))=false:=beq_eq_false_iff_ne.mpr a6;have aw:((bt a0 0) != (bt a1 0))=true:=bne_iff_ne.mpr a6;obtain rfl:=Option.some.inj H
        have p5:0≤(0:Int):=(by omega)
        have q5:0<a0.size:=(by have:(0:Int)<(a0.size:Int):=oda;omega)
        have hx5:∀ h:0<a0.size,((a0[0]'h).toNat:Int)=bt a0 0:=bt_at a0 0;clear p5;have qi5:(0<(a0.size:Int))=True:=eq_true (oda);replace q5:=eq_true q5
        go_enter Tryd.func148,Tryd.ntmps148
        try go_wp2
        refine Ya1 (below_drew1 HB.out) ?_;clear HB;intro HB
        have p19:0≤(0:Int):=(by omega)
        have q19:0<a0.size:=(by have:(0:Int)<(a0.size:Int):=oda;omega)
        have hx19:∀ h:0<a0.size,((a0[0]'h).toNat:Int)=bt a0 0:=bt_at a0 0;clear p19;have qi19:(0<(a0.size:Int))=True:=eq_true (oda);replace q19:=eq_true q19
        have p26:0≤(0:Int):=(by omega)
        have q26:0<a0.size:=(by have:(0:Int)<(a0.size:Int):=oda;omega)
        have hx26:∀ h:0<a0.size,((a0[0]'h).toNat:Int)=bt a0 0:=bt_at a0 0;clear p26;have qi26:(0<(a0.size:Int))=True:=eq_true (oda);replace q26:=eq_true q26
        have p28:0≤(0:Int):=(by omega)
        have q28:0<a1.size:=(by have:(0:Int)<(a1.size:Int):=oda;omega)
        have hx28:∀ h:0<a1.size,((a1[0]'h).toNat:Int)=bt a1 0:=bt_at a1 0;clear p28;have qi28:(0<(a1.size:Int))=True:=eq_true (oda);replace q28:=eq_true q28;refine start_ (n:=22) (S:=fun w'=>True) (ds:=[]) (fb 22 0) (by kernel_rfl) rfl rfl trivial (fun hHeld => ?_);refine with_tabW spec_l4Bytes.tab5 spec_l4Bytes.bits5 (fun HT_ HW_ => ?_);generalize w.drew=w35 at HB hHeld ⊢; refine pu 0 26 (fb 22 1) HT_ ?_;refine pu 1 27 (fb 22 3) HT_ ?_;refine pu 2 28 (fb 22 7) HT_ ?_;refine pu 3 29 (fb 22 15) HT_ ?_;refine take_ (i:=4) (N:=some 30) (v:=?_) (a':=?_) (fb 22 31) rfl rfl (take_ofW HT_.out HW_.out (by kernel_rfl)) (fun _ _ _ h=>h) (Or.inl ⟨by rfl,?_⟩) hHeld ?_ ?_;rotate_left
        ·intro w' _;go_simp;(with_reducible rfl)
        rotate_left
        ·simp only [Act.put,List.setIfInBounds_toArray,List.set_cons_zero,List.set_cons_succ,i64_w,i32_w];rfl
        refine pu 5 31 (fb 22 63) HT_ ?_;refine pu 6 32 (fb 22 127) HT_ ?_;refine pu 7 33 (fb 22 255) HT_ ?_;refine pu 9 35 (fb 22 767) HT_ ?_;refine take_ (i:=8) (N:=some 34) (v:=?_) (a':=?_) (fb 22 1023) rfl rfl (take_ofW HT_.out HW_.out (by kernel_rfl)) (fun _ _ _ h=>h) (Or.inl ⟨by rfl,?_⟩) hHeld ?_ ?_;rotate_left
        ·intro w' _;go_simp;(with_reducible rfl)
        rotate_left
        ·simp only [Act.put,List.setIfInBounds_toArray,List.set_cons_zero,List.set_cons_succ,i64_w,i32_w];rfl
        refine take_ (i:=10) (N:=some 36) (v:=?_) (a':=?_) (fb 22 2047) rfl rfl (take_ofW HT_.out HW_.out (by kernel_rfl)) (fun _ _ _ h=>h) (Or.inl ⟨by rfl,?_⟩) hHeld ?_ ?_;rotate_left
        ·intro w' _;go_simp;(with_reducible rfl)
        rotate_left
        ·simp only [Act.put,List.setIfInBounds_toArray,List.set_cons_zero,List.set_cons_succ,i64_w,i32_w];rfl
        refine pu 11 37 (fb 22 4095) HT_ ?_;refine pu 12 38 (fb 22 8191) HT_ ?_;refine pu 13 39 (fb 22 16383) HT_ ?_;refine pu 14 40 (fb 22 32767) HT_ ?_;refine pn 15 41 (fb 22 65535) HT_ ?_;refine pn 16 42 (fb 22 131071) HT_ ?_;refine pn 17 43 (fb 22 262143) HT_ ?_;refine pn 18 44 (fb 22 524287) HT_ ?_;refine pn 19 45 (fb 22 1048575) HT_ ?_;refine pu 20 46 (fb 22 2097151) HT_ ?_;refine pu 21 4 (fb 22 4194303) HT_ ?_;refine done_ (done_of HT_.out (by kernel_rfl)) ?_
        try go_wp2
        go_ret
        exact ⟨Ye2,be HB.out⟩
      ·rw [if_neg af] at H
       exact absurd H (by simp)
  ·rw [if_neg c4] at H
   exact absurd H (by simp)

end Go.Proofs.YtknagppkeodggaaDoor.P


namespace Go.Proofs.YtknagppkeodggaaDoor.P
open Go.RowKit Go.Proofs.YtknagppkeodggaaDoorW.PrintWords Go.Proofs.YtknagppkeodggaaDoorW.PrintLast Go.Proofs.YtknagppkeodggaaDoorW.PrintMore
attribute [local go_sem] max2_int min2_int max_two min_two max_three min_three max_four min_four
set_option linter.unusedVariables false
set_option linter.unusedSimpArgs false

def spec_l4Match.f:Nat→List ByteArray→List ByteArray→Option (Bool)
 | 0,_,_=>none
 | k+1,l0,l1=>if (l0.length:Int)=0 then (some ((l1.length:Int)==0)) else (if 0<(l0.length:Int) then (if (rdOf ByteArray.empty l0 0).toList=([42,42]:List UInt8) then (if 1≤(l0.length:Int) then ((spec_l4Match.f k (l0.drop 1) l1).bind fun ah=>(if ah=true then (some true) else (if (l1.length:Int)>0 then (if 1≤(l1.length:Int) then ((spec_l4Match.f k l0 (l1.drop 1)).bind fun aa=>(some aa)) else (none)) else (some false)))) else (none)) else (if (l1.length:Int)>0 then (if 0<(l1.length:Int) then ((spec_l4Bytes.f k (rdOf ByteArray.empty l0 0) (rdOf ByteArray.empty l1 0)).bind fun ai=>(if ai=true then (if 1≤(l0.length:Int) then (if 1≤(l1.length:Int) then ((spec_l4Match.f k (l0.drop 1) (l1.drop 1)).bind fun ab=>(some ab)) else (none)) else (none)) else (some false))) else (none)) else (some false))) else (none))
theorem spec_l4Match.mono_l:∀ k,(∀ y0 y1,LeO (spec_l4Match.f k y0 y1) (spec_l4Match.f (k+1) y0 y1))
 | 0=>fun _ _ r h=>by simp [spec_l4Match.f] at h
 | k + 1 => by
  have ih0:=spec_l4Match.mono_l k
  ·intro y0 y1
   unfold spec_l4Match.f
   repeat' first
   | (with_reducible exact ih0 _ _)
   | (with_reducible exact spec_l4Bytes.mono _ _ _)
   | (with_reducible exact LeO.refl _)
   | (with_reducible exact LeO.none _)
   | (with_reducible refine LeO.ite ?_ ?_)
   | (with_reducible refine LeO.bind ?_ (fun _ => ?_))
   | exact ih0 _ _
   | exact spec_l4Bytes.mono _ _ _
   | exact LeO.none _
   | refine LeO.ite ?_ ?_
   | refine LeO.bind ?_ (fun _ => ?_)
theorem spec_l4Match.mono:∀ a0 a1 k,LeO (spec_l4Match.f k a0 a1) (spec_l4Match.f (k+1) a0 a1):=by
 intro a0 a1 k;have ih0:=spec_l4Match.mono_l k;exact ih0 a0 a1
def spec_l4Match.T5:Bool×List (List Nat×List Nat):=(true,[([],[]),([0],[0]),([1],[1]),([2],[2]),([3],[3]),([4,3],[3,4]),([5,3],[3,5]),([3],[3]),([7,3],[3,7]),([8,3],[3,8]),([6,9,3,3],[3,6,9]),([3,10],[3,10]),([11,10],[11]),([12],[12]),([13,12],[12,13]),([12],[12]),([15,12],[12,15]),([14,16,12,12],[12,14,16]),([12,17],[12,17]),([18,17,0,1,2,3,4,5,6,7,8,9,10,11,12,13,14,15,16,17,18],[18])])
def spec_l4Match.B5:List Nat:=[0,1,3,7,15,31,63,15,143,399,1023,2047,4095,8191,16383,8191,40959,131071,262143,524287]
theorem spec_l4Match.tab5:rtab .any (opsOf Tryd.f84 5)=spec_l4Match.T5:=by kernel_rfl
theorem spec_l4Match.bits5:waitsOk spec_l4Match.T5.2 spec_l4Match.B5=true:=by kernel_rfl
set_option maxHeartbeats 8000000 in
set_option maxRecDepth 100000 in
theorem spec_l4Match.calls (k : Nat) : ∀ (A0 : Option Addr) (c0 : Nat) (l0 : List ByteArray) (A1 : Option Addr) (c1 : Nat) (l1 : List ByteArray) (r : Bool) (w : World) (hr0 : Kd.C Kd.string w A0 l0.length l0) (hc0 : l0.length ≤ c0) (hr1 : Kd.C Kd.string w A1 l1.length l1) (hc1 : l1.length ≤ c1) (h : spec_l4Match.f k l0 l1 = some r),
  Calls Tryd.prog 84 #[.slice A0 l0.length c0,.slice A1 l1.length c1] w fun e w'=>e = .returned (.bool r)∧Below w.heap.size w w':=by
 induction k using Nat.strongRecOn with
 | _ k ih =>
 intro A0 c0 l0 A1 c1 l1 r w hr0 hc0 hr1 hc1 h
 cases k with
 | zero=>exact absurd h (by simp [spec_l4Match.f])
 | succ k =>
 simp only [spec_l4Match.f] at h;have a5:=Aside0.mk hr0;have al:=Aside0.mk hc0;clear hr0 hc0;have ac:=Aside0.mk hr1;have am:=Aside0.mk hc1;clear hr1 hc1;have HB:=Aside0.mk (Below.refl w.heap.size w);have H:(if (l0.length:Int)=0 then (some ((l1.length:Int)==0)) else (if 0<(l0.length:Int) then (if (rdOf ByteArray.empty l0 0).toList=([42,42]:List UInt8) then (if 1≤(l0.length:Int) then ((spec_l4Match.f k (l0.drop 1) l1).bind fun ah=>(if ah=true then (some true) else (if (l1.length:Int)>0 then (if 1≤(l1.length:Int) then ((spec_l4Match.f k l0 (l1.drop 1)).bind fun aa=>(some aa)) else (none)) else (some false)))) else (none)) else (if (l1.length:Int)>0 then (if 0<(l1.length:Int) then ((spec_l4Bytes.f k (rdOf ByteArray.empty l0 0) (rdOf ByteArray.empty l1 0)).bind fun ai=>(if ai=true then (if 1≤(l0.length:Int) then (if 1≤(l1.length:Int) then ((spec_l4Match.f k (l0.drop 1) (l1.drop 1)).bind fun ab=>(some ab)) else (none)) else (none)) else (some false))) else (none)) else (some false))) else (none)))=some r:=h;clear h
 by_cases c3:(l0.length:Int)=0
 ·rw [if_pos c3] at H
  have aD:((l0.length:Int)==0)=true:=beq_iff_eq.mpr c3;have aE:((l0.length:Int) != 0)=false:=bne_eq_false_iff_eq.mpr c3;clear c3;obtain rfl:=Option.some.inj H
  go_enter Tryd.func84,Tryd.ntmps84
  go_wp2
  go_ret
  exact ⟨Ye2,be HB.out⟩
 ·rw [if_neg c3] at H
  have aD:((l0.length:Int)==0)=false:=beq_eq_false_iff_ne.mpr c3;have aE:((l0.length:Int) != 0)=true:=bne_iff_ne.mpr c3
  have c3b2:¬ (l0 = []):=fun h_=>c3 (by rw [h_];rfl)
  by_cases c4:0<(l0.length:Int)
  ·rw [if_pos c4] at H
   have c4b0:decide (0<(l0.length:Int))=true:=decide_eq_true c4;have c4b1:decide (0<l0.length)=true:=decide_eq_true (by omega);clear c4
   by_cases c5:(rdOf ByteArray.empty l0 0).toList=([42,42]:List UInt8)
   ·rw [if_pos c5] at H
    have aF:((rdOf ByteArray.empty l0 0).toList==([42,42]:List UInt8))=true:=beq_iff_eq.mpr c5;have aG:((rdOf ByteArray.empty l0 0).toList != ([42,42]:List UInt8))=false:=bne_eq_false_iff_eq.mpr c5;clear c5
    by_cases c6:1≤(l0.length:Int)
    ·rw [if_pos c6] at H
     have c6b0:=eq_true c6;have c6b1:decide (1≤(l0.length:Int))=true:=decide_eq_true c6;clear c6;replace H:=Option.bind_eq_some_iff.mp H;obtain ⟨ah,A70,H⟩:=H;replace H:(if ah=true then (some true) else (if (l1.length:Int)>0 then (if 1≤(l1.length:Int) then ((spec_l4Match.f k l0 (l1.drop 1)).bind fun aa=>(some aa)) else (none)) else (some false)))=some r:=H;have A7:=Aside0.mk A70;clear A70
     by_cases c8:ah=true
     ·subst c8
      have H1:(some true)=some r:=by rw [if_pos rfl] at H;exact H
      clear H;have H:=H1;clear H1;obtain rfl:=Option.some.inj H
      have a2:0≤(0:Int):=(by omega)
      have a3:0<(l0.length:Int):=oda;obtain ⟨a6,a9,a4⟩:=Kd.at_string a5.out 0 a2 a3
      cases a9
      have qi541:(0<l0.length)=True:=eq_true (by omega);(try rw [show ((0:Int)).toNat=0 from rfl] at a4);(try rw [Addr.add_zero'] at a4);replace a2:=eq_true a2;replace a3:=eq_true a3;obtain ⟨i09,hi09,_,hsz9,_⟩:=info_parts info9;obtain ⟨A9,hcut9,hA9,hC9⟩:=print_drop_of (P:=Tryd.prog) Value.string (⟨#[]⟩:ByteArray) 42 9 .i64 Tryd.underlying42 hi09 hsz9 (some a6) c0 l0 1 (by omega) (oda) al.out;have an:=Aside0.mk (Kd.C_of_reads (h1:=fun _=>rfl) (hA9 _ (Kd.reads_of_C a5.out)));have ao:=Aside0.mk hC9;clear hA9 hC9 hi09 hsz9
      go_enter Tryd.func84,Tryd.ntmps84
      go_wp2_with (first|((with_reducible refine gc 84 rfl ?_);refine goesL_ (some 18) rfl rfl Tryd.func84 (by kernel_rfl) rfl #[.slice A9 (l0.drop 1).length (c0 - 1),.slice A1 l1.length c1] rfl (by (try simp only [List.map_toArray,List.map_cons,List.map_nil]);first|done|(rw [show (l0.drop 1).length=(l0.length - 1) from List.length_drop] <;> rfl)|rfl|(simp only [List.length_drop,List.length_take];rfl)) ?_;(with_reducible refine (ih k (by omega) _ _ (l0.drop 1) _ _ l1 true _ ?side1 ?side2 ?side3 ?side4 A7.out).mono ?_);(case side1=>exact cb an.out);(case side2=>exact ao.out);(case side3=>exact cb ac.out);(case side4=>exact am.out);rintro e w10 ⟨rfl,hb⟩;refine ⟨_,rfl,?_⟩;refine Ya1 (below_step (be HB.out) hb) ?_;clear HB;intro HB;(try clear hb);(try clear hb2);(try clear hk);(try clear hi)))
      go_ret
      exact ⟨Ye2,be HB.out⟩
     ·replace c8:=Bool.eq_false_iff.mpr c8;subst c8
      have H1:(if (l1.length:Int)>0 then (if 1≤(l1.length:Int) then ((spec_l4Match.f k l0 (l1.drop 1)).bind fun aa=>(some aa)) else (none)) else (some false))=some r:=by rw [if_neg (show ¬(false=true) by decide)] at H;exact H
      clear H;have H:=H1;clear H1
      by_cases aj:(l1.length:Int)>0
      ·rw [if_pos aj] at H
       have aH:decide (0<(l1.length:Int))=true:=decide_eq_true aj;have aI:decide (0<l1.length)=true:=decide_eq_true (by omega);clear aj
       by_cases ap:1≤(l1.length:Int)
       ·rw [if_pos ap] at H
        have c12b0:=eq_true ap;have c12b1:decide (1≤(l1.length:Int))=true:=decide_eq_true ap;clear ap;replace H:=Option.bind_eq_some_iff.mp H;obtain ⟨aa,aA,H⟩:=H;replace H:(some aa)=some r:=H;have A13:=Aside0.mk aA;clear aA;obtain rfl:=Option.some.inj H
        have a2:0≤(0:Int):=(by omega)
        have a3:0<(l0.length:Int):=oda;obtain ⟨a6,a9,a4⟩:=Kd.at_string a5.out 0 a2 a3
        cases a9
        have qi541:(0<l0.length)=True:=eq_true (by omega);(try rw [show ((0:Int)).toNat=0 from rfl] at a4);(try rw [Addr.add_zero'] at a4);replace a2:=eq_true a2;replace a3:=eq_true a3;obtain ⟨i014,hi014,_,hsz14,_⟩:=info_parts info9;obtain ⟨A14,hcut14,hA14,hC14⟩:=print_drop_of (P:=Tryd.prog) Value.string (⟨#[]⟩:ByteArray) 42 9 .i64 Tryd.underlying42 hi014 hsz14 (some a6) c0 l0 1 (by omega) (oda) al.out;have an:=Aside0.mk (Kd.C_of_reads (h1:=fun _=>rfl) (hA14 _ (Kd.reads_of_C a5.out)));have ao:=Aside0.mk hC14;clear hA14 hC14 hi014 hsz14
        go_enter Tryd.func84,Tryd.ntmps84
        go_wp2_with (first|((with_reducible refine gc 84 rfl ?_);refine goesL_ (some 18) rfl rfl Tryd.func84 (by kernel_rfl) rfl #[.slice A14 (l0.drop 1).length (c0 - 1),.slice A1 l1.length c1] rfl (by (try simp only [List.map_toArray,List.map_cons,List.map_nil]);first|done|(rw [show (l0.drop 1).length=(l0.length - 1) from List.length_drop] <;> rfl)|rfl|(simp only [List.length_drop,List.length_take];rfl)) ?_;(with_reducible refine (ih k (by omega) _ _ (l0.drop 1) _ _ l1 false _ ?side1 ?side2 ?side3 ?side4 A7.out).mono ?_);(case side1=>exact cb an.out);(case side2=>exact ao.out);(case side3=>exact cb ac.out);(case side4=>exact am.out);rintro e w15 ⟨rfl,hb⟩;refine ⟨_,rfl,?_⟩;refine Ya1 (below_step (be HB.out) hb) ?_;clear HB;intro HB;(try clear hb);(try clear hb2);(try clear hk);(try clear hi);obtain ⟨i016,hi016,_,hsz16,_⟩:=info_parts info9;obtain ⟨A16,hcut16,hA16,hC16⟩:=print_drop_of (P:=Tryd.prog) Value.string (⟨#[]⟩:ByteArray) 42 9 .i64 Tryd.underlying42 hi016 hsz16 A1 c1 l1 1 (by omega) (oda) am.out;have aJ:=Aside0.mk (Kd.C_of_reads (h1:=fun _=>rfl) (hA16 _ (Kd.reads_of_C ac.out)));have aK:=Aside0.mk hC16;clear hA16 hC16 hi016 hsz16)|(go_at_call 84;(try rw [show l1.length - 1=(l1.drop 1).length from List.length_drop.symm]);(with_reducible refine (ih k (by omega) _ _ l0 _ _ (l1.drop 1) aa _ ?side1 ?side2 ?side3 ?side4 A13.out).mono ?_);(case side1=>exact cb (Kd.C_below a5.out HB.out));(case side2=>exact al.out);(case side3=>exact cb (Kd.C_below aJ.out HB.out));(case side4=>exact aK.out);rintro e w17 ⟨rfl,hb⟩;refine Ya1 (below_step (be HB.out) hb) ?_;clear HB;intro HB;(try clear hb);(try clear hb2);(try clear hk);(try clear hi)))
        go_ret
        exact ⟨Ye2,be HB.out⟩
       ·rw [if_neg ap] at H
        exact absurd H (by simp)
      ·rw [if_neg aj] at H
       have aH:decide (0<(l1.length:Int))=false:=decide_eq_false aj;have aI:decide (0<l1.length)=false:=decide_eq_false (by omega);clear aj;obtain rfl:=Option.some.inj H
       have a2:0≤(0:Int):=(by omega)
       have a3:0<(l0.length:Int):=oda;obtain ⟨a6,a9,a4⟩:=Kd.at_string a5.out 0 a2 a3
       cases a9
       have qi541:(0<l0.length)=True:=eq_true (by omega);(try rw [show ((0:Int)).toNat=0 from rfl] at a4);(try rw [Addr.add_zero'] at a4);replace a2:=eq_true a2;replace a3:=eq_true a3;obtain ⟨i018,hi018,_,hsz18,_⟩:=info_parts info9;obtain ⟨A18,hcut18,hA18,hC18⟩:=print_drop_of (P:=Tryd.prog) Value.string (⟨#[]⟩:ByteArray) 42 9 .i64 Tryd.underlying42 hi018 hsz18 (some a6) c0 l0 1 (by omega) (oda) al.out;have an:=Aside0.mk (Kd.C_of_reads (h1:=fun _=>rfl) (hA18 _ (Kd.reads_of_C a5.out)));have ao:=Aside0.mk hC18;clear hA18 hC18 hi018 hsz18
       go_enter Tryd.func84,Tryd.ntmps84
       go_wp2_with (first|((with_reducible refine gc 84 rfl ?_);refine goesL_ (some 18) rfl rfl Tryd.func84 (by kernel_rfl) rfl #[.slice A18 (l0.drop 1).length (c0 - 1),.slice A1 l1.length c1] rfl (by (try simp only [List.map_toArray,List.map_cons,List.map_nil]);first|done|(rw [show (l0.drop 1).length=(l0.length - 1) from List.length_drop] <;> rfl)|rfl|(simp only [List.length_drop,List.length_take];rfl)) ?_;(with_reducible refine (ih k (by omega) _ _ (l0.drop 1) _ _ l1 false _ ?side1 ?side2 ?side3 ?side4 A7.out).mono ?_);(case side1=>exact cb an.out);(case side2=>exact ao.out);(case side3=>exact cb ac.out);(case side4=>exact am.out);rintro e w19 ⟨rfl,hb⟩;refine ⟨_,rfl,?_⟩;refine Ya1 (below_step (be HB.out) hb) ?_;clear HB;intro HB;(try clear hb);(try clear hb2);(try clear hk);(try clear hi)))
       go_ret
       exact ⟨Ye2,be HB.out⟩
    ·rw [if_neg c6] at H
     exact absurd H (by simp)
   ·rw [if_neg c5] at H
    have aF:((rdOf ByteArray.empty l0 0).toList==([42,42]:List UInt8))=false:=beq_eq_false_iff_ne.mpr c5;have aG:((rdOf ByteArray.empty l0 0).toList != ([42,42]:List UInt8))=true:=bne_iff_ne.mpr c5
    by_cases ak:(l1.length:Int)>0
    ·rw [if_pos ak] at H
     have aL:decide (0<(l1.length:Int))=true:=decide_eq_true ak;have aM:decide (0<l1.length)=true:=decide_eq_true (by omega);clear ak
     by_cases au:0<(l1.length:Int)
     ·rw [if_pos au] at H
      have c21b0:decide (0<(l1.length:Int))=true:=decide_eq_true au;have c21b1:decide (0<l1.length)=true:=decide_eq_true (by omega);clear au;replace H:=Option.bind_eq_some_iff.mp H;obtain ⟨ai,aB,H⟩:=H;replace H:(if ai=true then (if 1≤(l0.length:Int) then (if 1≤(l1.length:Int) then ((spec_l4Match.f k (l0.drop 1) (l1.drop 1)).bind fun ab=>(some ab)) else (none)) else (none)) else (some false))=some r:=H;have A22:=Aside0.mk aB;clear aB
      by_cases av:ai=true
      ·subst av
       have H1:(if 1≤(l0.length:Int) then (if 1≤(l1.length:Int) then ((spec_l4Match.f k (l0.drop 1) (l1.drop 1)).bind fun ab=>(some ab)) else (none)) else (none))=some r:=by rw [if_pos rfl] at H;exact H
       clear H;have H:=H1;clear H1
       by_cases aq:1≤(l0.length:Int)
       ·rw [if_pos aq] at H
        have c24b0:=eq_true aq;have c24b1:decide (1≤(l0.length:Int))=true:=decide_eq_true aq;clear aq
        by_cases ar:1≤(l1.length:Int)
        ·rw [if_pos ar] at H
         have c25b0:=eq_true ar;have c25b1:decide (1≤(l1.length:Int))=true:=decide_eq_true ar;clear ar;replace H:=Option.bind_eq_some_iff.mp H;obtain ⟨ab,aC,H⟩:=H;replace H:(some ab)=some r:=H;have A26:=Aside0.mk aC;clear aC;obtain rfl:=Option.some.inj H
         have a2:0≤(0:Int):=(by omega)
         have a3:0<(l0.length:Int):=oda;obtain ⟨a6,a9,a4⟩:=Kd.at_string a5.out 0 a2 a3
         cases a9
         have qi541:(0<l0.length)=True:=eq_true (by omega);(try rw [show ((0:Int)).toNat=0 from rfl] at a4);(try rw [Addr.add_zero'] at a4);replace a2:=eq_true a2;replace a3:=eq_true a3
         go_enter Tryd.func84,Tryd.ntmps84
         try go_wp2
         refine Ya1 (below_drew1 HB.out) ?_;clear HB;intro HB
         have ad:0≤(0:Int):=(by omega)
         have ae:0<(l0.length:Int):=oda;obtain ⟨ax,ay,a7⟩:=Kd.at_string a5.out 0 ad ae;have hw546_0:=a7;(try rw [show ((0:Int)).toNat=0 from rfl] at hw546_0);(try rw [show 0*1=0 from rfl] at hw546_0);(try rw [Addr.add_zero'] at hw546_0)
         obtain rfl:a6=ax:=(by injection ay)
         have qi546:(0<l0.length)=True:=eq_true (by omega);(try rw [show ((0:Int)).toNat=0 from rfl] at a7);(try rw [Addr.add_zero'] at a7);replace a7:=pw_cell_below HB.out a7;replace ad:=eq_true ad;replace ae:=eq_true ae
         have af:0≤(0:Int):=(by omega)
         have ag:0<(l1.length:Int):=oda;obtain ⟨aw,az,a8⟩:=Kd.at_string ac.out 0 af ag;have hw547_0:=a8;(try rw [show ((0:Int)).toNat=0 from rfl] at hw547_0);(try rw [show 0*1=0 from rfl] at hw547_0);(try rw [Addr.add_zero'] at hw547_0)
         cases az
         have qi547:(0<l1.length)=True:=eq_true (by omega);(try rw [show ((0:Int)).toNat=0 from rfl] at a8);(try rw [Addr.add_zero'] at a8);replace a8:=pw_cell_below HB.out a8;replace af:=eq_true af;replace ag:=eq_true ag;refine start_ (n:=20) (S:=fun w'=>w'.cell? a6=some (.string (rdOf ByteArray.empty l0 0))∧w'.cell? aw=some (.string (rdOf ByteArray.empty l1 0))) (ds:=[]) (fb 20 0) (by kernel_rfl) rfl rfl ⟨(pw_cell_below HB.out hw546_0),(pw_cell_below HB.out hw547_0)⟩ (fun hHeld => ?_);refine with_tabW spec_l4Match.tab5 spec_l4Match.bits5 (fun HT_ HW_ => ?_);generalize w.drew=w27 at HB a7 a8 hHeld ⊢; refine pu 0 30 (fb 20 1) HT_ ?_;refine pu 1 31 (fb 20 3) HT_ ?_;refine pu 2 32 (fb 20 7) HT_ ?_;refine pu 3 33 (fb 20 15) HT_ ?_;refine pu 4 34 (fb 20 31) HT_ ?_;refine pu 5 35 (fb 20 63) HT_ ?_;refine pu 7 37 (fb 20 191) HT_ ?_;refine pu 8 38 (fb 20 447) HT_ ?_;refine tk 6 36 (fb 20 511) HT_ HW_ hHeld ?_;refine tk 9 39 (fb 20 1023) HT_ HW_ hHeld ?_;refine o1 10 (some 40) (fb 20 2047) HT_ (fun K hK => ?_);refine gs _ (#[.string (rdOf ByteArray.empty l0 0),.string (rdOf ByteArray.empty l1 0)]) Tryd.func148 ?_;(with_reducible refine (spec_l4Bytes.calls k (rdOf ByteArray.empty l0 0) (rdOf ByteArray.empty l1 0) true _ A22.out).mono ?_);rintro e w28 ⟨rfl,hb⟩;refine ⟨_,rfl,?_⟩;refine Ya1 (below_step (be HB.out) hb) ?_;clear HB;intro HB;(try clear hb);(try clear hb2);(try clear hk);(try clear hi);obtain ⟨i029,hi029,_,hsz29,_⟩:=info_parts info9;obtain ⟨A29,hcut29,hA29,hC29⟩:=print_drop_of (P:=Tryd.prog) Value.string (⟨#[]⟩:ByteArray) 42 9 .i64 Tryd.underlying42 hi029 hsz29 (some a6) c0 l0 1 (by omega) (oda) al.out;have aN:=Aside0.mk (Kd.C_of_reads (h1:=fun _=>rfl) (hA29 _ (Kd.reads_of_C a5.out)));have aO:=Aside0.mk hC29;clear hA29 hC29 hi029 hsz29;obtain ⟨i030,hi030,_,hsz30,_⟩:=info_parts info9;obtain ⟨A30,hcut30,hA30,hC30⟩:=print_drop_of (P:=Tryd.prog) Value.string (⟨#[]⟩:ByteArray) 42 9 .i64 Tryd.underlying42 hi030 hsz30 (some aw) c1 l1 1 (by omega) (oda) am.out;have aP:=Aside0.mk (Kd.C_of_reads (h1:=fun _=>rfl) (hA30 _ (Kd.reads_of_C ac.out)));have aQ:=Aside0.mk hC30;clear hA30 hC30 hi030 hsz30;refine hK.out _ _ ⟨(pw_cell_below HB.out hw546_0),(pw_cell_below HB.out hw547_0)⟩ (fun hHeld => ?_);clear hK K;refine nm 40 ?_;refine pu 11 41 (fb 20 4095) HT_ ?_;refine pu 12 42 (fb 20 8191) HT_ ?_;refine pu 13 43 (fb 20 16383) HT_ ?_;refine pu 14 44 (fb 20 32767) HT_ ?_;refine pu 15 45 (fb 20 65535) HT_ ?_;refine pu 16 46 (fb 20 131071) HT_ ?_;refine o1 17 (some 47) (fb 20 262143) HT_ (fun K hK => ?_);refine goes_ Tryd.func84 (by kernel_rfl) rfl #[.slice A29 (l0.drop 1).length (c0 - 1),.slice A30 (l1.drop 1).length (c1 - 1)] (by rfl) rfl rfl (by (try simp only [List.map_toArray,List.map_cons,List.map_nil]);first|done|(rw [show (l0.drop 1).length=(l0.length - 1) from List.length_drop] <;> rfl)|(rw [show (l1.drop 1).length=(l1.length - 1) from List.length_drop] <;> rfl)|rfl|(simp only [List.length_drop,List.length_take];rfl)) ?_;(with_reducible refine (ih k (by omega) _ _ (l0.drop 1) _ _ (l1.drop 1) ab _ ?side1 ?side2 ?side3 ?side4 A26.out).mono ?_);(case side1=>exact cb (Kd.C_below aN.out HB.out));(case side2=>exact aO.out);(case side3=>exact cb (Kd.C_below aP.out HB.out));(case side4=>exact aQ.out);rintro e w31 ⟨rfl,hb⟩;refine ⟨_,rfl,?_⟩;refine Ya1 (below_step (be HB.out) hb) ?_;clear HB;intro HB;(try clear hb);(try clear hb2);(try clear hk);(try clear hi);refine hK.out _ _ ⟨(pw_cell_below HB.out hw546_0),(pw_cell_below HB.out hw547_0)⟩ (fun hHeld => ?_);clear hK K;refine nm 47 ?_;refine pu 18 48 (fb 20 524287) HT_ ?_;refine pu 19 4 (fb 20 1048575) HT_ ?_;refine done_ (done_of HT_.out (by kernel_rfl)) ?_
         try go_wp2
         go_ret
         exact ⟨Ye2,be HB.out⟩
        ·rw [if_neg ar] at H
         exact absurd H (by simp)
       ·rw [if_neg aq] at H
        exact absurd H (by simp)
      ·replace av:=Bool.eq_false_iff.mpr av;subst av
       have H1:(some false)=some r:=by rw [if_neg (show ¬(false=true) by decide)] at H;exact H
       clear H;have H:=H1;clear H1;obtain rfl:=Option.some.inj H
       have a2:0≤(0:Int):=(by omega)
       have a3:0<(l0.length:Int):=oda;obtain ⟨a6,a9,a4⟩:=Kd.at_string a5.out 0 a2 a3
       cases a9
       have qi541:(0<l0.length)=True:=eq_true (by omega);(try rw [show ((0:Int)).toNat=0 from rfl] at a4);(try rw [Addr.add_zero'] at a4);replace a2:=eq_true a2;replace a3:=eq_true a3
       go_enter Tryd.func84,Tryd.ntmps84
       try go_wp2
       refine Ya1 (below_drew1 HB.out) ?_;clear HB;intro HB
       have ad:0≤(0:Int):=(by omega)
       have ae:0<(l0.length:Int):=oda;obtain ⟨ax,ay,a7⟩:=Kd.at_string a5.out 0 ad ae;have hw546_0:=a7;(try rw [show ((0:Int)).toNat=0 from rfl] at hw546_0);(try rw [show 0*1=0 from rfl] at hw546_0);(try rw [Addr.add_zero'] at hw546_0)
       obtain rfl:a6=ax:=(by injection ay)
       have qi546:(0<l0.length)=True:=eq_true (by omega);(try rw [show ((0:Int)).toNat=0 from rfl] at a7);(try rw [Addr.add_zero'] at a7);replace a7:=pw_cell_below HB.out a7;replace ad:=eq_true ad;replace ae:=eq_true ae
       have af:0≤(0:Int):=(by omega)
       have ag:0<(l1.length:Int):=oda;obtain ⟨aw,az,a8⟩:=Kd.at_string ac.out 0 af ag;have hw547_0:=a8;(try rw [show ((0:Int)).toNat=0 from rfl] at hw547_0);(try rw [show 0*1=0 from rfl] at hw547_0);(try rw [Addr.add_zero'] at hw547_0)
       cases az
       have qi547:(0<l1.length)=True:=eq_true (by omega);(try rw [show ((0:Int)).toNat=0 from rfl] at a8);(try rw [Addr.add_zero'] at a8);replace a8:=pw_cell_below HB.out a8;replace af:=eq_true af;replace ag:=eq_true ag;refine start_ (n:=20) (S:=fun w'=>w'.cell? a6=some (.string (rdOf ByteArray.empty l0 0))∧w'.cell? aw=some (.string (rdOf ByteArray.empty l1 0))) (ds:=[]) (fb 20 0) (by kernel_rfl) rfl rfl ⟨(pw_cell_below HB.out hw546_0),(pw_cell_below HB.out hw547_0)⟩ (fun hHeld => ?_);refine with_tabW spec_l4Match.tab5 spec_l4Match.bits5 (fun HT_ HW_ => ?_);generalize w.drew=w32 at HB a7 a8 hHeld ⊢; refine pu 0 30 (fb 20 1) HT_ ?_;refine pu 1 31 (fb 20 3) HT_ ?_;refine pu 2 32 (fb 20 7) HT_ ?_;refine pu 3 33 (fb 20 15) HT_ ?_;refine pu 4 34 (fb 20 31) HT_ ?_;refine pu 5 35 (fb 20 63) HT_ ?_;refine pu 7 37 (fb 20 191) HT_ ?_;refine pu 8 38 (fb 20 447) HT_ ?_;refine tk 6 36 (fb 20 511) HT_ HW_ hHeld ?_;refine tk 9 39 (fb 20 1023) HT_ HW_ hHeld ?_;refine o1 10 (some 40) (fb 20 2047) HT_ (fun K hK => ?_);refine gs _ (#[.string (rdOf ByteArray.empty l0 0),.string (rdOf ByteArray.empty l1 0)]) Tryd.func148 ?_;(with_reducible refine (spec_l4Bytes.calls k (rdOf ByteArray.empty l0 0) (rdOf ByteArray.empty l1 0) false _ A22.out).mono ?_);rintro e w33 ⟨rfl,hb⟩;refine ⟨_,rfl,?_⟩;refine Ya1 (below_step (be HB.out) hb) ?_;clear HB;intro HB;(try clear hb);(try clear hb2);(try clear hk);(try clear hi);refine hK.out _ _ ⟨(pw_cell_below HB.out hw546_0),(pw_cell_below HB.out hw547_0)⟩ (fun hHeld => ?_);clear hK K;refine nm 40 ?_;refine pu 11 41 (fb 20 4095) HT_ ?_;refine pu 12 42 (fb 20 8191) HT_ ?_;refine pn 13 43 (fb 20 16383) HT_ ?_;refine pn 14 44 (fb 20 32767) HT_ ?_;refine pn 15 45 (fb 20 65535) HT_ ?_;refine pn 16 46 (fb 20 131071) HT_ ?_;refine pn 17 47 (fb 20 262143) HT_ ?_;refine pu 18 48 (fb 20 524287) HT_ ?_;refine pu 19 4 (fb 20 1048575) HT_ ?_;refine done_ (done_of HT_.out (by kernel_rfl)) ?_
       try go_wp2
       go_ret
       exact ⟨Ye2,be HB.out⟩
     ·rw [if_neg au] at H
      exact absurd H (by simp)
    ·rw [if_neg ak] at H
     have aL:decide (0<(l1.length:Int))=false:=decide_eq_false ak;have aM:decide (0<l1.length)=false:=decide_eq_false (by omega);clear ak;obtain rfl:=Option.some.inj H
     have a2:0≤(0:Int):=(by omega)
     have a3:0<(l0.length:Int):=oda;obtain ⟨a6,a9,a4⟩:=Kd.at_string a5.out 0 a2 a3
     cases a9
     have qi541:(0<l0.length)=True:=eq_true (by omega);(try rw [show ((0:Int)).toNat=0 from rfl] at a4);(try rw [Addr.add_zero'] at a4);replace a2:=eq_true a2;replace a3:=eq_true a3
     go_enter Tryd.func84,Tryd.ntmps84
     try go_wp2
     refine Ya1 (below_drew1 HB.out) ?_;clear HB;intro HB;refine start_ (n:=20) (S:=fun w'=>True) (ds:=[]) (fb 20 0) (by kernel_rfl) rfl rfl trivial (fun hHeld => ?_);refine with_tabW spec_l4Match.tab5 spec_l4Match.bits5 (fun HT_ HW_ => ?_);generalize w.drew=w34 at HB hHeld ⊢; refine pu 0 30 (fb 20 1) HT_ ?_;refine pu 1 31 (fb 20 3) HT_ ?_;refine pu 2 32 (fb 20 7) HT_ ?_;refine pu 3 33 (fb 20 15) HT_ ?_;refine pn 4 34 (fb 20 31) HT_ ?_;refine pn 5 35 (fb 20 63) HT_ ?_;refine pn 6 36 (fb 20 127) HT_ ?_;refine pn 7 37 (fb 20 255) HT_ ?_;refine pn 8 38 (fb 20 511) HT_ ?_;refine pn 9 39 (fb 20 1023) HT_ ?_;refine pn 10 40 (fb 20 2047) HT_ ?_;refine pu 11 41 (fb 20 4095) HT_ ?_;refine pu 12 42 (fb 20 8191) HT_ ?_;refine pn 13 43 (fb 20 16383) HT_ ?_;refine pn 14 44 (fb 20 32767) HT_ ?_;refine pn 15 45 (fb 20 65535) HT_ ?_;refine pn 16 46 (fb 20 131071) HT_ ?_;refine pn 17 47 (fb 20 262143) HT_ ?_;refine pu 18 48 (fb 20 524287) HT_ ?_;refine pu 19 4 (fb 20 1048575) HT_ ?_;refine done_ (done_of HT_.out (by kernel_rfl)) ?_
     try go_wp2
     go_ret
     exact ⟨Ye2,be HB.out⟩
  ·rw [if_neg c4] at H
   exact absurd H (by simp)

end Go.Proofs.YtknagppkeodggaaDoor.P


namespace Go.Proofs.YtknagppkeodggaaDoor.P
open Go.RowKit Go.Proofs.YtknagppkeodggaaDoorW.PrintWords Go.Proofs.YtknagppkeodggaaDoorW.PrintLast Go.Proofs.YtknagppkeodggaaDoorW.PrintMore
attribute [local go_sem] max2_int min2_int max_two min_two max_three min_three max_four min_four
set_option linter.unusedVariables false
set_option linter.unusedSimpArgs false

def spec_ValidGlob.f (k:Nat) (a0:ByteArray):Option (Bool):=(spec_l4Ok.f k a0 true).bind fun a1=>(some a1)
theorem spec_ValidGlob.mono:∀ a0 k,LeO (spec_ValidGlob.f k a0) (spec_ValidGlob.f (k+1) a0):=by
 intro a0 k
 unfold spec_ValidGlob.f
 repeat' first
   | (with_reducible exact spec_l4Ok.mono _ _ _)
   | (with_reducible exact LeO.refl _)
   | (with_reducible exact LeO.none _)
   | (with_reducible refine LeO.ite ?_ ?_)
   | (with_reducible refine LeO.bind ?_ (fun _ => ?_))
   | exact spec_l4Ok.mono _ _ _
   | exact LeO.none _
   | refine LeO.ite ?_ ?_
   | refine LeO.bind ?_ (fun _ => ?_)
set_option maxHeartbeats 8000000 in
set_option maxRecDepth 100000 in
theorem spec_ValidGlob.calls (k:Nat) (a0:ByteArray) (r:Bool) (w:World) (h:spec_ValidGlob.f k a0=some r) :
  Calls Tryd.prog 24 #[.string a0] w fun e w'=>e = .returned (.bool r)∧Below w.heap.size w w':=by
 have HB:=Aside0.mk (Below.refl w.heap.size w);have H:((spec_l4Ok.f k a0 true).bind fun a1=>(some a1))=some r:=h;clear h;replace H:=Option.bind_eq_some_iff.mp H;obtain ⟨a1,A20,H⟩:=H;replace H:(some a1)=some r:=H;have A2:=Aside0.mk A20;clear A20;obtain rfl:=Option.some.inj H
 go_enter Tryd.func24,Tryd.ntmps24
 go_wp2_with (first|((with_reducible refine gc 85 rfl ?_);refine gl (some 4) _ (#[.string a0,.bool true]) Tryd.func85 ?_;(with_reducible refine (spec_l4Ok.calls k a0 true a1 _ A2.out).mono ?_);rintro e w3 ⟨rfl,hb⟩;refine ⟨_,rfl,?_⟩;refine Ya1 (below_step (be HB.out) hb) ?_;clear HB;intro HB;(try clear hb);(try clear hb2);(try clear hk);(try clear hi)))
 go_ret
 exact ⟨Ye2,be HB.out⟩

end Go.Proofs.YtknagppkeodggaaDoor.P


namespace Go.Proofs.YtknagppkeodggaaDoor.P
open Go.RowKit Go.Proofs.YtknagppkeodggaaDoorW.PrintWords Go.Proofs.YtknagppkeodggaaDoorW.PrintLast Go.Proofs.YtknagppkeodggaaDoorW.PrintMore
attribute [local go_sem] max2_int min2_int max_two min_two max_three min_three max_four min_four
set_option linter.unusedVariables false
set_option linter.unusedSimpArgs false

def spec_Match.f (k:Nat) (a0:ByteArray) (a1:ByteArray):Option (Bool):=(spec_ValidGlob.f k a0).bind fun a7=>(if a7=true then ((spec_ValidPath.f k a1).bind fun a5=>(if a5=true then ((spec_l4Parts.f k a0).bind fun a4=>((spec_l4Parts.f k a1).bind fun a3=>((spec_l4Match.f k a4 a3).bind fun a2=>(some a2)))) else (some false))) else (some false))
theorem spec_Match.mono:∀ a0 a1 k,LeO (spec_Match.f k a0 a1) (spec_Match.f (k+1) a0 a1):=by
 intro a0 a1 k
 unfold spec_Match.f
 repeat' first
   | (with_reducible exact spec_ValidGlob.mono _ _)
   | (with_reducible exact spec_ValidPath.mono _ _)
   | (with_reducible exact spec_l4Match.mono _ _ _)
   | (with_reducible exact spec_l4Parts.mono _ _)
   | (with_reducible exact LeO.refl _)
   | (with_reducible exact LeO.none _)
   | (with_reducible refine LeO.ite ?_ ?_)
   | (with_reducible refine LeO.bind ?_ (fun _ => ?_))
   | exact spec_ValidGlob.mono _ _
   | exact spec_ValidPath.mono _ _
   | exact spec_l4Match.mono _ _ _
   | exact spec_l4Parts.mono _ _
   | exact LeO.none _
   | refine LeO.ite ?_ ?_
   | refine LeO.bind ?_ (fun _ => ?_)
set_option maxHeartbeats 8000000 in
set_option maxRecDepth 100000 in
theorem spec_Match.calls (k:Nat) (a0:ByteArray) (a1:ByteArray) (r:Bool) (w:World) (h:spec_Match.f k a0 a1=some r) :
  Calls Tryd.prog 22 #[.string a0,.string a1] w fun e w'=>e = .returned (.bool r)∧Below w.heap.size w w':=by
 have HB:=Aside0.mk (Below.refl w.heap.size w);have H:((spec_ValidGlob.f k a0).bind fun a7=>(if a7=true then ((spec_ValidPath.f k a1).bind fun a5=>(if a5=true then ((spec_l4Parts.f k a0).bind fun a4=>((spec_l4Parts.f k a1).bind fun a3=>((spec_l4Match.f k a4 a3).bind fun a2=>(some a2)))) else (some false))) else (some false)))=some r:=h;clear h;replace H:=Option.bind_eq_some_iff.mp H;obtain ⟨a7,A30,H⟩:=H;replace H:(if a7=true then ((spec_ValidPath.f k a1).bind fun a5=>(if a5=true then ((spec_l4Parts.f k a0).bind fun a4=>((spec_l4Parts.f k a1).bind fun a3=>((spec_l4Match.f k a4 a3).bind fun a2=>(some a2)))) else (some false))) else (some false))=some r:=H;have A3:=Aside0.mk A30;clear A30
 by_cases c4:a7=true
 ·subst c4
  have H1:((spec_ValidPath.f k a1).bind fun a5=>(if a5=true then ((spec_l4Parts.f k a0).bind fun a4=>((spec_l4Parts.f k a1).bind fun a3=>((spec_l4Match.f k a4 a3).bind fun a2=>(some a2)))) else (some false)))=some r:=by rw [if_pos rfl] at H;exact H
  clear H;have H:=H1;clear H1;replace H:=Option.bind_eq_some_iff.mp H;obtain ⟨a5,A50,H⟩:=H;replace H:(if a5=true then ((spec_l4Parts.f k a0).bind fun a4=>((spec_l4Parts.f k a1).bind fun a3=>((spec_l4Match.f k a4 a3).bind fun a2=>(some a2)))) else (some false))=some r:=H;have A5:=Aside0.mk A50;clear A50
  by_cases c6:a5=true
  ·subst c6
   have H1:((spec_l4Parts.f k a0).bind fun a4=>((spec_l4Parts.f k a1).bind fun a3=>((spec_l4Match.f k a4 a3).bind fun a2=>(some a2))))=some r:=by rw [if_pos rfl] at H;exact H
   clear H;have H:=H1;clear H1;replace H:=Option.bind_eq_some_iff.mp H;obtain ⟨a4,A70,H⟩:=H;replace H:((spec_l4Parts.f k a1).bind fun a3=>((spec_l4Match.f k a4 a3).bind fun a2=>(some a2)))=some r:=H;have A7:=Aside0.mk A70;clear A70;replace H:=Option.bind_eq_some_iff.mp H;obtain ⟨a3,A80,H⟩:=H;replace H:((spec_l4Match.f k a4 a3).bind fun a2=>(some a2))=some r:=H;have A8:=Aside0.mk A80;clear A80;replace H:=Option.bind_eq_some_iff.mp H;obtain ⟨a2,A90,H⟩:=H;replace H:(some a2)=some r:=H;have A9:=Aside0.mk A90;clear A90;obtain rfl:=Option.some.inj H
   go_enter Tryd.func22,Tryd.ntmps22
   go_wp2_with (first|((with_reducible refine gc 24 rfl ?_);refine gl (some 6) _ (#[.string a0]) Tryd.func24 ?_;(with_reducible refine (spec_ValidGlob.calls k a0 true _ A3.out).mono ?_);rintro e w10 ⟨rfl,hb⟩;refine ⟨_,rfl,?_⟩;refine Ya1 (below_step (be HB.out) hb) ?_;clear HB;intro HB;(try clear hb);(try clear hb2);(try clear hk);(try clear hi))|(go_at_call 23;(with_reducible refine (spec_ValidPath.calls k a1 true _ A5.out).mono ?_);rintro e w11 ⟨rfl,hb⟩;refine Ya1 (below_step (be HB.out) hb) ?_;clear HB;intro HB;(try clear hb);(try clear hb2);(try clear hk);(try clear hi))|(go_at_call 79;(with_reducible refine (spec_l4Parts.calls k a0 a4 _ A7.out).mono ?_);rintro e w12 ⟨v555,rfl,ho0,hb⟩;refine Ya2 (Kd.R_lower ho0 (below_size (be HB.out))) (below_step (be HB.out) hb) ?_;clear HB;intro a6 HB;(try clear hb);(try clear hb2);(try clear hk);(try clear hi);(try clear ho0))|(go_at_call 79;(with_reducible refine (spec_l4Parts.calls k a1 a3 _ A8.out).mono ?_);rintro e w13 ⟨v558,rfl,ho0,hb⟩;refine Ya3 (Kd.R_elder' (kr a6.out) (Kd.R_base ho0) hb) (Kd.R_lower (Kd.R_new' ho0 (Kd.R_lt (kr a6.out))) (below_size (be HB.out))) (below_step (be HB.out) hb) ?_;clear a6 HB;intro a6 a8 HB;(try clear hb);(try clear hb2);(try clear hk);(try clear hi);(try clear ho0);obtain ⟨Ao14,co14,a9⟩:=Kd.R_slice a6.out;subst a9;obtain ⟨Ao15,co15,aa⟩:=Kd.R_slice a8.out;subst aa)|(go_at_call 84;(with_reducible refine (spec_l4Match.calls k _ _ a4 _ _ a3 a2 _ ?side1 ?side2 ?side3 ?side4 A9.out).mono ?_);(case side1=>repeat (first|exact (Kd.R_reads' a6.out).2.2|(with_reducible refine Kd.C_alloc ?_ _)|(with_reducible refine Kd.C_drewN ?_ _)|(with_reducible refine Kd.C_drew ?_)));(case side2=>exact (Kd.R_reads' a6.out).2.1);(case side3=>repeat (first|exact (Kd.R_reads' a8.out).2.2|(with_reducible refine Kd.C_alloc ?_ _)|(with_reducible refine Kd.C_drewN ?_ _)|(with_reducible refine Kd.C_drew ?_)));(case side4=>exact (Kd.R_reads' a8.out).2.1);rintro e w16 ⟨rfl,hb⟩;refine Ya3 (Kd.R_below (kr a6.out) hb) (Kd.R_below (kr a8.out) hb) (below_step (be HB.out) hb) ?_;clear a6 a8 HB;intro a6 a8 HB;(try clear hb);(try clear hb2);(try clear hk);(try clear hi)))
   go_ret
   exact ⟨Ye2,be HB.out⟩
  ·replace c6:=Bool.eq_false_iff.mpr c6;subst c6
   have H1:(some false)=some r:=by rw [if_neg (show ¬(false=true) by decide)] at H;exact H
   clear H;have H:=H1;clear H1;obtain rfl:=Option.some.inj H
   go_enter Tryd.func22,Tryd.ntmps22
   go_wp2_with (first|((with_reducible refine gc 24 rfl ?_);refine gl (some 6) _ (#[.string a0]) Tryd.func24 ?_;(with_reducible refine (spec_ValidGlob.calls k a0 true _ A3.out).mono ?_);rintro e w17 ⟨rfl,hb⟩;refine ⟨_,rfl,?_⟩;refine Ya1 (below_step (be HB.out) hb) ?_;clear HB;intro HB;(try clear hb);(try clear hb2);(try clear hk);(try clear hi))|(go_at_call 23;(with_reducible refine (spec_ValidPath.calls k a1 false _ A5.out).mono ?_);rintro e w18 ⟨rfl,hb⟩;refine Ya1 (below_step (be HB.out) hb) ?_;clear HB;intro HB;(try clear hb);(try clear hb2);(try clear hk);(try clear hi)))
   go_ret
   exact ⟨Ye2,be HB.out⟩
 ·replace c4:=Bool.eq_false_iff.mpr c4;subst c4
  have H1:(some false)=some r:=by rw [if_neg (show ¬(false=true) by decide)] at H;exact H
  clear H;have H:=H1;clear H1;obtain rfl:=Option.some.inj H
  go_enter Tryd.func22,Tryd.ntmps22
  go_wp2_with (first|((with_reducible refine gc 24 rfl ?_);refine gl (some 6) _ (#[.string a0]) Tryd.func24 ?_;(with_reducible refine (spec_ValidGlob.calls k a0 false _ A3.out).mono ?_);rintro e w19 ⟨rfl,hb⟩;refine ⟨_,rfl,?_⟩;refine Ya1 (below_step (be HB.out) hb) ?_;clear HB;intro HB;(try clear hb);(try clear hb2);(try clear hk);(try clear hi)))
  go_ret
  exact ⟨Ye2,be HB.out⟩

end Go.Proofs.YtknagppkeodggaaDoor.P


namespace Go.Proofs.YtknagppkeodggaaDoor.P
open Go.RowKit Go.Proofs.YtknagppkeodggaaDoorW.PrintWords Go.Proofs.YtknagppkeodggaaDoorW.PrintLast Go.Proofs.YtknagppkeodggaaDoorW.PrintMore
attribute [local go_sem] max2_int min2_int max_two min_two max_three min_three max_four min_four
set_option linter.unusedVariables false
set_option linter.unusedSimpArgs false

mutual
def spec_Pick.j0:Nat→List ByteArray→Bool→List (S27)→Option ((List (S27)))
 | 0,_,_,_=>none
 | k+1,x1,x17,aa=>if x17=true then (some ([]:List (S27))) else (spec_Pick.l0 k x1 0 aa ([]:List (S27)))
def spec_Pick.l0:Nat→List ByteArray→Int→List (S27)→List (S27)→Option ((List (S27)))
 | 0,_,_,_,_=>none
 | k+1,x1,x6,aa,ae=>if x6<(aa.length:Int) then (spec_Pick.l1 k x1 x6 false 0 aa ae) else (some ae)
def spec_Pick.l1:Nat→List ByteArray→Int→Bool→Int→List (S27)→List (S27)→Option ((List (S27)))
 | 0,_,_,_,_,_,_=>none
 | k+1,x1,x6,x7,x8,aa,ae=>if x8<(x1.length:Int) then (if x7=true then (spec_Pick.l1 k x1 x6 true (wrap64 (x8+1)) aa ae) else (if 0≤x8 then (if 0≤x6 then (if x6<(aa.length:Int) then ((spec_Match.f k (rdOf ByteArray.empty x1 x8) ((rd_T27 aa x6).f0)).bind fun ah=>(spec_Pick.l1 k x1 x6 ah (wrap64 (x8+1)) aa ae)) else (none)) else (none)) else (none))) else (if x7=true then (if 0≤x6 then (if x6<(aa.length:Int) then (if ae.length<3518437208883 then (spec_Pick.l0 k x1 (wrap64 (x6+1)) aa (ae ++ [(⟨(rd_T27 aa x6).f0,(rd_T27 aa x6).f1,(rd_T27 aa x6).f2⟩:S27)])) else (none)) else (none)) else (none)) else (spec_Pick.l0 k x1 (wrap64 (x6+1)) aa ae))
end
def spec_Pick.f (k:Nat) (a2:List (S27)) (l1:List ByteArray):Option ((List (S27))):=(spec_ValidTree.f k a2).bind fun ao=>(if ao=true then (spec_Pick.j0 k l1 (decide ((l1.length:Int)>20)) a2) else (spec_Pick.j0 k l1 true a2))
theorem spec_Pick.mono_l:∀ k,(∀ y0 y1 y2,LeO (spec_Pick.j0 k y0 y1 y2) (spec_Pick.j0 (k+1) y0 y1 y2))∧(∀ y0 y1 y2 y3,LeO (spec_Pick.l0 k y0 y1 y2 y3) (spec_Pick.l0 (k+1) y0 y1 y2 y3))∧(∀ y0 y1 y2 y3 y4 y5,LeO (spec_Pick.l1 k y0 y1 y2 y3 y4 y5) (spec_Pick.l1 (k+1) y0 y1 y2 y3 y4 y5))
 | 0=>⟨fun _ _ _ r h=>by simp [spec_Pick.j0] at h,fun _ _ _ _ r h=>by simp [spec_Pick.l0] at h,fun _ _ _ _ _ _ r h=>by simp [spec_Pick.l1] at h⟩
 | k + 1 => by
  obtain ⟨ih0,ih1,ih2⟩:=spec_Pick.mono_l k;refine ⟨?_,?_,?_⟩
  ·intro y0 y1 y2
   unfold spec_Pick.j0
   repeat' first
   | (with_reducible exact ih0 _ _ _)
   | (with_reducible exact ih1 _ _ _ _)
   | (with_reducible exact ih2 _ _ _ _ _ _)
   | (with_reducible exact spec_Match.mono _ _ _)
   | (with_reducible exact spec_ValidTree.mono _ _)
   | (with_reducible exact LeO.refl _)
   | (with_reducible exact LeO.none _)
   | (with_reducible refine LeO.ite ?_ ?_)
   | (with_reducible refine LeO.bind ?_ (fun _ => ?_))
   | exact ih0 _ _ _
   | exact ih1 _ _ _ _
   | exact ih2 _ _ _ _ _ _
   | exact spec_Match.mono _ _ _
   | exact spec_ValidTree.mono _ _
   | exact LeO.none _
   | refine LeO.ite ?_ ?_
   | refine LeO.bind ?_ (fun _ => ?_)
  ·intro y0 y1 y2 y3
   unfold spec_Pick.l0
   repeat' first
   | (with_reducible exact ih0 _ _ _)
   | (with_reducible exact ih1 _ _ _ _)
   | (with_reducible exact ih2 _ _ _ _ _ _)
   | (with_reducible exact spec_Match.mono _ _ _)
   | (with_reducible exact spec_ValidTree.mono _ _)
   | (with_reducible exact LeO.refl _)
   | (with_reducible exact LeO.none _)
   | (with_reducible refine LeO.ite ?_ ?_)
   | (with_reducible refine LeO.bind ?_ (fun _ => ?_))
   | exact ih0 _ _ _
   | exact ih1 _ _ _ _
   | exact ih2 _ _ _ _ _ _
   | exact spec_Match.mono _ _ _
   | exact spec_ValidTree.mono _ _
   | exact LeO.none _
   | refine LeO.ite ?_ ?_
   | refine LeO.bind ?_ (fun _ => ?_)
  ·intro y0 y1 y2 y3 y4 y5
   unfold spec_Pick.l1
   repeat' first
   | (with_reducible exact ih0 _ _ _)
   | (with_reducible exact ih1 _ _ _ _)
   | (with_reducible exact ih2 _ _ _ _ _ _)
   | (with_reducible exact spec_Match.mono _ _ _)
   | (with_reducible exact spec_ValidTree.mono _ _)
   | (with_reducible exact LeO.refl _)
   | (with_reducible exact LeO.none _)
   | (with_reducible refine LeO.ite ?_ ?_)
   | (with_reducible refine LeO.bind ?_ (fun _ => ?_))
   | exact ih0 _ _ _
   | exact ih1 _ _ _ _
   | exact ih2 _ _ _ _ _ _
   | exact spec_Match.mono _ _ _
   | exact spec_ValidTree.mono _ _
   | exact LeO.none _
   | refine LeO.ite ?_ ?_
   | refine LeO.bind ?_ (fun _ => ?_)
theorem spec_Pick.mono:∀ a0 a1 k,LeO (spec_Pick.f k a0 a1) (spec_Pick.f (k+1) a0 a1):=by
 intro a0 a1 k;obtain ⟨ih0,ih1,ih2⟩:=spec_Pick.mono_l k
 unfold spec_Pick.f
 repeat' first
   | (with_reducible exact ih0 _ _ _)
   | (with_reducible exact ih1 _ _ _ _)
   | (with_reducible exact ih2 _ _ _ _ _ _)
   | (with_reducible exact spec_Match.mono _ _ _)
   | (with_reducible exact spec_ValidTree.mono _ _)
   | (with_reducible exact LeO.refl _)
   | (with_reducible exact LeO.none _)
   | (with_reducible refine LeO.ite ?_ ?_)
   | (with_reducible refine LeO.bind ?_ (fun _ => ?_))
   | exact ih0 _ _ _
   | exact ih1 _ _ _ _
   | exact ih2 _ _ _ _ _ _
   | exact spec_Match.mono _ _ _
   | exact spec_ValidTree.mono _ _
   | exact LeO.none _
   | refine LeO.ite ?_ ?_
   | refine LeO.bind ?_ (fun _ => ?_)
def spec_Pick.T11:Bool×List (List Nat×List Nat):=(true,[([],[]),([0],[0]),([1],[1]),([1],[1]),([2,3,1],[1,2,3]),([4,1],[1,4]),([1],[1]),([6,1],[1,6]),([1],[1]),([7,8,1],[1,7,8]),([9,1],[1,9]),([10,1],[1,10]),([5,11,1,1],[1,5,11]),([1,12],[1,12]),([13,12,0,1,2,3,4,5,6,7,8,9,10,11,12,13],[0,13])])
def spec_Pick.B11:List Nat:=[0,1,3,3,15,31,3,67,3,451,963,1987,4095,8191,16383]
theorem spec_Pick.tab11:rtab .any (opsOf Tryd.f27 11)=spec_Pick.T11:=by kernel_rfl
theorem spec_Pick.bits11:waitsOk spec_Pick.T11.2 spec_Pick.B11=true:=by kernel_rfl
def spec_Pick.T13:Bool×List (List Nat×List Nat):=(true,[([],[]),([0],[0]),([],[]),([2],[2]),([],[]),([3,4],[3,4]),([5],[5]),([6],[6]),([1,7],[1,7]),([0,1,2,3,4,5,6,7,8],[]),([9,8,8,0,1,2,3,4,5,6,7,8],[8,9])])
def spec_Pick.B13:List Nat:=[0,1,0,4,0,28,60,124,255,511,1023]
theorem spec_Pick.tab13:rtab .any (opsOf Tryd.f27 13)=spec_Pick.T13:=by kernel_rfl
theorem spec_Pick.bits13:waitsOk spec_Pick.T13.2 spec_Pick.B13=true:=by kernel_rfl
set_option maxHeartbeats 8000000 in
set_option maxRecDepth 100000 in
theorem spec_Pick.calls (k : Nat) (af : Option Addr) (ab : Nat) (a2 : List (S27)) (A1 : Option Addr) (c1 : Nat) (l1 : List ByteArray) (r : List (S27)) (w : World) (bg : Kd.C k27 w af a2.length a2) (bh : a2.length ≤ ab) (hr1 : Kd.C Kd.string w A1 l1.length l1) (hc1 : l1.length ≤ c1) (h : spec_Pick.f k a2 l1 = some r) :
  Calls Tryd.prog 27 #[.agg #[.slice af a2.length ab],.slice A1 l1.length c1] w fun e w' => ∃ v0_:Value,e = .returned (.agg #[v0_])∧Kd.R k27 27 w' w.heap.size (fun _=>True) v0_ r∧Below w.heap.size w w':=by
 have hu25:=Tryd.underlying25;have hu27:=Tryd.underlying27;have az:=Aside0.mk bg;have bi:=Aside0.mk bh;clear bg bh;have HR1:=Aside0.mk hr1;have HC1:=Aside0.mk hc1;clear hr1 hc1;have HB:=Aside0.mk (Below.refl w.heap.size w);have H:((spec_ValidTree.f k a2).bind fun ao=>(if ao=true then (spec_Pick.j0 k l1 (decide ((l1.length:Int)>20)) a2) else (spec_Pick.j0 k l1 true a2)))=some r:=h;clear h;have aY:=Aside0.mk H;clear H
 go_enter Tryd.func27,Tryd.ntmps27
 go_upto_region 2 with (first|((with_reducible refine gd 2 rfl ?_);(try (refine gate_guard (by rfl) ?_;dsimp only));refine bx 2 25 (#[.slice af a2.length ab]) ?_;intro ap hg w4 hbox hb;refine Ya4 (below_step (be HB.out) hb) (hbox) (bs hg (be HB.out)) (bs hg (be HB.out)) ?_;clear HB;intro HB a4 GW607 GE607;clear hb hbox hg)|((with_reducible refine gd 4 rfl ?_);(try (refine gate_guard (by rfl) ?_;dsimp only));refine bx 4 25 (#[.slice none 0 0]) ?_;intro ai hg w5 hbox hb;refine Ya7 (bb a4 hb) (below_step (bf HB.out) hb) (hbox) (bs hg (bf HB.out)) (bs hg (bf HB.out)) (bl hg a4) (br hg a4) ?_;clear a4 HB;intro a4 HB a5 GW608 GE608 av aw;clear hb hbox hg)|((with_reducible refine gd 5 rfl ?_);(try (refine gate_guard (by rfl) ?_;dsimp only));refine bx 5 25 (#[.slice none 0 0]) ?_;intro ag hg w6 hbox hb;refine Ya10 (bb a4 hb) (bb a5 hb) (below_step (bf HB.out) hb) (hbox) (bs hg (bf HB.out)) (bs hg (bf HB.out)) (bl hg a4) (br hg a4) (bl hg a5) (br hg a5) ?_;clear a4 a5 HB;intro a4 a5 HB a6 GW609 GE609 ac aj ak aA;clear hb hbox hg;have hnb7:=aj.out;have hnc7:=ac.out;have hnb8:=aA.out;have hnc8:=ak.out;have ⟨aZ,b0⟩:=Yc1 a6.out))
 (try simp only [Act.put,List.setIfInBounds_toArray,List.set_cons_zero,List.set_cons_succ])
 go_cut [17] (fun v17 wc => ∃ (kq:Nat) (aC:Bool),v17 = .bool aC∧Aside0 (spec_Pick.j0 kq l1 aC a2=some r)∧Aside0 (kq≤k)∧Aside0 (wc.heap[ap]? = some (.cells #[(.slice af a2.length ab)] 25 (0,0)))∧Aside0 (wc.heap[ai]? = some (.cells #[(.slice none 0 0)] 25 (0,0)))∧Aside0 (wc.heap[ag]? = some (.cells #[(.slice none 0 0)] 25 (0,0)))∧Aside0 (Below w.heap.size w wc))
 case first =>
  have H:=aY.out;clear aY;replace H:=Option.bind_eq_some_iff.mp H;obtain ⟨ao,bj,H⟩:=H;replace H:(if ao=true then (spec_Pick.j0 k l1 (decide ((l1.length:Int)>20)) a2) else (spec_Pick.j0 k l1 true a2))=some r:=H;have A10:=Aside0.mk bj;clear bj
  by_cases al:ao=true
  ·subst al
   have H1:(spec_Pick.j0 k l1 (decide ((l1.length:Int)>20)) a2)=some r:=by rw [if_pos rfl] at H;exact H
   clear H;have H:=H1;clear H1;have H':=Aside0.mk H;clear H;have hnb12:=av.out;have hnc12:=aw.out;have hnb13:=ac.out;have hnc13:=aj.out;have ⟨b1,b2⟩:=Yc1 a4.out
   go_wp2_with (first|((with_reducible refine gc 39 rfl ?_);refine gl (some 11) _ (#[.agg #[.slice af a2.length ab]]) Tryd.func39 ?_;(with_reducible refine (spec_ValidTree.calls k _ _ a2 true _ ?side1 ?side2 A10.out).mono ?_);(case side1=>exact Kd.C_below az.out (bf HB.out));(case side2=>exact bi.out);rintro e w15 ⟨rfl,hb⟩;refine ⟨_,rfl,?_⟩;refine Ya4 (bbf a4 ac hb) (bbf a5 ak hb) (blk_below (g:=ag) (o:=.cells #[.slice none 0 0] 25 (0,0)) (bp a6.out) hb) (below_step (bf HB.out) hb) ?_;clear a4 a5 a6 HB;intro a4 a5 a6 HB;(try clear hb);(try clear hb2);(try clear hk);(try clear hi)))
   go_meet
   case rel=>exact ⟨_,(decide ((l1.length:Int)>20)),Ye1,H',⟨by first|omega|exact Nat.le_refl _⟩,⟨bk a4.out⟩,⟨bk a5.out⟩,⟨bk a6.out⟩,⟨bf HB.out⟩⟩
  ·replace al:=Bool.eq_false_iff.mpr al;subst al
   have H1:(spec_Pick.j0 k l1 true a2)=some r:=by rw [if_neg (show ¬(false=true) by decide)] at H;exact H
   clear H;have H:=H1;clear H1;have H':=Aside0.mk H;clear H;have hnb16:=av.out;have hnc16:=aw.out;have hnb17:=ac.out;have hnc17:=aj.out;have ⟨b3,b4⟩:=Yc1 a4.out
   go_wp2_with (first|((with_reducible refine gc 39 rfl ?_);refine gl (some 11) _ (#[.agg #[.slice af a2.length ab]]) Tryd.func39 ?_;(with_reducible refine (spec_ValidTree.calls k _ _ a2 false _ ?side1 ?side2 A10.out).mono ?_);(case side1=>exact Kd.C_below az.out (bf HB.out));(case side2=>exact bi.out);rintro e w19 ⟨rfl,hb⟩;refine ⟨_,rfl,?_⟩;refine Ya4 (bbf a4 ac hb) (bbf a5 ak hb) (blk_below (g:=ag) (o:=.cells #[.slice none 0 0] 25 (0,0)) (bp a6.out) hb) (below_step (bf HB.out) hb) ?_;clear a4 a5 a6 HB;intro a4 a5 a6 HB;(try clear hb);(try clear hb2);(try clear hk);(try clear hi)))
   go_meet
   case rel=>exact ⟨_,(true),Ye1,H',⟨by first|omega|exact Nat.le_refl _⟩,⟨bk a4.out⟩,⟨bk a5.out⟩,⟨bk a6.out⟩,⟨bf HB.out⟩⟩
 case rest =>
  clear aY;(try clear c1);(try clear c2);(try clear p2);(try clear c3);(try clear c7);(try clear c8);(try clear al);(try clear c12);(try clear c13);(try clear c16);(try clear c17);(try clear b1);(try clear b3);(try clear aZ);(try clear b2);(try clear b4);(try clear b0);obtain ⟨kq,aC,rfl,HA,HJ2,a4,a5,a6,HB⟩:=hcut
  cases kq with
  | zero=>exact absurd HA.out (by simp [spec_Pick.j0])
  | succ b5 =>
   have H:=HA.out;clear HA;simp only [spec_Pick.j0] at H
   by_cases aq:aC=true
   ·subst aq
    have H1:(some ([]:List (S27)))=some r:=by rw [if_pos rfl] at H;exact H
    clear H;have H:=H1;clear H1;obtain rfl:=Option.some.inj H;have hnb21:=aj.out;have hnc21:=ac.out;have hnb22:=aA.out;have hnc22:=ak.out;have ⟨bm,bn⟩:=Yc1 a6.out;have hnb24:=aw.out;have hnc24:=av.out;have ⟨bo,bq⟩:=Yc1 a5.out
    go_wp2
    refine bodyPost_ret (results_cell_row rfl _ _ ai 25 #[.slice none 0 0] (0,0) _ rfl (bp a5.out) Tryd.underlying25 rfl (by kernel_rfl)) rfl ?_;exact ⟨_,Ye2,nl,(bf HB.out)⟩
   ·replace aq := Bool.eq_false_iff.mpr aq; subst aq
    have H1:(spec_Pick.l0 b5 l1 0 a2 ([]:List (S27)))=some r:=by rw [if_neg (show ¬(false=true) by decide)] at H;exact H
    clear H;have H:=H1;clear H1;have H':=Aside0.mk H;clear H
    go_wp2
    go_loopg [6] b5 (fun kq v6 w' => ∃ (a3:Int) (a9:List (S27)) (ad:Value),v6 = .int .i64 a3∧Aside0 (spec_Pick.l0 kq l1 a3 a2 a9=some r)∧Aside0 (kq≤b5)∧Aside0 (Kd.R k27 27 w' w.heap.size (fun _=>True) ad a9)∧Aside0 (w'.heap[ap]? = some (.cells #[(.slice af a2.length ab)] 25 (0,0)))∧Aside0 (w'.heap[ai]? = some (.cells #[(.slice none 0 0)] 25 (0,0)))∧Aside0 (w'.heap[ag]? = some (.cells #[ad] 25 (0,0)))∧Aside0 (Below w.heap.size w w'))
    case atStart=>exact ⟨(0),(([]:List (S27))),(.slice none 0 0),Ye1,H',⟨Nat.le_refl _⟩,⟨nl⟩,⟨bk a4.out⟩,⟨bk a5.out⟩,⟨bk a6.out⟩,⟨bf HB.out⟩⟩
    case round =>
     clear H';(try clear c1);(try clear c2);(try clear p2);(try clear c3);(try clear c7);(try clear c8);(try clear al);(try clear c12);(try clear c13);(try clear c16);(try clear c17);(try clear aq);(try clear c21);(try clear c22);(try clear c24);(try clear b1);(try clear b3);(try clear bm);(try clear bo);(try clear aZ);(try clear b2);(try clear b4);(try clear bn);(try clear bq);(try clear b0);(try clear p2);obtain ⟨a3,a9,ad,rfl,HA,HK2,a7,a4,a5,a6,HB⟩:=hrel
     cases gk with
     | zero=>exact absurd HA.out (by simp [spec_Pick.l0])
     | succ k2 =>
      have H:=HA.out;clear HA;simp only [spec_Pick.l0] at H
      by_cases am:a3<(a2.length:Int)
      ·rw [if_pos am] at H
       have bu:decide (a3<(a2.length:Int))=true:=decide_eq_true am;clear am;have H':=Aside0.mk H;clear H;have hnb27:=av.out;have hnc27:=aw.out;have hnb28:=ac.out;have hnc28:=aj.out;have ⟨bE,bF⟩:=Yc1 a4.out
       go_wp2
       go_loopg [7,8] k2 (fun kq v7 v8 w' => ∃ (ax:Bool) (a8:Int),v7 = .bool ax∧v8 = .int .i64 a8∧Aside0 (spec_Pick.l1 kq l1 a3 ax a8 a2 a9=some r)∧Aside0 (kq≤k2)∧Aside0 (Kd.R k27 27 w' w.heap.size (fun _=>True) ad a9)∧Aside0 (w'.heap[ap]? = some (.cells #[(.slice af a2.length ab)] 25 (0,0)))∧Aside0 (w'.heap[ai]? = some (.cells #[(.slice none 0 0)] 25 (0,0)))∧Aside0 (w'.heap[ag]? = some (.cells #[ad] 25 (0,0)))∧Aside0 (Below w.heap.size w w'))
       case atStart=>exact ⟨(false),(0),Ye1,Ye1,H',⟨Nat.le_refl _⟩,⟨kr a7.out⟩,⟨bk a4.out⟩,⟨bk a5.out⟩,⟨bk a6.out⟩,⟨bf HB.out⟩⟩
       case round =>
        clear H';(try clear c1);(try clear c2);(try clear p2);(try clear c3);(try clear c7);(try clear c8);(try clear al);(try clear c12);(try clear c13);(try clear c16);(try clear c17);(try clear aq);(try clear c21);(try clear c22);(try clear c24);(try clear am);(try clear bu);(try clear c27);(try clear c28);(try clear b1);(try clear b3);(try clear bm);(try clear bo);(try clear bE);(try clear aZ);(try clear b2);(try clear b4);(try clear bn);(try clear bq);(try clear bF);(try clear b0);(try clear p2);obtain ⟨ax,a8,rfl,rfl,HA,HK3,a7,a4,a5,a6,HB⟩:=hrel
        cases gk with
        | zero=>exact absurd HA.out (by simp [spec_Pick.l1])
        | succ k3 =>
         have H:=HA.out;clear HA;simp only [spec_Pick.l1] at H
         by_cases ar:a8<(l1.length:Int)
         ·rw [if_pos ar] at H
          have bG:decide (a8<(l1.length:Int))=true:=decide_eq_true ar;clear ar
          by_cases aD:ax=true
          ·subst aD
           have H1:(spec_Pick.l1 k3 l1 a3 true (wrap64 (a8+1)) a2 a9)=some r:=by rw [if_pos rfl] at H;exact H
           clear H;have H:=H1;clear H1;have H':=Aside0.mk H;clear H
           try go_wp2
           refine Ya5 (Kd.R_drew a7.out) (blk_drew a4.out) (blk_drew a5.out) (blk_drew a6.out) (below_drew1 HB.out) ?_;clear a7 a4 a5 a6 HB;intro a7 a4 a5 a6 HB;refine start_ (n:=15) (S:=fun w'=>True) (ds:=[]) (fb 15 0) (by kernel_rfl) rfl rfl trivial (fun hHeld => ?_);refine with_tabW spec_Pick.tab11 spec_Pick.bits11 (fun HT_ HW_ => ?_);generalize wr.drew=w32 at a7 a4 a5 a6 HB hHeld ⊢; refine pu 0 32 (fb 15 1) HT_ ?_;refine pu 1 33 (fb 15 3) HT_ ?_;refine pn 2 34 (fb 15 7) HT_ ?_;refine pn 3 35 (fb 15 15) HT_ ?_;refine pn 4 36 (fb 15 31) HT_ ?_;refine pn 5 37 (fb 15 63) HT_ ?_;refine pn 6 38 (fb 15 127) HT_ ?_;refine pn 7 39 (fb 15 255) HT_ ?_;refine pn 8 40 (fb 15 511) HT_ ?_;refine pn 9 41 (fb 15 1023) HT_ ?_;refine pn 10 42 (fb 15 2047) HT_ ?_;refine pn 11 43 (fb 15 4095) HT_ ?_;refine pn 12 44 (fb 15 8191) HT_ ?_;refine pu 13 45 (fb 15 16383) HT_ ?_;refine pu 14 7 (fb 15 32767) HT_ ?_;refine done_ (done_of HT_.out (by kernel_rfl)) ?_
           try go_wp2
           go_roundg k3
           case measure=>have:=HJ2.out;have:=HK2.out;have:=HK3.out;omega
           case rel=>exact ⟨(true),(wrap64 (a8+1)),Ye1,Ye1,H',⟨by have:=HJ2.out;have:=HK2.out;have:=HK3.out;omega⟩,⟨kr a7.out⟩,⟨bk a4.out⟩,⟨bk a5.out⟩,⟨bk a6.out⟩,⟨bf HB.out⟩⟩
          ·replace aD:=Bool.eq_false_iff.mpr aD;subst aD
           have H1:(if 0≤a8 then (if 0≤a3 then (if a3<(a2.length:Int) then ((spec_Match.f k3 (rdOf ByteArray.empty l1 a8) ((rd_T27 a2 a3).f0)).bind fun ah=>(spec_Pick.l1 k3 l1 a3 ah (wrap64 (a8+1)) a2 a9)) else (none)) else (none)) else (none))=some r:=by rw [if_neg (show ¬(false=true) by decide)] at H;exact H
           clear H;have H:=H1;clear H1
           by_cases aE:0≤a8
           ·rw [if_pos aE] at H
            have c33b0:decide (0≤a8)=true:=decide_eq_true aE;clear aE
            by_cases aG:0≤a3
            ·rw [if_pos aG] at H
             have c34b0:decide (0≤a3)=true:=decide_eq_true aG;clear aG
             by_cases aH:a3<(a2.length:Int)
             ·rw [if_pos aH] at H
              have c35b0:decide (a3<(a2.length:Int))=true:=decide_eq_true aH;clear aH;replace H:=Option.bind_eq_some_iff.mp H;obtain ⟨ah,bv,H⟩:=H;replace H:(spec_Pick.l1 k3 l1 a3 ah (wrap64 (a8+1)) a2 a9)=some r:=H;have A36:=Aside0.mk bv;clear bv;have H':=Aside0.mk H;clear H
              try go_wp2
              refine Ya5 (Kd.R_drew a7.out) (blk_drew a4.out) (blk_drew a5.out) (blk_drew a6.out) (below_drew1 HB.out) ?_;clear a7 a4 a5 a6 HB;intro a7 a4 a5 a6 HB;have b6:0≤(a8:Int):=oda;have b7:a8<(l1.length:Int):=oda;obtain ⟨bH,bI,aI⟩:=Kd.at_string HR1.out a8 b6 b7;have hw611_0:=aI
              cases bI
              replace aI:=pw_cell_below HB.out aI;replace b6:=eq_true b6;replace b7:=eq_true b7;have b8:0≤(a3:Int):=oda;have b9:a3<(a2.length:Int):=oda;obtain ⟨au,bJ,aJ,aK,aM⟩:=at_T27 az.out a3 b8 b9;have hw612_2:=aM;have hw612_1:=aK;have hw612_0:=aJ
              cases bJ
              replace aJ:=pw_cell_below HB.out aJ;replace aK:=pw_cell_below HB.out aK;replace aM:=pw_cell_below HB.out aM;replace b8:=eq_true b8;replace b9:=eq_true b9;refine start_ (n:=15) (S:=fun w'=>w'.cell? ⟨ap,0,none⟩=some (.slice (some au) a2.length ab)∧w'.cell? (bH.add (a8).toNat)=some (.string (rdOf ByteArray.empty l1 a8))∧w'.cell? (au.add ((a3).toNat*3))=some (.string ((rd_T27 a2 a3).f0))∧w'.cell? ⟨(au.add ((a3).toNat*3)).block,(au.add ((a3).toNat*3)).off+1,none⟩=some (.string ((rd_T27 a2 a3).f1))∧w'.cell? ⟨(au.add ((a3).toNat*3)).block,(au.add ((a3).toNat*3)).off+2,none⟩=some (.bool ((rd_T27 a2 a3).f2))) (ds:=[]) (fb 15 0) (by kernel_rfl) rfl rfl ⟨bc a4 0,(pw_cell_below HB.out hw611_0),(pw_cell_below HB.out hw612_0),(pw_cell_below HB.out hw612_1),(pw_cell_below HB.out hw612_2)⟩ (fun hHeld => ?_);refine with_tabW spec_Pick.tab11 spec_Pick.bits11 (fun HT_ HW_ => ?_);generalize wr.drew=w37 at a7 a4 a5 a6 HB aI aJ aK aM hHeld ⊢; refine pu 0 32 (fb 15 1) HT_ ?_;refine pu 1 33 (fb 15 3) HT_ ?_;refine pu 2 34 (fb 15 7) HT_ ?_;refine pu 3 35 (fb 15 15) HT_ ?_;refine pu 4 36 (fb 15 31) HT_ ?_;refine pu 6 38 (fb 15 95) HT_ ?_;refine pu 8 40 (fb 15 351) HT_ ?_;refine tk 5 37 (fb 15 383) HT_ HW_ hHeld ?_;refine tk 7 39 (fb 15 511) HT_ HW_ hHeld ?_;refine pu 9 41 (fb 15 1023) HT_ ?_;refine pu 10 42 (fb 15 2047) HT_ ?_;refine tk 11 43 (fb 15 4095) HT_ HW_ hHeld ?_;refine o1 12 (some 44) (fb 15 8191) HT_ (fun K hK => ?_);refine gs _ (#[.string (rdOf ByteArray.empty l1 a8),.string ((rd_T27 a2 a3).f0)]) Tryd.func22 ?_;(with_reducible refine (spec_Match.calls k3 (rdOf ByteArray.empty l1 a8) ((rd_T27 a2 a3).f0) ah _ A36.out).mono ?_);rintro e w38 ⟨rfl,hb⟩;refine ⟨_,rfl,?_⟩;refine Ya5 (Kd.R_below (kr a7.out) hb) (bb a4 hb) (bb a5 hb) (bb a6 hb) (below_step (bf HB.out) hb) ?_;clear a7 a4 a5 a6 HB;intro a7 a4 a5 a6 HB;(try clear hb);(try clear hb2);(try clear hk);(try clear hi);refine hK.out _ _ ⟨bc a4 0,(pw_cell_below HB.out hw611_0),(pw_cell_below HB.out hw612_0),(pw_cell_below HB.out hw612_1),(pw_cell_below HB.out hw612_2)⟩ (fun hHeld => ?_);clear hK K;refine nm 44 ?_;refine pu 13 45 (fb 15 16383) HT_ ?_;refine pu 14 7 (fb 15 32767) HT_ ?_;refine done_ (done_of HT_.out (by kernel_rfl)) ?_
              try go_wp2
              go_roundg k3
              case measure=>have:=HJ2.out;have:=HK2.out;have:=HK3.out;omega
              case rel=>exact ⟨(ah),(wrap64 (a8+1)),Ye1,Ye1,H',⟨by have:=HJ2.out;have:=HK2.out;have:=HK3.out;omega⟩,⟨kr a7.out⟩,⟨bk a4.out⟩,⟨bk a5.out⟩,⟨bk a6.out⟩,⟨bf HB.out⟩⟩
             ·rw [if_neg aH] at H
              exact absurd H (by simp)
            ·rw [if_neg aG] at H
             exact absurd H (by simp)
           ·rw [if_neg aE] at H
            exact absurd H (by simp)
         ·rw [if_neg ar] at H
          have bG:decide (a8<(l1.length:Int))=false:=decide_eq_false ar;clear ar
          by_cases aN:ax=true
          ·subst aN
           have H1:(if 0≤a3 then (if a3<(a2.length:Int) then (if a9.length<3518437208883 then (spec_Pick.l0 k3 l1 (wrap64 (a3+1)) a2 (a9 ++ [(⟨(rd_T27 a2 a3).f0,(rd_T27 a2 a3).f1,(rd_T27 a2 a3).f2⟩:S27)])) else (none)) else (none)) else (none))=some r:=by rw [if_pos rfl] at H;exact H
           clear H;have H:=H1;clear H1
           by_cases aQ:0≤a3
           ·rw [if_pos aQ] at H
            have c40b0:decide (0≤a3)=true:=decide_eq_true aQ;clear aQ
            by_cases aR:a3<(a2.length:Int)
            ·rw [if_pos aR] at H
             have c41b0:decide (a3<(a2.length:Int))=true:=decide_eq_true aR;clear aR
             by_cases aT:a9.length<3518437208883
             ·rw [if_pos aT] at H
              have bK:=Aside0.mk aT;clear aT
              obtain ⟨aU,ay⟩:∃ y_:List (S27),y_=(a9 ++ [(⟨(rd_T27 a2 a3).f0,(rd_T27 a2 a3).f1,(rd_T27 a2 a3).f2⟩:S27)]):=⟨_,rfl⟩
              replace H:(spec_Pick.l0 k3 l1 (wrap64 (a3+1)) a2 aU)=some r:=by first|(rw [ay];with_reducible exact H)|(have H2_:=(Option.bind_some _ _).symm.trans H;rw [ay];with_reducible exact H2_)|(have H2_:=(Option.bind_some _ _).symm.trans H;with_reducible exact H2_)|with_reducible exact H|(rw [ay];exact H)|exact H
              have bL:=Aside0.mk ay;clear ay;have H':=Aside0.mk H;clear H
              try go_wp2
              refine Ya5 (Kd.R_drew a7.out) (blk_drew a4.out) (blk_drew a5.out) (blk_drew a6.out) (below_drew1 HB.out) ?_;clear a7 a4 a5 a6 HB;intro a7 a4 a5 a6 HB;have ba:0≤(a3:Int):=oda;have bd:a3<(a2.length:Int):=oda;obtain ⟨an,bM,aV,aW,aX⟩:=at_T27 az.out a3 ba bd;have hw614_2:=aX;have hw614_1:=aW;have hw614_0:=aV
              cases bM
              replace aV:=pw_cell_below HB.out aV;replace aW:=pw_cell_below HB.out aW;replace aX:=pw_cell_below HB.out aX;replace ba:=eq_true ba;replace bd:=eq_true bd;refine start_ (n:=11) (S:=fun w'=>w'.cell? ⟨ag,0,none⟩=some (ad)∧w'.cell? ⟨ap,0,none⟩=some (.slice (some an) a2.length ab)∧w'.cell? (an.add ((a3).toNat*3))=some (.string ((rd_T27 a2 a3).f0))∧w'.cell? ⟨(an.add ((a3).toNat*3)).block,(an.add ((a3).toNat*3)).off+1,none⟩=some (.string ((rd_T27 a2 a3).f1))∧w'.cell? ⟨(an.add ((a3).toNat*3)).block,(an.add ((a3).toNat*3)).off+2,none⟩=some (.bool ((rd_T27 a2 a3).f2))) (ds:=[10]) (fb 11 0) (by kernel_rfl) rfl rfl ⟨bc a6 0,bc a4 0,(pw_cell_below HB.out hw614_0),(pw_cell_below HB.out hw614_1),(pw_cell_below HB.out hw614_2)⟩ (fun hHeld => ?_);refine with_tabW spec_Pick.tab13 spec_Pick.bits13 (fun HT_ HW_ => ?_);generalize wr.drew=w43 at a7 a4 a5 a6 HB aV aW aX hHeld ⊢; refine pu 0 47 (fb 11 1) HT_ ?_;refine pu 2 49 (fb 11 5) HT_ ?_;refine pu 4 51 (fb 11 21) HT_ ?_;refine tk 1 48 (fb 11 23) HT_ HW_ hHeld ?_;refine tk 3 50 (fb 11 31) HT_ HW_ hHeld ?_;refine pu 5 52 (fb 11 63) HT_ ?_;refine tk 6 53 (fb 11 127) HT_ HW_ hHeld ?_;refine o1 7 (some 54) (fb 11 255) HT_ (fun K hK => ?_);refine value_ (w1:=?_) (v:=?_) (by rfl) rfl ?_ ?_;rotate_left 2
              ·go_simp
               constructor
               ·rfl
               ·rfl
              refine hK.out _ _ ⟨(blk_cell (blk_alloc a6.out _) 0).trans rfl,(blk_cell (blk_alloc a4.out _) 0).trans rfl,(World.cell?_alloc_lt _ _ _ (World.block_lt_of_cell? _ _ ((pw_cell_below HB.out hw614_0)))).trans ((pw_cell_below HB.out hw614_0)),(World.cell?_alloc_lt _ _ _ (World.block_lt_of_cell? _ _ ((pw_cell_below HB.out hw614_1)))).trans ((pw_cell_below HB.out hw614_1)),(World.cell?_alloc_lt _ _ _ (World.block_lt_of_cell? _ _ ((pw_cell_below HB.out hw614_2)))).trans ((pw_cell_below HB.out hw614_2))⟩ (fun hHeld => ?_);clear hK K;refine nm 54 ?_;refine o1 8 (some 55) (fb 11 511) HT_ (fun K hK => ?_);refine Kd.R_append_step k27 (w0:=w) w.heap.size (by rfl) (.tmp 48) (.tmp 54) 23 27 (.agg #[(.string ⟨#[]⟩),(.string ⟨#[]⟩),(.bool false)]) 40 rfl Tryd.underlying23 info27 rfl (by decide) (by omega) ad a9 (⟨(rd_T27 a2 a3).f0,(rd_T27 a2 a3).f1,(rd_T27 a2 a3).f2⟩:S27) [.string ((rd_T27 a2 a3).f0),.string ((rd_T27 a2 a3).f1),.bool ((rd_T27 a2 a3).f2)] (fun _=>True) (fun _=>False) rfl rfl ?aP (fun _ hk=>hk.elim) ?aF ?aO ?aB ?aS ?aL ?_;(case aP=>exact k27_mkM _ _ _ (⟨(rd_T27 a2 a3).f0,(rd_T27 a2 a3).f1,(rd_T27 a2 a3).f2⟩:S27));(case aB=>exact (bf HB.out));(case aF=>exact (fun _ _=>trivial));(case aO=>exact (kr a7.out));(case aS=>exact (below_size (bf HB.out)));(case aL=>have:=bK.out;omega);intro v616 w44 ho hb hg hat
              rw [←bL.out] at ho
              refine Ya5 (blk_grown (g:=ap) (o:=.cells #[.slice (some an) a2.length ab] 25 (0,0)) (bk a4.out) hg (Kd.R_ne a7.out a4.out (by decide))) (blk_grown (g:=ai) (o:=.cells #[.slice none 0 0] 25 (0,0)) (bk a5.out) hg (Kd.R_ne a7.out a5.out (by decide))) (blk_grown (g:=ag) (o:=.cells #[ad] 25 (0,0)) (bk a6.out) hg (Kd.R_ne a7.out a6.out (by decide))) (hb) (ho) ?_;clear a4 a5 a6 HB a7;intro a4 a5 a6 HB bw;clear ho hb hg hat;obtain ⟨bz,bA,bB⟩:=Kd.R_slice bw.out;(first|subst bB|(injection bB with f1_ f2_ f3_;have f4_:=f1_.symm;have f5_:=f3_.symm;clear f1_ f2_ f3_;subst f4_;subst f5_));refine hK.out _ _ ⟨bc a6 0,bc a4 0,(pw_cell_below HB.out hw614_0),(pw_cell_below HB.out hw614_1),(pw_cell_below HB.out hw614_2)⟩ (fun hHeld => ?_);clear hK K;refine nm 55 ?_;refine pu 9 56 (fb 11 1023) HT_ ?_;refine last_ (i:=10) (N:=none) (fb 11 2047) rfl rfl (one_of HT_.out (by kernel_rfl)) (by decide) (fun K hK => ?_);have ⟨hs46,hfs46⟩:=Yc1 a6.out;have bO:=ac.out;have bP:=ak.out;have bQ:=aj.out;have bR:=aA.out;refine skip_ (w1:=?_) (by rfl) rfl ?_ ?_;rotate_left
              ·go_simp;rfl
              refine hK.out _ _ ?_;clear hK K;refine done_ (done_of HT_.out (by kernel_rfl)) ?_
              try go_wp2
              go_roundg k3
              case measure=>have:=HJ2.out;have:=HK2.out;have:=HK3.out;omega
              case rel=>exact ⟨(wrap64 (a3+1)),(aU),(.slice bz aU.length bA),Ye1,H',⟨by have:=HJ2.out;have:=HK2.out;have:=HK3.out;omega⟩,⟨by (with_reducible repeat (first|apply Kd.R_alloc|apply Kd.R_drewN|apply Kd.R_drew));exact Kd.R_mono (Kd.R_far (p:=⟨ag,0,none⟩) (Kd.R_types bw.out a6.out (by decide)) (fun _ hk=>hk.2) (.slice bz aU.length bA)) (fun _ hk=>trivial)⟩,⟨bkf a4.out ac.out⟩,⟨bkf a5.out ak.out⟩,⟨bp a6.out⟩,⟨bf HB.out⟩⟩
             ·rw [if_neg aT] at H
              exact absurd H (by simp)
            ·rw [if_neg aR] at H
             exact absurd H (by simp)
           ·rw [if_neg aQ] at H
            exact absurd H (by simp)
          ·replace aN:=Bool.eq_false_iff.mpr aN;subst aN
           have H1:(spec_Pick.l0 k3 l1 (wrap64 (a3+1)) a2 a9)=some r:=by rw [if_neg (show ¬(false=true) by decide)] at H;exact H
           clear H;have H:=H1;clear H1;have H':=Aside0.mk H;clear H
           go_wp2
           go_roundg k3
           case measure=>have:=HJ2.out;have:=HK2.out;have:=HK3.out;omega
           case rel=>exact ⟨(wrap64 (a3+1)),(a9),(ad),Ye1,H',⟨by have:=HJ2.out;have:=HK2.out;have:=HK3.out;omega⟩,⟨kr a7.out⟩,⟨bk a4.out⟩,⟨bk a5.out⟩,⟨bk a6.out⟩,⟨bf HB.out⟩⟩
      ·rw [if_neg am] at H
       have bu:decide (a3<(a2.length:Int))=false:=decide_eq_false am;clear am;obtain rfl:=Option.some.inj H;have hnb47:=av.out;have hnc47:=aw.out;have hnb48:=ac.out;have hnc48:=aj.out;have ⟨bS,bT⟩:=Yc1 a4.out;have hnb50:=aA.out;have hnc50:=ak.out;have ⟨bU,bV⟩:=Yc1 a6.out;obtain ⟨bC,bD,bN⟩:=Kd.R_slice a7.out;subst bN;have ⟨bW,bX⟩:=Yc1 a5.out
       go_wp2
       refine bodyPost_ret (results_cell_row rfl _ _ ai 25 #[.slice bC a9.length bD] (0,0) _ rfl (bp a5.out) Tryd.underlying25 rfl (by kernel_rfl)) rfl ?_;exact ⟨_,Ye2,by (with_reducible repeat (first|apply Kd.R_alloc|apply Kd.R_drewN|apply Kd.R_drew));exact Kd.R_mono (Kd.R_far (p:=⟨ai,0,none⟩) (Kd.R_types a7.out a5.out (by decide)) (fun _ hk=>hk.2) (.slice bC a9.length bD)) (fun _ hk=>trivial),(bf HB.out)⟩

end Go.Proofs.YtknagppkeodggaaDoor.P

