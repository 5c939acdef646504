/- Several texts of this claim in one file: YtknagppkeodggaaDoorPSpecL5Draw, YtknagppkeodggaaDoorPSpecL5Spoil, YtknagppkeodggaaDoorPSpecL5Any, YtknagppkeodggaaDoorPSpecDrawPick. -/
import Derived.Test.YtknagppkeodggaaDoorM2
import Derived.Test.YtknagppkeodggaaDoorM3
import Derived.Test.YtknagppkeodggaaDoorM4
import Derived.Test.YtknagppkeodggaaDoorM8
import Derived.Test.YtknagppkeodggaaDoorM5
import Derived.Test.YtknagppkeodggaaDoorM7
namespace Go.Proofs.YtknagppkeodggaaDoor.P
open Go.RowKit Go.Proofs.YtknagppkeodggaaDoorW.PrintWords Go.Proofs.YtknagppkeodggaaDoorW.PrintLast Go.Proofs.YtknagppkeodggaaDoorW.PrintMore
attribute [local go_sem] max2_int min2_int max_two min_two max_three min_three max_four min_four
set_option linter.unusedVariables false
set_option linter.unusedSimpArgs false

mutual
def spec_l5Draw.l0:Nat→Int→List Int→Int→List (S27)→Option ((List (S27))×Int)
 | 0,_,_,_,_=>none
 | k+1,x4,b4,bm,b7=>if x4>0 then ((spec_l4Path.f k b4 bm).bind fun bt190=>((spec_l1Text.f k b4 bt190.2).bind fun bt192=>((spec_l1Rd_pick.f k b4 bt192.2 4).bind fun bt194=>((spec_Put.f k b7 bt190.1 bt192.1 (bt194.1==0)).bind fun bt196=>(if bt196.2=0 then (spec_l5Draw.l0 k (wrap64 (x4 - 1)) b4 bt194.2 bt196.1) else (spec_l5Draw.l0 k (wrap64 (x4 - 1)) b4 bt194.2 b7)))))) else ((spec_l1Rd_pick.f k b4 bm 16).bind fun bt201=>(if bt201.1=0 then ((spec_l1Rd_pick.f k b4 bt201.2 3).bind fun bt203=>(spec_l5Draw.l1 k (wrap64 (100 - bt203.1)) 0 b4 bt203.2 b7)) else (some (b7,bt201.2))))
def spec_l5Draw.l1:Nat→Int→Int→List Int→Int→List (S27)→Option ((List (S27))×Int)
 | 0,_,_,_,_,_=>none
 | k+1,x7,x8,b4,bm,b7=>if (b7.length:Int)<x7 then ((some (([(wrap64 (97+(wrap64 (Int.tdiv x8 26)))) % 256,(wrap64 (97+(Int.tmod x8 26))) % 256]:List Int):List Int)).bind fun b5=>(if 1+(strOfNums b5).size≤9223372036854775807 then ((spec_l5Set.f k b7 ((⟨#[122]⟩:ByteArray)++(strOfNums b5)) (⟨#[]⟩:ByteArray) false).bind fun b6=>(spec_l5Draw.l1 k x7 (wrap64 (x8+1)) b4 bm b6)) else (none))) else (some (b7,bm))
end
def spec_l5Draw.f (k:Nat) (s0_0:List Int) (s0_1:Int):Option ((List (S27))×Int):=(spec_l1Rd_pick.f k s0_0 s0_1 8).bind fun bt188=>(spec_l5Draw.l0 k bt188.1 s0_0 bt188.2 ([]:List (S27)))
theorem spec_l5Draw.mono_l:∀ k,(∀ y0 y1 y2 y3,LeO (spec_l5Draw.l0 k y0 y1 y2 y3) (spec_l5Draw.l0 (k+1) y0 y1 y2 y3))∧(∀ y0 y1 y2 y3 y4,LeO (spec_l5Draw.l1 k y0 y1 y2 y3 y4) (spec_l5Draw.l1 (k+1) y0 y1 y2 y3 y4))
 | 0=>⟨fun _ _ _ _ r h=>by simp [spec_l5Draw.l0] at h,fun _ _ _ _ _ r h=>by simp [spec_l5Draw.l1] at h⟩
 | k + 1 => by
  obtain ⟨ih0,ih1⟩:=spec_l5Draw.mono_l k;refine ⟨?_,?_⟩
  ·intro y0 y1 y2 y3
   unfold spec_l5Draw.l0
   repeat' first
   | (with_reducible exact ih0 _ _ _ _)
   | (with_reducible exact ih1 _ _ _ _ _)
   | (with_reducible exact spec_Put.mono _ _ _ _ _)
   | (with_reducible exact spec_l1Rd_pick.mono _ _ _ _)
   | (with_reducible exact spec_l1Text.mono _ _ _)
   | (with_reducible exact spec_l4Path.mono _ _ _)
   | (with_reducible exact spec_l5Set.mono _ _ _ _ _)
   | (with_reducible exact LeO.refl _)
   | (with_reducible exact LeO.none _)
   | (with_reducible refine LeO.ite ?_ ?_)
   | (with_reducible refine LeO.bind ?_ (fun _ => ?_))
   | exact ih0 _ _ _ _
   | exact ih1 _ _ _ _ _
   | exact spec_Put.mono _ _ _ _ _
   | exact spec_l1Rd_pick.mono _ _ _ _
   | exact spec_l1Text.mono _ _ _
   | exact spec_l4Path.mono _ _ _
   | exact spec_l5Set.mono _ _ _ _ _
   | exact LeO.none _
   | refine LeO.ite ?_ ?_
   | refine LeO.bind ?_ (fun _ => ?_)
  ·intro y0 y1 y2 y3 y4
   unfold spec_l5Draw.l1
   repeat' first
   | (with_reducible exact ih0 _ _ _ _)
   | (with_reducible exact ih1 _ _ _ _ _)
   | (with_reducible exact spec_Put.mono _ _ _ _ _)
   | (with_reducible exact spec_l1Rd_pick.mono _ _ _ _)
   | (with_reducible exact spec_l1Text.mono _ _ _)
   | (with_reducible exact spec_l4Path.mono _ _ _)
   | (with_reducible exact spec_l5Set.mono _ _ _ _ _)
   | (with_reducible exact LeO.refl _)
   | (with_reducible exact LeO.none _)
   | (with_reducible refine LeO.ite ?_ ?_)
   | (with_reducible refine LeO.bind ?_ (fun _ => ?_))
   | exact ih0 _ _ _ _
   | exact ih1 _ _ _ _ _
   | exact spec_Put.mono _ _ _ _ _
   | exact spec_l1Rd_pick.mono _ _ _ _
   | exact spec_l1Text.mono _ _ _
   | exact spec_l4Path.mono _ _ _
   | exact spec_l5Set.mono _ _ _ _ _
   | exact LeO.none _
   | refine LeO.ite ?_ ?_
   | refine LeO.bind ?_ (fun _ => ?_)
theorem spec_l5Draw.mono:∀ a0 a1 k,LeO (spec_l5Draw.f k a0 a1) (spec_l5Draw.f (k+1) a0 a1):=by
 intro a0 a1 k;obtain ⟨ih0,ih1⟩:=spec_l5Draw.mono_l k
 unfold spec_l5Draw.f
 repeat' first
   | (with_reducible exact ih0 _ _ _ _)
   | (with_reducible exact ih1 _ _ _ _ _)
   | (with_reducible exact spec_Put.mono _ _ _ _ _)
   | (with_reducible exact spec_l1Rd_pick.mono _ _ _ _)
   | (with_reducible exact spec_l1Text.mono _ _ _)
   | (with_reducible exact spec_l4Path.mono _ _ _)
   | (with_reducible exact spec_l5Set.mono _ _ _ _ _)
   | (with_reducible exact LeO.refl _)
   | (with_reducible exact LeO.none _)
   | (with_reducible refine LeO.ite ?_ ?_)
   | (with_reducible refine LeO.bind ?_ (fun _ => ?_))
   | exact ih0 _ _ _ _
   | exact ih1 _ _ _ _ _
   | exact spec_Put.mono _ _ _ _ _
   | exact spec_l1Rd_pick.mono _ _ _ _
   | exact spec_l1Text.mono _ _ _
   | exact spec_l4Path.mono _ _ _
   | exact spec_l5Set.mono _ _ _ _ _
   | exact LeO.none _
   | refine LeO.ite ?_ ?_
   | refine LeO.bind ?_ (fun _ => ?_)
def spec_l5Draw.T5:Bool×List (List Nat×List Nat):=(true,[([],[]),([],[]),([1],[1]),([],[]),([3,2],[3]),([],[]),([5,4],[5]),([6],[6]),([2,4,7],[2,4,7]),([0,8,6],[0,8]),([9],[9]),([10],[10]),([10],[10]),([],[]),([13,11,9,0,1,2,3,4,5,6,7,8,9,10,11,13],[11,13]),([12,14,0,1,2,3,4,5,6,7,8,9,10,11,12,13,14],[12])])
def spec_l5Draw.B5:List Nat:=[0,0,2,0,14,0,62,126,254,511,1023,2047,2047,0,12287,32767]
theorem spec_l5Draw.tab5:rtab .any (opsOf Tryd.f97 5)=spec_l5Draw.T5:=by kernel_rfl
theorem spec_l5Draw.bits5:waitsOk spec_l5Draw.T5.2 spec_l5Draw.B5=true:=by kernel_rfl
set_option maxHeartbeats 8000000 in
set_option maxRecDepth 100000 in
theorem spec_l5Draw.calls (k : Nat) (g : Nat) (s0_0 : List Int) (s0_1 : Int) (r1 : List (S27)) (r2 : Int) (w0 w : World) (hI : IsS173 w0 w g s0_0 s0_1) (hB : Below w0.heap.size w0 w) (h : spec_l5Draw.f k s0_0 s0_1 = some (r1, r2)) :
  Calls Tryd.prog 97 #[.pointer (some ⟨g,0,none⟩)] w fun e w' => ∃ v0_:Value,e = .returned (.agg #[v0_])∧Kd.R k27 27 w' w.heap.size (fun _=>True) v0_ r1∧IsS173 w0 w' g s0_0 r2∧Below w0.heap.size w0 w'∧KeepBut w w' g none:=by
 have hu25:=Tryd.underlying25;have hu27:=Tryd.underlying27;have a2:=Aside0.mk hI;have HK:=Aside0.mk (KeepBut.refl w g none);have HL:=Aside0.mk hB.size;clear hI;have HW0:=Aside0.mk hB.size;have HB:=Aside0.mk hB;clear hB;have H:((spec_l1Rd_pick.f k s0_0 s0_1 8).bind fun bt188=>(spec_l5Draw.l0 k bt188.1 s0_0 bt188.2 ([]:List (S27))))=some (r1,r2):=h;clear h;replace H:=Option.bind_eq_some_iff.mp H;obtain ⟨⟨bE,bF⟩,A20,H⟩:=H;replace H:(spec_l5Draw.l0 k bE s0_0 bF ([]:List (S27)))=some (r1,r2):=H;have A2:=Aside0.mk A20;clear A20;have H':=Aside0.mk H;clear H
 go_enter Tryd.func97,Tryd.ntmps97
 go_wp2_with (first|((with_reducible refine gd 2 rfl ?_);refine bx 2 25 (#[.slice none 0 0]) ?_;intro a9 hg w3 hbox hb;refine Ya8 (IsS173.below (iq173 a2.out) hb) (KeepBut.trans (kb HK.out) (KeepBut.of_below hb g none) (.inl rfl)) (below_step (bq173 HB.out a2.out) hb) (hbox) ((by rw [hg];exact (keep_size (w:=w) (g:=g) (row:=none) (kb HK.out)):w.heap.size≤a9)) ((Nat.le_trans HW0.out (by rw [hg];exact (keep_size (w:=w) (g:=g) (row:=none) (kb HK.out)):w.heap.size≤a9):w0.heap.size≤a9)) ((by rw [hg];exact Nat.ne_of_lt (IsS173.lt (show IsS173 w0 _ g s0_0 s0_1 from iq173 a2.out)):g≠a9)) ((by rw [hg];exact Nat.ne_of_gt (IsS173.lt (show IsS173 w0 _ g s0_0 s0_1 from iq173 a2.out)):a9≠g)) ?_;clear a2 HK HB;intro a2 HK HB a4 GW186 GE186 bI aU;clear hb hbox hg)|((with_reducible refine gd 3 rfl ?_);refine bx 3 25 (#[.slice none 0 0]) ?_;intro a8 hg w4 hbox hb;refine Ya11 (IsS173.below (iq173 a2.out) hb) (bb a4 hb) (KeepBut.trans (kb HK.out) (KeepBut.of_below hb g none) (.inl rfl)) (below_step (bq173 HB.out a2.out) hb) (hbox) ((by rw [hg];exact (keep_size (w:=w) (g:=g) (row:=none) (kb HK.out)):w.heap.size≤a8)) ((Nat.le_trans HW0.out (by rw [hg];exact (keep_size (w:=w) (g:=g) (row:=none) (kb HK.out)):w.heap.size≤a8):w0.heap.size≤a8)) (bl hg a4) (br hg a4) ((by rw [hg];exact Nat.ne_of_lt (IsS173.lt (show IsS173 w0 _ g s0_0 s0_1 from iq173 a2.out)):g≠a8)) ((by rw [hg];exact Nat.ne_of_gt (IsS173.lt (show IsS173 w0 _ g s0_0 s0_1 from iq173 a2.out)):a8≠g)) ?_;clear a2 a4 HK HB;intro a2 a4 HK HB a3 GW187 GE187 bg bn bo aK;clear hb hbox hg;have hnb5:=bn.out;have hnc5:=bg.out;have hnb6:=aK.out;have hnc6:=bo.out;have ⟨cd,ce⟩:=Yc1 a3.out)|((with_reducible refine gc 66 rfl ?_);refine gl (some 11) _ (#[.pointer (some ⟨g,0,none⟩),.int .i64 8]) Tryd.func66 ?_;(with_reducible refine (spec_l1Rd_pick.calls k g s0_0 s0_1 8 bE bF w0 _ ?side1 ?side2 A2.out).mono ?_);(case side1=>exact iq173 a2.out);(case side2=>exact bq173 HB.out a2.out);rintro e w8 ⟨rfl,hi,hb,hk⟩;refine ⟨_,rfl,?_⟩;refine Ya5 (kxf hk a4 bg aU) (KeepBut.blk hk (g':=a8) (o:=.cells #[.slice none 0 0] 25 (0,0)) (bp a3.out) aK.out (by simp)) (KeepBut.trans (kb HK.out) hk (.inl rfl)) (hb) (hi) ?_;clear a4 a3 HK HB a2;intro a4 a3 HK HB a2;(try clear hb);(try clear hb2);(try clear hk);(try clear hi)))
 go_loopg [4] k (fun kq v4 w' => ∃ (aX:Int) (aW:Int) (a7:List (S27)) (b8:Value),v4 = .int .i64 aX∧Aside0 (spec_l5Draw.l0 kq aX s0_0 aW a7=some (r1,r2))∧Aside0 (kq≤k)∧Aside0 (Kd.R k27 27 w' w.heap.size (fun _=>True) b8 a7)∧Aside0 (w'.heap[a9]? = some (.cells #[(.slice none 0 0)] 25 (0,0)))∧Aside0 (w'.heap[a8]? = some (.cells #[b8] 25 (0,0)))∧Aside0 (IsS173 w0 w' g s0_0 aW)∧Aside0 (KeepBut w w' g none)∧Aside0 (Below w0.heap.size w0 w'))
 case atStart=>exact ⟨(bE),(bF),(([]:List (S27))),(.slice none 0 0),Ye1,H',⟨Nat.le_refl _⟩,⟨nl⟩,⟨bk a4.out⟩,⟨bk a3.out⟩,⟨iq173 a2.out⟩,⟨kb HK.out⟩,⟨bq173 HB.out a2.out⟩⟩
 case round =>
  clear H';(try clear p2);(try clear c5);(try clear c6);(try clear cd);(try clear ce);obtain ⟨aX,aW,a7,b8,rfl,HA,HK1,a5,a4,a3,a2,HK,HB⟩:=hrel
  cases gk with
  | zero=>exact absurd HA.out (by simp [spec_l5Draw.l0])
  | succ k1 =>
   have H:=HA.out;clear HA;simp only [spec_l5Draw.l0] at H
   by_cases c9:aX>0
   ·rw [if_pos c9] at H
    have bJ:decide (0<aX)=true:=decide_eq_true c9;clear c9;replace H:=Option.bind_eq_some_iff.mp H;obtain ⟨⟨aq,aL⟩,bK,H⟩:=H;replace H:((spec_l1Text.f k1 s0_0 aL).bind fun bt192=>((spec_l1Rd_pick.f k1 s0_0 bt192.2 4).bind fun bt194=>((spec_Put.f k1 a7 aq bt192.1 (bt194.1==0)).bind fun bt196=>(if bt196.2=0 then (spec_l5Draw.l0 k1 (wrap64 (aX - 1)) s0_0 bt194.2 bt196.1) else (spec_l5Draw.l0 k1 (wrap64 (aX - 1)) s0_0 bt194.2 a7)))))=some (r1,r2):=H;have bz:=Aside0.mk bK;clear bK;replace H:=Option.bind_eq_some_iff.mp H;obtain ⟨⟨ay,aM⟩,bL,H⟩:=H;replace H:((spec_l1Rd_pick.f k1 s0_0 aM 4).bind fun bt194=>((spec_Put.f k1 a7 aq ay (bt194.1==0)).bind fun bt196=>(if bt196.2=0 then (spec_l5Draw.l0 k1 (wrap64 (aX - 1)) s0_0 bt194.2 bt196.1) else (spec_l5Draw.l0 k1 (wrap64 (aX - 1)) s0_0 bt194.2 a7))))=some (r1,r2):=H;have bA:=Aside0.mk bL;clear bL;replace H:=Option.bind_eq_some_iff.mp H;obtain ⟨⟨au,az⟩,bM,H⟩:=H;replace H:((spec_Put.f k1 a7 aq ay (au==0)).bind fun bt196=>(if bt196.2=0 then (spec_l5Draw.l0 k1 (wrap64 (aX - 1)) s0_0 az bt196.1) else (spec_l5Draw.l0 k1 (wrap64 (aX - 1)) s0_0 az a7)))=some (r1,r2):=H;have bB:=Aside0.mk bM;clear bM;replace H:=Option.bind_eq_some_iff.mp H;obtain ⟨⟨aV,aI⟩,bN,H⟩:=H;replace H:(if aI=0 then (spec_l5Draw.l0 k1 (wrap64 (aX - 1)) s0_0 az aV) else (spec_l5Draw.l0 k1 (wrap64 (aX - 1)) s0_0 az a7))=some (r1,r2):=H;have bC:=Aside0.mk bN;clear bN
    by_cases bh:aI=0
    ·rw [if_pos bh] at H
     have cf:(aI==0)=true:=beq_iff_eq.mpr bh;have cg:(aI != 0)=false:=bne_eq_false_iff_eq.mpr bh;clear bh;have H':=Aside0.mk H;clear H;obtain ⟨ad,ae,ch⟩:=Kd.R_slice a5.out;subst ch
     try go_wp2
     refine Ya6 (Kd.R_drew a5.out) (blk_drew a4.out) (blk_drew a3.out) (IsS173.drew a2.out) (keep_drew HK.out) (below_drew1 HB.out) ?_;clear a5 a4 a3 a2 HK HB;intro a5 a4 a3 a2 HK HB;refine start_ (n:=16) (S:=fun w'=>w'.cell? ⟨a8,0,none⟩=some (.slice ad a7.length ae)) (ds:=[]) (fb 16 0) (by kernel_rfl) rfl rfl (bc a3 0) (fun hHeld => ?_);refine with_tabW spec_l5Draw.tab5 spec_l5Draw.bits5 (fun HT_ HW_ => ?_);generalize wr.drew=w16 at a5 a4 a3 a2 HK HB hHeld ⊢; refine pu 1 18 (fb 16 2) HT_ ?_;refine pu 3 20 (fb 16 10) HT_ ?_;refine pu 5 22 (fb 16 42) HT_ ?_;refine take_ (i:=0) (N:=some 17) (v:=?_) (a':=?_) (fb 16 43) rfl rfl (take_ofW HT_.out HW_.out (by kernel_rfl)) (fun _ _ _ h=>h) (Or.inl ⟨by rfl,?_⟩) hHeld ?_ ?_;rotate_left
     ·intro w' s0;go_simp;(with_reducible rfl)
     rotate_left
     ·simp only [Act.put,List.setIfInBounds_toArray,List.set_cons_zero,List.set_cons_succ,i64_w,i32_w];rfl
     refine join_ (σ:=Value×Nat) 2 (fb 16 16383) (fun s_ => [(19,.string aq),(21,.string ay),(23,.int .i64 au),(26,.tuple #[.agg #[s_.1],.int .i64 aI]),(5,.pointer (some ⟨s_.2,0,none⟩)),(24,.bool (au==0)),(25,.agg #[.string aq,.string ay,.bool (au==0)]),(16,.tuple #[.agg #[s_.1],.int .i64 aI]),(27,.agg #[s_.1]),(28,.int .i64 aI)]) (fun s_ w'=>(w'.cell? ⟨a8,0,none⟩=some (.slice ad a7.length ae))∧(Kd.R k27 27 w' w.heap.size (fun k_=>some k_≠(.slice ad a7.length ae:Value).ownBlock) s_.1 aV)∧(Kd.R k27 27 w' w.heap.size (fun k_=>some k_≠(s_.1:Value).ownBlock) (.slice ad a7.length ae) a7)∧(w'.heap[a9]? = some (.cells #[.slice none 0 0] 25 (0,0)))∧(w'.heap[a8]? = some (.cells #[.slice ad a7.length ae] 25 (0,0)))∧(w'.heap[s_.2]? = some (.cells #[.slice none 0 0] 25 (0,0)))∧(w.heap.size≤s_.2)∧(w0.heap.size≤s_.2)∧(g≠s_.2)∧(s_.2≠g)∧(a9≠s_.2)∧(s_.2≠a9)∧(a8≠s_.2)∧(s_.2≠a8)∧(IsS173 w0 w' g s0_0 az)∧(KeepBut w w' g none)∧(Below w0.heap.size w0 w')) ?_ ?_;rotate_left
     ·intro hJ2_4_6_9_13; refine join_ (σ := Value) 3 (fb 16 8191) (fun s_ => [(19, .string aq), (21, .string ay), (23, .int .i64 au), (26, .tuple #[.agg #[s_], .int .i64 aI]), (24, .bool (au == 0)), (25, .agg #[.string aq, .string ay, .bool (au == 0)]), (16, .tuple #[.agg #[s_], .int .i64 aI]), (27, .agg #[s_]), (28, .int .i64 aI)]) (fun s_ w' => (w'.cell? ⟨a8, 0, none⟩ = some (.slice ad a7.length ae)) ∧ (Kd.R k27 27 w' w.heap.size (fun k_ => some k_ ≠ (.slice ad a7.length ae : Value).ownBlock) s_ aV) ∧ (Kd.R k27 27 w' w.heap.size (fun k_ => some k_ ≠ (s_ : Value).ownBlock) (.slice ad a7.length ae) a7) ∧ (w'.heap[a9]? = some (.cells #[.slice none 0 0] 25 (0, 0))) ∧ (w'.heap[a8]? = some (.cells #[.slice ad a7.length ae] 25 (0, 0))) ∧ (IsS173 w0 w' g s0_0 az) ∧ (KeepBut w w' g none) ∧ (Below w0.heap.size w0 w')) ?_ ?_; rotate_left
      ·intro hJ2_4_6_9; refine join_ (σ := Nat) 6 (fb 16 8703) (fun s_ => [(19, .string aq), (21, .string ay), (23, .int .i64 au), (5, .pointer (some ⟨s_, 0, none⟩)), (24, .bool (au == 0)), (25, .agg #[.string aq, .string ay, .bool (au == 0)])]) (fun s_ w' => (w'.cell? ⟨a8, 0, none⟩ = some (.slice ad a7.length ae)) ∧ (Kd.R k27 27 w' w.heap.size (fun _ => True) (.slice ad a7.length ae) a7) ∧ (w'.heap[a9]? = some (.cells #[.slice none 0 0] 25 (0, 0))) ∧ (w'.heap[a8]? = some (.cells #[.slice ad a7.length ae] 25 (0, 0))) ∧ (w'.heap[s_]? = some (.cells #[.slice none 0 0] 25 (0, 0))) ∧ (w.heap.size ≤ s_) ∧ (w0.heap.size ≤ s_) ∧ (g ≠ s_) ∧ (s_ ≠ g) ∧ (a9 ≠ s_) ∧ (s_ ≠ a9) ∧ (a8 ≠ s_) ∧ (s_ ≠ a8) ∧ (IsS173 w0 w' g s0_0 az) ∧ (KeepBut w w' g none) ∧ (Below w0.heap.size w0 w')) ?_ ?_; rotate_left
       ·intro hJ2_4_6_13; refine join_ (σ := Unit) 7 (fb 16 511) (fun s_ => [(19, .string aq), (21, .string ay), (23, .int .i64 au), (24, .bool (au == 0)), (25, .agg #[.string aq, .string ay, .bool (au == 0)])]) (fun s_ w' => (w'.cell? ⟨a8, 0, none⟩ = some (.slice ad a7.length ae)) ∧ (Kd.R k27 27 w' w.heap.size (fun _ => True) (.slice ad a7.length ae) a7) ∧ (w'.heap[a9]? = some (.cells #[.slice none 0 0] 25 (0, 0))) ∧ (w'.heap[a8]? = some (.cells #[.slice ad a7.length ae] 25 (0, 0))) ∧ (IsS173 w0 w' g s0_0 az) ∧ (KeepBut w w' g none) ∧ (Below w0.heap.size w0 w')) ?_ ?_; rotate_left
        ·intro hJ2_4_6; refine join_ (σ := Nat) 9 (fb 16 8255) (fun s_ => [(19, .string aq), (21, .string ay), (5, .pointer (some ⟨s_, 0, none⟩))]) (fun s_ w' => (w'.cell? ⟨a8, 0, none⟩ = some (.slice ad a7.length ae)) ∧ (Kd.R k27 27 w' w.heap.size (fun _ => True) (.slice ad a7.length ae) a7) ∧ (w'.heap[a9]? = some (.cells #[.slice none 0 0] 25 (0, 0))) ∧ (w'.heap[a8]? = some (.cells #[.slice ad a7.length ae] 25 (0, 0))) ∧ (w'.heap[s_]? = some (.cells #[.slice none 0 0] 25 (0, 0))) ∧ (w.heap.size ≤ s_) ∧ (w0.heap.size ≤ s_) ∧ (g ≠ s_) ∧ (s_ ≠ g) ∧ (a9 ≠ s_) ∧ (s_ ≠ a9) ∧ (a8 ≠ s_) ∧ (s_ ≠ a8) ∧ (IsS173 w0 w' g s0_0 aM) ∧ (KeepBut w w' g none) ∧ (Below w0.heap.size w0 w')) ?_ ?_; rotate_left
         ·intro hJ2_4_13;refine join_ (σ:=Unit) 10 (fb 16 63) (fun s_ => [(19,.string aq),(21,.string ay)]) (fun s_ w'=>(w'.cell? ⟨a8,0,none⟩=some (.slice ad a7.length ae))∧(Kd.R k27 27 w' w.heap.size (fun _=>True) (.slice ad a7.length ae) a7)∧(w'.heap[a9]? = some (.cells #[.slice none 0 0] 25 (0,0)))∧(w'.heap[a8]? = some (.cells #[.slice ad a7.length ae] 25 (0,0)))∧(IsS173 w0 w' g s0_0 aM)∧(KeepBut w w' g none)∧(Below w0.heap.size w0 w')) ?_ ?_;rotate_left
          ·intro hJ2_4;refine join_ (σ:=Nat) 10 (fb 16 8239) (fun s_ => [(19,.string aq),(5,.pointer (some ⟨s_,0,none⟩))]) (fun s_ w'=>(w'.cell? ⟨a8,0,none⟩=some (.slice ad a7.length ae))∧(Kd.R k27 27 w' w.heap.size (fun _=>True) (.slice ad a7.length ae) a7)∧(w'.heap[a9]? = some (.cells #[.slice none 0 0] 25 (0,0)))∧(w'.heap[a8]? = some (.cells #[.slice ad a7.length ae] 25 (0,0)))∧(w'.heap[s_]? = some (.cells #[.slice none 0 0] 25 (0,0)))∧(w.heap.size≤s_)∧(w0.heap.size≤s_)∧(g≠s_)∧(s_≠g)∧(a9≠s_)∧(s_≠a9)∧(a8≠s_)∧(s_≠a8)∧(IsS173 w0 w' g s0_0 aL)∧(KeepBut w w' g none)∧(Below w0.heap.size w0 w')) ?_ ?_;rotate_left
           ·intro hJ2_13;refine join_ (σ:=Unit) 11 (fb 16 47) (fun s_ => [(19,.string aq)]) (fun s_ w'=>(w'.cell? ⟨a8,0,none⟩=some (.slice ad a7.length ae))∧(Kd.R k27 27 w' w.heap.size (fun _=>True) (.slice ad a7.length ae) a7)∧(w'.heap[a9]? = some (.cells #[.slice none 0 0] 25 (0,0)))∧(w'.heap[a8]? = some (.cells #[.slice ad a7.length ae] 25 (0,0)))∧(IsS173 w0 w' g s0_0 aL)∧(KeepBut w w' g none)∧(Below w0.heap.size w0 w')) ?_ ?_;rotate_left
            ·intro hJ2;refine join_ (σ:=Nat) 11 (fb 16 8235) (fun s_ => [(5,.pointer (some ⟨s_,0,none⟩))]) (fun s_ w'=>(w'.cell? ⟨a8,0,none⟩=some (.slice ad a7.length ae))∧(Kd.R k27 27 w' w.heap.size (fun _=>True) (.slice ad a7.length ae) a7)∧(w'.heap[a9]? = some (.cells #[.slice none 0 0] 25 (0,0)))∧(w'.heap[a8]? = some (.cells #[.slice ad a7.length ae] 25 (0,0)))∧(w'.heap[s_]? = some (.cells #[.slice none 0 0] 25 (0,0)))∧(w.heap.size≤s_)∧(w0.heap.size≤s_)∧(g≠s_)∧(s_≠g)∧(a9≠s_)∧(s_≠a9)∧(a8≠s_)∧(s_≠a8)∧(IsS173 w0 w' g s0_0 aW)∧(KeepBut w w' g none)∧(Below w0.heap.size w0 w')) ?_ ?_;rotate_left
             ·intro hJ13;refine two_ (i:=2) (j:=13) (Ni:=some 19) (Nj:=some 5) (fb 16 47) (fb 16 8235) rfl rfl rfl rfl (two_of HT_.out (by kernel_rfl)) (by decide) (by decide) (fun K hK => ?_) (fun K hK => ?_)
              ·skip
               refine gs _ (#[.pointer (some ⟨g,0,none⟩)]) Tryd.func77 ?_;(with_reducible refine (spec_l4Path.calls k1 g s0_0 aW aq aL w0 _ ?side1 ?side2 bz.out).mono ?_);(case side1=>exact iq173 a2.out);(case side2=>exact bq173 HB.out a2.out);rintro e w17 ⟨rfl,hi,hb,hk⟩;refine ⟨_,rfl,?_⟩;refine Ya6 (ra173 (iq173 a2.out) (kr a5.out) hk) (kx hk a4 aU) (kx hk a3 aK) (KeepBut.trans (kb HK.out) hk (.inl rfl)) (hb) (hi) ?_;clear a5 a4 a3 HK HB a2;intro a5 a4 a3 HK HB a2;(try clear hb);(try clear hb2);(try clear hk);(try clear hi);refine hK.out _ _ (bc a3 0) (fun hHeld => ?_);clear hK K;refine nm 19 ?_;exact norm_ (by first|(simp only [putAll,Act.put,List.setIfInBounds_toArray,List.set_cons_zero,List.set_cons_succ];done)|(simp only [putAll,Act.put,List.setIfInBounds_toArray,List.set_cons_zero,List.set_cons_succ];rfl)) (hJ2 () _ ⟨hHeld,(kr a5.out),(bk a4.out),(bk a3.out),(iq173 a2.out),(kb HK.out),(bq173 HB.out a2.out)⟩)
              ·skip
               refine bst 5 25 (#[.slice none 0 0]) ?_;intro a6 hg w17 hbox hb;refine Ya15 (Kd.R_below (kr a5.out) hb) (bb a4 hb) (bb a3 hb) (IsS173.below (iq173 a2.out) hb) (KeepBut.trans (kb HK.out) (KeepBut.of_below hb g none) (.inl rfl)) (below_step (bq173 HB.out a2.out) hb) (hbox) ((by rw [hg];exact (keep_size (w:=w) (g:=g) (row:=none) (kb HK.out)):w.heap.size≤a6)) ((Nat.le_trans HW0.out (by rw [hg];exact (keep_size (w:=w) (g:=g) (row:=none) (kb HK.out)):w.heap.size≤a6):w0.heap.size≤a6)) (bl hg a4) (br hg a4) (bl hg a3) (br hg a3) ((by rw [hg];exact Nat.ne_of_lt (IsS173.lt (show IsS173 w0 _ g s0_0 aW from iq173 a2.out)):g≠a6)) ((by rw [hg];exact Nat.ne_of_gt (IsS173.lt (show IsS173 w0 _ g s0_0 aW from iq173 a2.out)):a6≠g)) ?_;clear a5 a4 a3 a2 HK HB;intro a5 a4 a3 a2 HK HB aa av aw an ao am ap ar al;clear hb hbox hg;refine hK.out _ _ (bc a3 0) (fun hHeld => ?_);clear hK K;refine nm 5 ?_;exact norm_ (by first|(simp only [putAll,Act.put,List.setIfInBounds_toArray,List.set_cons_zero,List.set_cons_succ];done)|(simp only [putAll,Act.put,List.setIfInBounds_toArray,List.set_cons_zero,List.set_cons_succ];rfl)) (hJ13 (a6) _ ⟨hHeld,(kr a5.out),(bk a4.out),(bk a3.out),(bk aa.out),av.out,aw.out,ar.out,al.out,an.out,ao.out,am.out,ap.out,(iq173 a2.out),(kb HK.out),(bq173 HB.out a2.out)⟩)
             ·skip
              rintro a6 aY ⟨hS_,h0_,h1_,h2_,h3_,h4_,h5_,h6_,h7_,h8_,h9_,h10_,h11_,h12_,h13_,h14_⟩
              have af:Aside0 (Kd.R k27 27 aY w.heap.size (fun _=>True) (.slice ad a7.length ae) a7):=⟨h0_⟩
              have ag:Aside0 (aY.heap[a9]? = some (.cells #[.slice none 0 0] 25 (0,0))):=⟨h1_⟩
              have ah:Aside0 (aY.heap[a8]? = some (.cells #[.slice ad a7.length ae] 25 (0,0))):=⟨h2_⟩
              have ai:Aside0 (aY.heap[a6]? = some (.cells #[.slice none 0 0] 25 (0,0))):=⟨h3_⟩
              have aj:Aside0 (w.heap.size≤a6):=⟨h4_⟩
              have ak:Aside0 (w0.heap.size≤a6):=⟨h5_⟩
              have ax:Aside0 (g≠a6):=⟨h6_⟩
              have aA:Aside0 (a6≠g):=⟨h7_⟩
              have aB:Aside0 (a9≠a6):=⟨h8_⟩
              have aC:Aside0 (a6≠a9):=⟨h9_⟩
              have aD:Aside0 (a8≠a6):=⟨h10_⟩
              have aE:Aside0 (a6≠a8):=⟨h11_⟩
              have aF:Aside0 (IsS173 w0 aY g s0_0 aW):=⟨h12_⟩
              have aG:Aside0 (KeepBut w aY g none):=⟨h13_⟩
              have aH:Aside0 (Below w0.heap.size w0 aY):=⟨h14_⟩
              clear a5;clear a4;clear a3;clear a2;clear HK;clear HB;clear h0_ h1_ h2_ h3_ h4_ h5_ h6_ h7_ h8_ h9_ h10_ h11_ h12_ h13_ h14_;have a5:=af;have a4:=ag;have a3:=ah;have aa:=ai;have av:=aj;have aw:=ak;have ar:=ax;have al:=aA;have an:=aB;have ao:=aC;have am:=aD;have ap:=aE;have a2:=aF;have HK:=aG;have HB:=aH;clear af ag ah ai aj ak ax aA aB aC aD aE aF aG aH;have hHeld:aY.cell? ⟨a8,0,none⟩=some (.slice ad a7.length ae):=hS_;refine norm_ (a':=?_) ?_ ?_;rotate_left
              ·simp only [putAll,Act.put,List.setIfInBounds_toArray,List.set_cons_zero,List.set_cons_succ];rfl
              refine o1 2 (some 19) (fb 16 8239) HT_ (fun K hK => ?_);refine gs _ (#[.pointer (some ⟨g,0,none⟩)]) Tryd.func77 ?_;(with_reducible refine (spec_l4Path.calls k1 g s0_0 aW aq aL w0 _ ?side1 ?side2 bz.out).mono ?_);(case side1=>exact iq173 a2.out);(case side2=>exact bq173 HB.out a2.out);rintro e aQ ⟨rfl,hi,hb,hk⟩;refine ⟨_,rfl,?_⟩;refine Ya7 (ra173 (iq173 a2.out) (kr a5.out) hk) (kx hk a4 aU) (kx hk a3 aK) (kx hk aa al) (KeepBut.trans (kb HK.out) hk (.inl rfl)) (hb) (hi) ?_;clear a5 a4 a3 aa HK HB a2;intro a5 a4 a3 aa HK HB a2;(try clear hb);(try clear hb2);(try clear hk);(try clear hi);refine hK.out _ _ (bc a3 0) (fun hHeld => ?_);clear hK K;refine nm 19 ?_;exact norm_ (by first|(simp only [putAll,Act.put,List.setIfInBounds_toArray,List.set_cons_zero,List.set_cons_succ];done)|(simp only [putAll,Act.put,List.setIfInBounds_toArray,List.set_cons_zero,List.set_cons_succ];rfl)) (hJ2_13 (a6) _ ⟨hHeld,(kr a5.out),(bk a4.out),(bk a3.out),(bk aa.out),av.out,aw.out,ar.out,al.out,an.out,ao.out,am.out,ap.out,(iq173 a2.out),(kb HK.out),(bq173 HB.out a2.out)⟩)
            ·skip
             rintro _ aY ⟨hS_,h0_,h1_,h2_,h3_,h4_,h5_⟩
             have af:Aside0 (Kd.R k27 27 aY w.heap.size (fun _=>True) (.slice ad a7.length ae) a7):=⟨h0_⟩
             have ag:Aside0 (aY.heap[a9]? = some (.cells #[.slice none 0 0] 25 (0,0))):=⟨h1_⟩
             have ah:Aside0 (aY.heap[a8]? = some (.cells #[.slice ad a7.length ae] 25 (0,0))):=⟨h2_⟩
             have ai:Aside0 (IsS173 w0 aY g s0_0 aL):=⟨h3_⟩
             have aj:Aside0 (KeepBut w aY g none):=⟨h4_⟩
             have ak:Aside0 (Below w0.heap.size w0 aY):=⟨h5_⟩
             clear a5;clear a4;clear a3;clear a2;clear HK;clear HB;clear h0_ h1_ h2_ h3_ h4_ h5_;have a5:=af;have a4:=ag;have a3:=ah;have a2:=ai;have HK:=aj;have HB:=ak;clear af ag ah ai aj ak;have hHeld:aY.cell? ⟨a8,0,none⟩=some (.slice ad a7.length ae):=hS_;refine norm_ (a':=?_) ?_ ?_;rotate_left
             ·simp only [putAll,Act.put,List.setIfInBounds_toArray,List.set_cons_zero,List.set_cons_succ];rfl
             refine two_ (i:=4) (j:=13) (Ni:=some 21) (Nj:=some 5) (fb 16 63) (fb 16 8239) rfl rfl rfl rfl (two_of HT_.out (by kernel_rfl)) (by decide) (by decide) (fun K hK => ?_) (fun K hK => ?_)
             ·skip
              refine gs _ (#[.pointer (some ⟨g,0,none⟩)]) Tryd.func65 ?_;(with_reducible refine (spec_l1Text.calls k1 g s0_0 aL ay aM w0 _ ?side1 ?side2 bA.out).mono ?_);(case side1=>exact iq173 a2.out);(case side2=>exact bq173 HB.out a2.out);rintro e aQ ⟨rfl,hi,hb,hk⟩;refine ⟨_,rfl,?_⟩;refine Ya6 (ra173 (iq173 a2.out) (kr a5.out) hk) (kx hk a4 aU) (kx hk a3 aK) (KeepBut.trans (kb HK.out) hk (.inl rfl)) (hb) (hi) ?_;clear a5 a4 a3 HK HB a2;intro a5 a4 a3 HK HB a2;(try clear hb);(try clear hb2);(try clear hk);(try clear hi);refine hK.out _ _ (bc a3 0) (fun hHeld => ?_);clear hK K;refine nm 21 ?_;exact norm_ (by first|(simp only [putAll,Act.put,List.setIfInBounds_toArray,List.set_cons_zero,List.set_cons_succ];done)|(simp only [putAll,Act.put,List.setIfInBounds_toArray,List.set_cons_zero,List.set_cons_succ];rfl)) (hJ2_4 () _ ⟨hHeld,(kr a5.out),(bk a4.out),(bk a3.out),(iq173 a2.out),(kb HK.out),(bq173 HB.out a2.out)⟩)
             ·skip
              refine bst 5 25 (#[.slice none 0 0]) ?_;intro a6 hg aQ hbox hb;refine Ya15 (Kd.R_below (kr a5.out) hb) (bb a4 hb) (bb a3 hb) (IsS173.below (iq173 a2.out) hb) (KeepBut.trans (kb HK.out) (KeepBut.of_below hb g none) (.inl rfl)) (below_step (bq173 HB.out a2.out) hb) (hbox) ((by rw [hg];exact (keep_size (w:=w) (g:=g) (row:=none) (kb HK.out)):w.heap.size≤a6)) ((Nat.le_trans HW0.out (by rw [hg];exact (keep_size (w:=w) (g:=g) (row:=none) (kb HK.out)):w.heap.size≤a6):w0.heap.size≤a6)) (bl hg a4) (br hg a4) (bl hg a3) (br hg a3) ((by rw [hg];exact Nat.ne_of_lt (IsS173.lt (show IsS173 w0 _ g s0_0 aL from iq173 a2.out)):g≠a6)) ((by rw [hg];exact Nat.ne_of_gt (IsS173.lt (show IsS173 w0 _ g s0_0 aL from iq173 a2.out)):a6≠g)) ?_;clear a5 a4 a3 a2 HK HB;intro a5 a4 a3 a2 HK HB aa av aw an ao am ap ar al;clear hb hbox hg;refine hK.out _ _ (bc a3 0) (fun hHeld => ?_);clear hK K;refine nm 5 ?_;exact norm_ (by first|(simp only [putAll,Act.put,List.setIfInBounds_toArray,List.set_cons_zero,List.set_cons_succ];done)|(simp only [putAll,Act.put,List.setIfInBounds_toArray,List.set_cons_zero,List.set_cons_succ];rfl)) (hJ2_13 (a6) _ ⟨hHeld,(kr a5.out),(bk a4.out),(bk a3.out),(bk aa.out),av.out,aw.out,ar.out,al.out,an.out,ao.out,am.out,ap.out,(iq173 a2.out),(kb HK.out),(bq173 HB.out a2.out)⟩)
           ·skip
            rintro a6 aQ ⟨hS_,h0_,h1_,h2_,h3_,h4_,h5_,h6_,h7_,h8_,h9_,h10_,h11_,h12_,h13_,h14_⟩
            have af:Aside0 (Kd.R k27 27 aQ w.heap.size (fun _=>True) (.slice ad a7.length ae) a7):=⟨h0_⟩
            have ag:Aside0 (aQ.heap[a9]? = some (.cells #[.slice none 0 0] 25 (0,0))):=⟨h1_⟩
            have ah:Aside0 (aQ.heap[a8]? = some (.cells #[.slice ad a7.length ae] 25 (0,0))):=⟨h2_⟩
            have ai:Aside0 (aQ.heap[a6]? = some (.cells #[.slice none 0 0] 25 (0,0))):=⟨h3_⟩
            have aj:Aside0 (w.heap.size≤a6):=⟨h4_⟩
            have ak:Aside0 (w0.heap.size≤a6):=⟨h5_⟩
            have ax:Aside0 (g≠a6):=⟨h6_⟩
            have aA:Aside0 (a6≠g):=⟨h7_⟩
            have aB:Aside0 (a9≠a6):=⟨h8_⟩
            have aC:Aside0 (a6≠a9):=⟨h9_⟩
            have aD:Aside0 (a8≠a6):=⟨h10_⟩
            have aE:Aside0 (a6≠a8):=⟨h11_⟩
            have aF:Aside0 (IsS173 w0 aQ g s0_0 aL):=⟨h12_⟩
            have aG:Aside0 (KeepBut w aQ g none):=⟨h13_⟩
            have aH:Aside0 (Below w0.heap.size w0 aQ):=⟨h14_⟩
            clear a5;clear a4;clear a3;clear a2;clear HK;clear HB;clear h0_ h1_ h2_ h3_ h4_ h5_ h6_ h7_ h8_ h9_ h10_ h11_ h12_ h13_ h14_;have a5:=af;have a4:=ag;have a3:=ah;have aa:=ai;have av:=aj;have aw:=ak;have ar:=ax;have al:=aA;have an:=aB;have ao:=aC;have am:=aD;have ap:=aE;have a2:=aF;have HK:=aG;have HB:=aH;clear af ag ah ai aj ak ax aA aB aC aD aE aF aG aH;have hHeld:aQ.cell? ⟨a8,0,none⟩=some (.slice ad a7.length ae):=hS_;refine norm_ (a':=?_) ?_ ?_;rotate_left
            ·simp only [putAll,Act.put,List.setIfInBounds_toArray,List.set_cons_zero,List.set_cons_succ];rfl
            refine o1 4 (some 21) (fb 16 8255) HT_ (fun K hK => ?_);refine gs _ (#[.pointer (some ⟨g,0,none⟩)]) Tryd.func65 ?_;(with_reducible refine (spec_l1Text.calls k1 g s0_0 aL ay aM w0 _ ?side1 ?side2 bA.out).mono ?_);(case side1=>exact iq173 a2.out);(case side2=>exact bq173 HB.out a2.out);rintro e aR ⟨rfl,hi,hb,hk⟩;refine ⟨_,rfl,?_⟩;refine Ya7 (ra173 (iq173 a2.out) (kr a5.out) hk) (kx hk a4 aU) (kx hk a3 aK) (kx hk aa al) (KeepBut.trans (kb HK.out) hk (.inl rfl)) (hb) (hi) ?_;clear a5 a4 a3 aa HK HB a2;intro a5 a4 a3 aa HK HB a2;(try clear hb);(try clear hb2);(try clear hk);(try clear hi);refine hK.out _ _ (bc a3 0) (fun hHeld => ?_);clear hK K;refine nm 21 ?_;exact norm_ (by first|(simp only [putAll,Act.put,List.setIfInBounds_toArray,List.set_cons_zero,List.set_cons_succ];done)|(simp only [putAll,Act.put,List.setIfInBounds_toArray,List.set_cons_zero,List.set_cons_succ];rfl)) (hJ2_4_13 (a6) _ ⟨hHeld,(kr a5.out),(bk a4.out),(bk a3.out),(bk aa.out),av.out,aw.out,ar.out,al.out,an.out,ao.out,am.out,ap.out,(iq173 a2.out),(kb HK.out),(bq173 HB.out a2.out)⟩)
          ·skip
           rintro _ aQ ⟨hS_,h0_,h1_,h2_,h3_,h4_,h5_⟩
           have af:Aside0 (Kd.R k27 27 aQ w.heap.size (fun _=>True) (.slice ad a7.length ae) a7):=⟨h0_⟩
           have ag:Aside0 (aQ.heap[a9]? = some (.cells #[.slice none 0 0] 25 (0,0))):=⟨h1_⟩
           have ah:Aside0 (aQ.heap[a8]? = some (.cells #[.slice ad a7.length ae] 25 (0,0))):=⟨h2_⟩
           have ai:Aside0 (IsS173 w0 aQ g s0_0 aM):=⟨h3_⟩
           have aj:Aside0 (KeepBut w aQ g none):=⟨h4_⟩
           have ak:Aside0 (Below w0.heap.size w0 aQ):=⟨h5_⟩
           clear a5;clear a4;clear a3;clear a2;clear HK;clear HB;clear h0_ h1_ h2_ h3_ h4_ h5_;have a5:=af;have a4:=ag;have a3:=ah;have a2:=ai;have HK:=aj;have HB:=ak;clear af ag ah ai aj ak;have hHeld:aQ.cell? ⟨a8,0,none⟩=some (.slice ad a7.length ae):=hS_;refine norm_ (a':=?_) ?_ ?_;rotate_left
           ·simp only [putAll,Act.put,List.setIfInBounds_toArray,List.set_cons_zero,List.set_cons_succ];rfl
           refine two_ (i:=6) (j:=13) (Ni:=some 23) (Nj:=some 5) (fb 16 127) (fb 16 8255) rfl rfl rfl rfl (two_of HT_.out (by kernel_rfl)) (by decide) (by decide) (fun K hK => ?_) (fun K hK => ?_)
           ·skip
            refine gs _ (#[.pointer (some ⟨g,0,none⟩),.int .i64 4]) Tryd.func66 ?_;(with_reducible refine (spec_l1Rd_pick.calls k1 g s0_0 aM 4 au az w0 _ ?side1 ?side2 bB.out).mono ?_);(case side1=>exact iq173 a2.out);(case side2=>exact bq173 HB.out a2.out);rintro e aR ⟨rfl,hi,hb,hk⟩;refine ⟨_,rfl,?_⟩;refine Ya6 (ra173 (iq173 a2.out) (kr a5.out) hk) (kx hk a4 aU) (kx hk a3 aK) (KeepBut.trans (kb HK.out) hk (.inl rfl)) (hb) (hi) ?_;clear a5 a4 a3 HK HB a2;intro a5 a4 a3 HK HB a2;(try clear hb);(try clear hb2);(try clear hk);(try clear hi);refine hK.out _ _ (bc a3 0) (fun hHeld => ?_);clear hK K;refine nm 23 ?_;refine pu 7 24 (fb 16 255) HT_ ?_;refine pu 8 25 (fb 16 511) HT_ ?_;exact norm_ (by first|(simp only [putAll,Act.put,List.setIfInBounds_toArray,List.set_cons_zero,List.set_cons_succ];done)|(simp only [putAll,Act.put,List.setIfInBounds_toArray,List.set_cons_zero,List.set_cons_succ];rfl)) (hJ2_4_6 () _ ⟨hHeld,(kr a5.out),(bk a4.out),(bk a3.out),(iq173 a2.out),(kb HK.out),(bq173 HB.out a2.out)⟩)
           ·skip
            refine bst 5 25 (#[.slice none 0 0]) ?_;intro a6 hg aR hbox hb;refine Ya15 (Kd.R_below (kr a5.out) hb) (bb a4 hb) (bb a3 hb) (IsS173.below (iq173 a2.out) hb) (KeepBut.trans (kb HK.out) (KeepBut.of_below hb g none) (.inl rfl)) (below_step (bq173 HB.out a2.out) hb) (hbox) ((by rw [hg];exact (keep_size (w:=w) (g:=g) (row:=none) (kb HK.out)):w.heap.size≤a6)) ((Nat.le_trans HW0.out (by rw [hg];exact (keep_size (w:=w) (g:=g) (row:=none) (kb HK.out)):w.heap.size≤a6):w0.heap.size≤a6)) (bl hg a4) (br hg a4) (bl hg a3) (br hg a3) ((by rw [hg];exact Nat.ne_of_lt (IsS173.lt (show IsS173 w0 _ g s0_0 aM from iq173 a2.out)):g≠a6)) ((by rw [hg];exact Nat.ne_of_gt (IsS173.lt (show IsS173 w0 _ g s0_0 aM from iq173 a2.out)):a6≠g)) ?_;clear a5 a4 a3 a2 HK HB;intro a5 a4 a3 a2 HK HB aa av aw an ao am ap ar al;clear hb hbox hg;refine hK.out _ _ (bc a3 0) (fun hHeld => ?_);clear hK K;refine nm 5 ?_;exact norm_ (by first|(simp only [putAll,Act.put,List.setIfInBounds_toArray,List.set_cons_zero,List.set_cons_succ];done)|(simp only [putAll,Act.put,List.setIfInBounds_toArray,List.set_cons_zero,List.set_cons_succ];rfl)) (hJ2_4_13 (a6) _ ⟨hHeld,(kr a5.out),(bk a4.out),(bk a3.out),(bk aa.out),av.out,aw.out,ar.out,al.out,an.out,ao.out,am.out,ap.out,(iq173 a2.out),(kb HK.out),(bq173 HB.out a2.out)⟩)
         ·skip
          rintro a6 aR ⟨hS_,h0_,h1_,h2_,h3_,h4_,h5_,h6_,h7_,h8_,h9_,h10_,h11_,h12_,h13_,h14_⟩
          have af:Aside0 (Kd.R k27 27 aR w.heap.size (fun _=>True) (.slice ad a7.length ae) a7):=⟨h0_⟩
          have ag:Aside0 (aR.heap[a9]? = some (.cells #[.slice none 0 0] 25 (0,0))):=⟨h1_⟩
          have ah:Aside0 (aR.heap[a8]? = some (.cells #[.slice ad a7.length ae] 25 (0,0))):=⟨h2_⟩
          have ai:Aside0 (aR.heap[a6]? = some (.cells #[.slice none 0 0] 25 (0,0))):=⟨h3_⟩
          have aj:Aside0 (w.heap.size≤a6):=⟨h4_⟩
          have ak:Aside0 (w0.heap.size≤a6):=⟨h5_⟩
          have ax:Aside0 (g≠a6):=⟨h6_⟩
          have aA:Aside0 (a6≠g):=⟨h7_⟩
          have aB:Aside0 (a9≠a6):=⟨h8_⟩
          have aC:Aside0 (a6≠a9):=⟨h9_⟩
          have aD:Aside0 (a8≠a6):=⟨h10_⟩
          have aE:Aside0 (a6≠a8):=⟨h11_⟩
          have aF:Aside0 (IsS173 w0 aR g s0_0 aM):=⟨h12_⟩
          have aG:Aside0 (KeepBut w aR g none):=⟨h13_⟩
          have aH:Aside0 (Below w0.heap.size w0 aR):=⟨h14_⟩
          clear a5;clear a4;clear a3;clear a2;clear HK;clear HB;clear h0_ h1_ h2_ h3_ h4_ h5_ h6_ h7_ h8_ h9_ h10_ h11_ h12_ h13_ h14_;have a5:=af;have a4:=ag;have a3:=ah;have aa:=ai;have av:=aj;have aw:=ak;have ar:=ax;have al:=aA;have an:=aB;have ao:=aC;have am:=aD;have ap:=aE;have a2:=aF;have HK:=aG;have HB:=aH;clear af ag ah ai aj ak ax aA aB aC aD aE aF aG aH;have hHeld:aR.cell? ⟨a8,0,none⟩=some (.slice ad a7.length ae):=hS_;refine norm_ (a':=?_) ?_ ?_;rotate_left
          ·simp only [putAll,Act.put,List.setIfInBounds_toArray,List.set_cons_zero,List.set_cons_succ];rfl
          refine o1 6 (some 23) (fb 16 8319) HT_ (fun K hK => ?_);refine gs _ (#[.pointer (some ⟨g,0,none⟩),.int .i64 4]) Tryd.func66 ?_;(with_reducible refine (spec_l1Rd_pick.calls k1 g s0_0 aM 4 au az w0 _ ?side1 ?side2 bB.out).mono ?_);(case side1=>exact iq173 a2.out);(case side2=>exact bq173 HB.out a2.out);rintro e aO ⟨rfl,hi,hb,hk⟩;refine ⟨_,rfl,?_⟩;refine Ya7 (ra173 (iq173 a2.out) (kr a5.out) hk) (kx hk a4 aU) (kx hk a3 aK) (kx hk aa al) (KeepBut.trans (kb HK.out) hk (.inl rfl)) (hb) (hi) ?_;clear a5 a4 a3 aa HK HB a2;intro a5 a4 a3 aa HK HB a2;(try clear hb);(try clear hb2);(try clear hk);(try clear hi);refine hK.out _ _ (bc a3 0) (fun hHeld => ?_);clear hK K;refine nm 23 ?_;refine pu 7 24 (fb 16 8447) HT_ ?_;refine pu 8 25 (fb 16 8703) HT_ ?_;exact norm_ (by first|(simp only [putAll,Act.put,List.setIfInBounds_toArray,List.set_cons_zero,List.set_cons_succ];done)|(simp only [putAll,Act.put,List.setIfInBounds_toArray,List.set_cons_zero,List.set_cons_succ];rfl)) (hJ2_4_6_13 (a6) _ ⟨hHeld,(kr a5.out),(bk a4.out),(bk a3.out),(bk aa.out),av.out,aw.out,ar.out,al.out,an.out,ao.out,am.out,ap.out,(iq173 a2.out),(kb HK.out),(bq173 HB.out a2.out)⟩)
        ·skip
         rintro _ aR ⟨hS_,h0_,h1_,h2_,h3_,h4_,h5_⟩
         have af:Aside0 (Kd.R k27 27 aR w.heap.size (fun _=>True) (.slice ad a7.length ae) a7):=⟨h0_⟩
         have ag:Aside0 (aR.heap[a9]? = some (.cells #[.slice none 0 0] 25 (0,0))):=⟨h1_⟩
         have ah:Aside0 (aR.heap[a8]? = some (.cells #[.slice ad a7.length ae] 25 (0,0))):=⟨h2_⟩
         have ai:Aside0 (IsS173 w0 aR g s0_0 az):=⟨h3_⟩
         have aj:Aside0 (KeepBut w aR g none):=⟨h4_⟩
         have ak:Aside0 (Below w0.heap.size w0 aR):=⟨h5_⟩
         clear a5;clear a4;clear a3;clear a2;clear HK;clear HB;clear h0_ h1_ h2_ h3_ h4_ h5_;have a5:=af;have a4:=ag;have a3:=ah;have a2:=ai;have HK:=aj;have HB:=ak;clear af ag ah ai aj ak;have hHeld:aR.cell? ⟨a8,0,none⟩=some (.slice ad a7.length ae):=hS_;refine norm_ (a':=?_) ?_ ?_;rotate_left
         ·simp only [putAll,Act.put,List.setIfInBounds_toArray,List.set_cons_zero,List.set_cons_succ];rfl
         refine two_ (i:=9) (j:=13) (Ni:=some 26) (Nj:=some 5) (fb 16 1023) (fb 16 8703) rfl rfl rfl rfl (two_of HT_.out (by kernel_rfl)) (by decide) (by decide) (fun K hK => ?_) (fun K hK => ?_)
         ·skip
          refine gs _ (#[.agg #[.slice ad a7.length ae],.agg #[.string aq,.string ay,.bool (au==0)]]) Tryd.func15 ?_;(with_reducible refine (spec_Put.calls k1 _ _ a7 aq ay (au==0) aV aI _ ?side1 ?side2 bC.out).mono ?_);(case side1=>repeat (first|exact (Kd.R_reads' a5.out).2.2|(with_reducible refine Kd.C_alloc ?_ _)|(with_reducible refine Kd.C_drewN ?_ _)|(with_reducible refine Kd.C_drew ?_)));(case side2=>exact (Kd.R_reads' a5.out).2.1);rintro e aO ⟨aN,rfl,ho0,hb⟩;refine ⟨_,rfl,?_⟩;refine Ya7 (Kd.R_elder' (kr a5.out) (Kd.R_base ho0) hb) (Kd.R_lower (Kd.R_new' ho0 (Kd.R_lt (kr a5.out))) (keep_size (w:=w) (g:=g) (row:=none) (kb HK.out))) (bb a4 hb) (bb a3 hb) (IsS173.below (iq173 a2.out) hb) (KeepBut.trans (kb HK.out) (KeepBut.of_below hb g none) (.inl rfl)) (below_step (bq173 HB.out a2.out) hb) ?_;clear a5 a4 a3 a2 HK HB;intro a5 aJ a4 a3 a2 HK HB;(try clear hb);(try clear hb2);(try clear hk);(try clear hi);(try clear ho0);refine hK.out _ _ (bc a3 0) (fun hHeld => ?_);clear hK K;refine nm 26 ?_;refine pu 10 16 (fb 16 2047) HT_ ?_;refine pu 11 27 (fb 16 4095) HT_ ?_;refine pu 12 28 (fb 16 8191) HT_ ?_;exact norm_ (by first|(simp only [putAll,Act.put,List.setIfInBounds_toArray,List.set_cons_zero,List.set_cons_succ];done)|(simp only [putAll,Act.put,List.setIfInBounds_toArray,List.set_cons_zero,List.set_cons_succ];rfl)) (hJ2_4_6_9 (aN) _ ⟨hHeld,(by (with_reducible repeat (first|apply Kd.R_alloc|apply Kd.R_drewN|apply Kd.R_drew));exact Kd.R_mono aJ.out (fun _ hk=>hk.2)),(by (with_reducible repeat (first|apply Kd.R_alloc|apply Kd.R_drewN|apply Kd.R_drew));exact Kd.R_mono a5.out (fun _ hk=>hk.2)),(bk a4.out),(bk a3.out),(iq173 a2.out),(kb HK.out),(bq173 HB.out a2.out)⟩)
         ·skip
          refine bst 5 25 (#[.slice none 0 0]) ?_;intro a6 hg aO hbox hb;refine Ya15 (Kd.R_below (kr a5.out) hb) (bb a4 hb) (bb a3 hb) (IsS173.below (iq173 a2.out) hb) (KeepBut.trans (kb HK.out) (KeepBut.of_below hb g none) (.inl rfl)) (below_step (bq173 HB.out a2.out) hb) (hbox) ((by rw [hg];exact (keep_size (w:=w) (g:=g) (row:=none) (kb HK.out)):w.heap.size≤a6)) ((Nat.le_trans HW0.out (by rw [hg];exact (keep_size (w:=w) (g:=g) (row:=none) (kb HK.out)):w.heap.size≤a6):w0.heap.size≤a6)) (bl hg a4) (br hg a4) (bl hg a3) (br hg a3) ((by rw [hg];exact Nat.ne_of_lt (IsS173.lt (show IsS173 w0 _ g s0_0 az from iq173 a2.out)):g≠a6)) ((by rw [hg];exact Nat.ne_of_gt (IsS173.lt (show IsS173 w0 _ g s0_0 az from iq173 a2.out)):a6≠g)) ?_;clear a5 a4 a3 a2 HK HB;intro a5 a4 a3 a2 HK HB aa av aw an ao am ap ar al;clear hb hbox hg;refine hK.out _ _ (bc a3 0) (fun hHeld => ?_);clear hK K;refine nm 5 ?_;exact norm_ (by first|(simp only [putAll,Act.put,List.setIfInBounds_toArray,List.set_cons_zero,List.set_cons_succ];done)|(simp only [putAll,Act.put,List.setIfInBounds_toArray,List.set_cons_zero,List.set_cons_succ];rfl)) (hJ2_4_6_13 (a6) _ ⟨hHeld,(kr a5.out),(bk a4.out),(bk a3.out),(bk aa.out),av.out,aw.out,ar.out,al.out,an.out,ao.out,am.out,ap.out,(iq173 a2.out),(kb HK.out),(bq173 HB.out a2.out)⟩)
       ·skip
        rintro a6 aO ⟨hS_,h0_,h1_,h2_,h3_,h4_,h5_,h6_,h7_,h8_,h9_,h10_,h11_,h12_,h13_,h14_⟩
        have af:Aside0 (Kd.R k27 27 aO w.heap.size (fun _=>True) (.slice ad a7.length ae) a7):=⟨h0_⟩
        have ag:Aside0 (aO.heap[a9]? = some (.cells #[.slice none 0 0] 25 (0,0))):=⟨h1_⟩
        have ah:Aside0 (aO.heap[a8]? = some (.cells #[.slice ad a7.length ae] 25 (0,0))):=⟨h2_⟩
        have ai:Aside0 (aO.heap[a6]? = some (.cells #[.slice none 0 0] 25 (0,0))):=⟨h3_⟩
        have aj:Aside0 (w.heap.size≤a6):=⟨h4_⟩
        have ak:Aside0 (w0.heap.size≤a6):=⟨h5_⟩
        have ax:Aside0 (g≠a6):=⟨h6_⟩
        have aA:Aside0 (a6≠g):=⟨h7_⟩
        have aB:Aside0 (a9≠a6):=⟨h8_⟩
        have aC:Aside0 (a6≠a9):=⟨h9_⟩
        have aD:Aside0 (a8≠a6):=⟨h10_⟩
        have aE:Aside0 (a6≠a8):=⟨h11_⟩
        have aF:Aside0 (IsS173 w0 aO g s0_0 az):=⟨h12_⟩
        have aG:Aside0 (KeepBut w aO g none):=⟨h13_⟩
        have aH:Aside0 (Below w0.heap.size w0 aO):=⟨h14_⟩
        clear a5;clear a4;clear a3;clear a2;clear HK;clear HB;clear h0_ h1_ h2_ h3_ h4_ h5_ h6_ h7_ h8_ h9_ h10_ h11_ h12_ h13_ h14_;have a5:=af;have a4:=ag;have a3:=ah;have aa:=ai;have av:=aj;have aw:=ak;have ar:=ax;have al:=aA;have an:=aB;have ao:=aC;have am:=aD;have ap:=aE;have a2:=aF;have HK:=aG;have HB:=aH;clear af ag ah ai aj ak ax aA aB aC aD aE aF aG aH;have hHeld:aO.cell? ⟨a8,0,none⟩=some (.slice ad a7.length ae):=hS_;refine norm_ (a':=?_) ?_ ?_;rotate_left
        ·simp only [putAll,Act.put,List.setIfInBounds_toArray,List.set_cons_zero,List.set_cons_succ];rfl
        refine o1 9 (some 26) (fb 16 9215) HT_ (fun K hK => ?_);refine gs _ (#[.agg #[.slice ad a7.length ae],.agg #[.string aq,.string ay,.bool (au==0)]]) Tryd.func15 ?_;(with_reducible refine (spec_Put.calls k1 _ _ a7 aq ay (au==0) aV aI _ ?side1 ?side2 bC.out).mono ?_);(case side1=>repeat (first|exact (Kd.R_reads' a5.out).2.2|(with_reducible refine Kd.C_alloc ?_ _)|(with_reducible refine Kd.C_drewN ?_ _)|(with_reducible refine Kd.C_drew ?_)));(case side2=>exact (Kd.R_reads' a5.out).2.1);rintro e b1 ⟨aN,rfl,ho0,hb⟩;refine ⟨_,rfl,?_⟩;refine Ya8 (Kd.R_elder' (kr a5.out) (Kd.R_base ho0) hb) (Kd.R_lower (Kd.R_new' ho0 (Kd.R_lt (kr a5.out))) (keep_size (w:=w) (g:=g) (row:=none) (kb HK.out))) (bb a4 hb) (bb a3 hb) (IsS173.below (iq173 a2.out) hb) (bb aa hb) (KeepBut.trans (kb HK.out) (KeepBut.of_below hb g none) (.inl rfl)) (below_step (bq173 HB.out a2.out) hb) ?_;clear a5 a4 a3 a2 aa HK HB;intro a5 aJ a4 a3 a2 aa HK HB;(try clear hb);(try clear hb2);(try clear hk);(try clear hi);(try clear ho0);refine hK.out _ _ (bc a3 0) (fun hHeld => ?_);clear hK K;refine nm 26 ?_;refine pu 10 16 (fb 16 10239) HT_ ?_;refine pu 11 27 (fb 16 12287) HT_ ?_;refine pu 12 28 (fb 16 16383) HT_ ?_;exact norm_ (by first|(simp only [putAll,Act.put,List.setIfInBounds_toArray,List.set_cons_zero,List.set_cons_succ];done)|(simp only [putAll,Act.put,List.setIfInBounds_toArray,List.set_cons_zero,List.set_cons_succ];rfl)) (hJ2_4_6_9_13 (aN,a6) _ ⟨hHeld,(by (with_reducible repeat (first|apply Kd.R_alloc|apply Kd.R_drewN|apply Kd.R_drew));exact Kd.R_mono aJ.out (fun _ hk=>hk.2)),(by (with_reducible repeat (first|apply Kd.R_alloc|apply Kd.R_drewN|apply Kd.R_drew));exact Kd.R_mono a5.out (fun _ hk=>hk.2)),(bk a4.out),(bk a3.out),(bk aa.out),av.out,aw.out,ar.out,al.out,an.out,ao.out,am.out,ap.out,(iq173 a2.out),(kb HK.out),(bq173 HB.out a2.out)⟩)
      ·skip
       rintro aN aO ⟨hS_,h0_,h1_,h2_,h3_,h4_,h5_,h6_⟩
       have af:Aside0 (Kd.R k27 27 aO w.heap.size (fun k_=>some k_≠(.slice ad a7.length ae:Value).ownBlock) aN aV):=⟨h0_⟩
       have ag:Aside0 (Kd.R k27 27 aO w.heap.size (fun k_=>some k_≠(aN:Value).ownBlock) (.slice ad a7.length ae) a7):=⟨h1_⟩
       have ah:Aside0 (aO.heap[a9]? = some (.cells #[.slice none 0 0] 25 (0,0))):=⟨h2_⟩
       have ai:Aside0 (aO.heap[a8]? = some (.cells #[.slice ad a7.length ae] 25 (0,0))):=⟨h3_⟩
       have aj:Aside0 (IsS173 w0 aO g s0_0 az):=⟨h4_⟩
       have ak:Aside0 (KeepBut w aO g none):=⟨h5_⟩
       have ax:Aside0 (Below w0.heap.size w0 aO):=⟨h6_⟩
       clear a5;clear a4;clear a3;clear a2;clear HK;clear HB;clear h0_ h1_ h2_ h3_ h4_ h5_ h6_;have aJ:=af;have a5:=ag;have a4:=ah;have a3:=ai;have a2:=aj;have HK:=ak;have HB:=ax;clear af ag ah ai aj ak ax;have hHeld:aO.cell? ⟨a8,0,none⟩=some (.slice ad a7.length ae):=hS_;refine norm_ (a':=?_) ?_ ?_;rotate_left
       ·simp only [putAll,Act.put,List.setIfInBounds_toArray,List.set_cons_zero,List.set_cons_succ];rfl
       refine o1 13 (some 5) (fb 16 16383) HT_ (fun K hK => ?_);refine bst 5 25 (#[.slice none 0 0]) ?_;intro a6 hg b1 hbox hb;refine Ya16 (Kd.R_below (kr a5.out) hb) (Kd.R_below (kr aJ.out) hb) (bb a4 hb) (bb a3 hb) (IsS173.below (iq173 a2.out) hb) (KeepBut.trans (kb HK.out) (KeepBut.of_below hb g none) (.inl rfl)) (below_step (bq173 HB.out a2.out) hb) (hbox) ((by rw [hg];exact (keep_size (w:=w) (g:=g) (row:=none) (kb HK.out)):w.heap.size≤a6)) ((Nat.le_trans HW0.out (by rw [hg];exact (keep_size (w:=w) (g:=g) (row:=none) (kb HK.out)):w.heap.size≤a6):w0.heap.size≤a6)) (bl hg a4) (br hg a4) (bl hg a3) (br hg a3) ((by rw [hg];exact Nat.ne_of_lt (IsS173.lt (show IsS173 w0 _ g s0_0 az from iq173 a2.out)):g≠a6)) ((by rw [hg];exact Nat.ne_of_gt (IsS173.lt (show IsS173 w0 _ g s0_0 az from iq173 a2.out)):a6≠g)) ?_;clear a5 aJ a4 a3 a2 HK HB;intro a5 aJ a4 a3 a2 HK HB aa av aw an ao am ap ar al;clear hb hbox hg;refine hK.out _ _ (bc a3 0) (fun hHeld => ?_);clear hK K;refine nm 5 ?_;exact norm_ (by first|(simp only [putAll,Act.put,List.setIfInBounds_toArray,List.set_cons_zero,List.set_cons_succ];done)|(simp only [putAll,Act.put,List.setIfInBounds_toArray,List.set_cons_zero,List.set_cons_succ];rfl)) (hJ2_4_6_9_13 (aN,a6) _ ⟨hHeld,(kr aJ.out),(kr a5.out),(bk a4.out),(bk a3.out),(bk aa.out),av.out,aw.out,ar.out,al.out,an.out,ao.out,am.out,ap.out,(iq173 a2.out),(kb HK.out),(bq173 HB.out a2.out)⟩)
     rintro ⟨aN,a6⟩ b1 ⟨hS_,h0_,h1_,h2_,h3_,h4_,h5_,h6_,h7_,h8_,h9_,h10_,h11_,h12_,h13_,h14_,h15_⟩
     have af:Aside0 (Kd.R k27 27 b1 w.heap.size (fun k_=>some k_≠(.slice ad a7.length ae:Value).ownBlock) aN aV):=⟨h0_⟩
     have ag:Aside0 (Kd.R k27 27 b1 w.heap.size (fun k_=>some k_≠(aN:Value).ownBlock) (.slice ad a7.length ae) a7):=⟨h1_⟩
     have ah:Aside0 (b1.heap[a9]? = some (.cells #[.slice none 0 0] 25 (0,0))):=⟨h2_⟩
     have ai:Aside0 (b1.heap[a8]? = some (.cells #[.slice ad a7.length ae] 25 (0,0))):=⟨h3_⟩
     have aj:Aside0 (b1.heap[a6]? = some (.cells #[.slice none 0 0] 25 (0,0))):=⟨h4_⟩
     have ak:Aside0 (w.heap.size≤a6):=⟨h5_⟩
     have ax:Aside0 (w0.heap.size≤a6):=⟨h6_⟩
     have aA:Aside0 (g≠a6):=⟨h7_⟩
     have aB:Aside0 (a6≠g):=⟨h8_⟩
     have aC:Aside0 (a9≠a6):=⟨h9_⟩
     have aD:Aside0 (a6≠a9):=⟨h10_⟩
     have aE:Aside0 (a8≠a6):=⟨h11_⟩
     have aF:Aside0 (a6≠a8):=⟨h12_⟩
     have aG:Aside0 (IsS173 w0 b1 g s0_0 az):=⟨h13_⟩
     have aH:Aside0 (KeepBut w b1 g none):=⟨h14_⟩
     have bq:Aside0 (Below w0.heap.size w0 b1):=⟨h15_⟩
     clear a5;clear a4;clear a3;clear a2;clear HK;clear HB;clear h0_ h1_ h2_ h3_ h4_ h5_ h6_ h7_ h8_ h9_ h10_ h11_ h12_ h13_ h14_ h15_;have aJ:=af;have a5:=ag;have a4:=ah;have a3:=ai;have aa:=aj;have av:=ak;have aw:=ax;have ar:=aA;have al:=aB;have an:=aC;have ao:=aD;have am:=aE;have ap:=aF;have a2:=aG;have HK:=aH;have HB:=bq;clear af ag ah ai aj ak ax aA aB aC aD aE aF aG aH bq;have hHeld:b1.cell? ⟨a8,0,none⟩=some (.slice ad a7.length ae):=hS_;obtain ⟨bG,bH,bO⟩:=Kd.R_slice aJ.out;(first|subst bO|(injection bO with f1_ f2_ f3_;have f4_:=f1_.symm;have f5_:=f3_.symm;clear f1_ f2_ f3_;subst f4_;subst f5_));refine norm_ (a':=?_) ?_ ?_;rotate_left
     ·simp only [putAll,Act.put,List.setIfInBounds_toArray,List.set_cons_zero,List.set_cons_succ];rfl
     refine o1 14 none (fb 16 32767) HT_ (fun K hK => ?_);have ⟨hs24,hfs24⟩:=Yc1 aa.out;have cs:=an.out;have ct:=am.out;have cu:=ao.out;have cv:=ap.out;refine skip_ (w1:=?_) (by rfl) rfl ?_ ?_;rotate_left
     ·go_simp;rfl
     refine hK.out _ _ (((cell_far (p:=⟨a6,_,none⟩) am.out _).trans (hHeld))) (fun hHeld => ?_);clear hK K;refine pu 15 6 (fb 16 65535) HT_ ?_;refine done_ (done_of HT_.out (by kernel_rfl)) ?_;have hnb25:=ao.out;have hnc25:=an.out;have hnb26:=ap.out;have hnc26:=am.out;have hnb27:=al.out;have hnc27:=ar.out;have ⟨cw,cx⟩:=Yc1 aa.out;have hnb29:=bn.out;have hnc29:=bg.out;have hnb30:=aK.out;have hnc30:=bo.out;have ⟨cy,cz⟩:=Yc1 a3.out
     try go_wp2
     go_roundg k1
     case measure=>have:=HK1.out;omega
     case rel=>exact ⟨(wrap64 (aX - 1)),(az),(aV),(.slice bG aV.length bH),Ye1,H',⟨by have:=HK1.out;omega⟩,⟨by (with_reducible repeat (first|apply Kd.R_alloc|apply Kd.R_drewN|apply Kd.R_drew));exact Kd.R_mono (Kd.R_far (p:=⟨a8,0,none⟩) (Kd.R_far (p:=⟨a6,0,none⟩) (Kd.R_types (Kd.R_types aJ.out aa.out (by decide)) a3.out (by decide)) (fun _ hk=>hk.1.2) (.slice bG aV.length bH)) (fun _ hk=>hk.2) (.slice bG aV.length bH)) (fun _ hk=>trivial)⟩,⟨bp a4.out⟩,⟨bp a3.out⟩,⟨iq173 a2.out⟩,⟨kb HK.out⟩,⟨bq173 HB.out a2.out⟩⟩
    ·rw [if_neg bh] at H
     have cf:(aI==0)=false:=beq_eq_false_iff_ne.mpr bh;have cg:(aI != 0)=true:=bne_iff_ne.mpr bh;have H':=Aside0.mk H;clear H;obtain ⟨ab,ac,ci⟩:=Kd.R_slice a5.out;subst ci
     try go_wp2
     refine Ya6 (Kd.R_drew a5.out) (blk_drew a4.out) (blk_drew a3.out) (IsS173.drew a2.out) (keep_drew HK.out) (below_drew1 HB.out) ?_;clear a5 a4 a3 a2 HK HB;intro a5 a4 a3 a2 HK HB;refine start_ (n:=16) (S:=fun w'=>w'.cell? ⟨a8,0,none⟩=some (.slice ab a7.length ac)) (ds:=[]) (fb 16 0) (by kernel_rfl) rfl rfl (bc a3 0) (fun hHeld => ?_);refine with_tabW spec_l5Draw.tab5 spec_l5Draw.bits5 (fun HT_ HW_ => ?_);generalize wr.drew=w33 at a5 a4 a3 a2 HK HB hHeld ⊢; refine pu 1 18 (fb 16 2) HT_ ?_;refine pu 3 20 (fb 16 10) HT_ ?_;refine pu 5 22 (fb 16 42) HT_ ?_;refine take_ (i:=0) (N:=some 17) (v:=?_) (a':=?_) (fb 16 43) rfl rfl (take_ofW HT_.out HW_.out (by kernel_rfl)) (fun _ _ _ h=>h) (Or.inl ⟨by rfl,?_⟩) hHeld ?_ ?_;rotate_left
     ·intro w' s0;go_simp;(with_reducible rfl)
     rotate_left
     ·simp only [Act.put,List.setIfInBounds_toArray,List.set_cons_zero,List.set_cons_succ,i64_w,i32_w];rfl
     refine join_ (σ:=Value×Nat) 2 (fb 16 16383) (fun s_ => [(19,.string aq),(21,.string ay),(23,.int .i64 au),(26,.tuple #[.agg #[s_.1],.int .i64 aI]),(5,.pointer (some ⟨s_.2,0,none⟩)),(24,.bool (au==0)),(25,.agg #[.string aq,.string ay,.bool (au==0)]),(16,.tuple #[.agg #[s_.1],.int .i64 aI]),(27,.agg #[s_.1]),(28,.int .i64 aI)]) (fun s_ w'=>(w'.cell? ⟨a8,0,none⟩=some (.slice ab a7.length ac))∧(Kd.R k27 27 w' w.heap.size (fun k_=>some k_≠(.slice ab a7.length ac:Value).ownBlock) s_.1 aV)∧(Kd.R k27 27 w' w.heap.size (fun k_=>some k_≠(s_.1:Value).ownBlock) (.slice ab a7.length ac) a7)∧(w'.heap[a9]? = some (.cells #[.slice none 0 0] 25 (0,0)))∧(w'.heap[a8]? = some (.cells #[.slice ab a7.length ac] 25 (0,0)))∧(w'.heap[s_.2]? = some (.cells #[.slice none 0 0] 25 (0,0)))∧(w.heap.size≤s_.2)∧(w0.heap.size≤s_.2)∧(g≠s_.2)∧(s_.2≠g)∧(a9≠s_.2)∧(s_.2≠a9)∧(a8≠s_.2)∧(s_.2≠a8)∧(IsS173 w0 w' g s0_0 az)∧(KeepBut w w' g none)∧(Below w0.heap.size w0 w')) ?_ ?_;rotate_left
     ·intro hJ2_4_6_9_13; refine join_ (σ := Value) 3 (fb 16 8191) (fun s_ => [(19, .string aq), (21, .string ay), (23, .int .i64 au), (26, .tuple #[.agg #[s_], .int .i64 aI]), (24, .bool (au == 0)), (25, .agg #[.string aq, .string ay, .bool (au == 0)]), (16, .tuple #[.agg #[s_], .int .i64 aI]), (27, .agg #[s_]), (28, .int .i64 aI)]) (fun s_ w' => (w'.cell? ⟨a8, 0, none⟩ = some (.slice ab a7.length ac)) ∧ (Kd.R k27 27 w' w.heap.size (fun k_ => some k_ ≠ (.slice ab a7.length ac : Value).ownBlock) s_ aV) ∧ (Kd.R k27 27 w' w.heap.size (fun k_ => some k_ ≠ (s_ : Value).ownBlock) (.slice ab a7.length ac) a7) ∧ (w'.heap[a9]? = some (.cells #[.slice none 0 0] 25 (0, 0))) ∧ (w'.heap[a8]? = some (.cells #[.slice ab a7.length ac] 25 (0, 0))) ∧ (IsS173 w0 w' g s0_0 az) ∧ (KeepBut w w' g none) ∧ (Below w0.heap.size w0 w')) ?_ ?_; rotate_left
      ·intro hJ2_4_6_9; refine join_ (σ := Nat) 6 (fb 16 8703) (fun s_ => [(19, .string aq), (21, .string ay), (23, .int .i64 au), (5, .pointer (some ⟨s_, 0, none⟩)), (24, .bool (au == 0)), (25, .agg #[.string aq, .string ay, .bool (au == 0)])]) (fun s_ w' => (w'.cell? ⟨a8, 0, none⟩ = some (.slice ab a7.length ac)) ∧ (Kd.R k27 27 w' w.heap.size (fun _ => True) (.slice ab a7.length ac) a7) ∧ (w'.heap[a9]? = some (.cells #[.slice none 0 0] 25 (0, 0))) ∧ (w'.heap[a8]? = some (.cells #[.slice ab a7.length ac] 25 (0, 0))) ∧ (w'.heap[s_]? = some (.cells #[.slice none 0 0] 25 (0, 0))) ∧ (w.heap.size ≤ s_) ∧ (w0.heap.size ≤ s_) ∧ (g ≠ s_) ∧ (s_ ≠ g) ∧ (a9 ≠ s_) ∧ (s_ ≠ a9) ∧ (a8 ≠ s_) ∧ (s_ ≠ a8) ∧ (IsS173 w0 w' g s0_0 az) ∧ (KeepBut w w' g none) ∧ (Below w0.heap.size w0 w')) ?_ ?_; rotate_left
       ·intro hJ2_4_6_13; refine join_ (σ := Unit) 7 (fb 16 511) (fun s_ => [(19, .string aq), (21, .string ay), (23, .int .i64 au), (24, .bool (au == 0)), (25, .agg #[.string aq, .string ay, .bool (au == 0)])]) (fun s_ w' => (w'.cell? ⟨a8, 0, none⟩ = some (.slice ab a7.length ac)) ∧ (Kd.R k27 27 w' w.heap.size (fun _ => True) (.slice ab a7.length ac) a7) ∧ (w'.heap[a9]? = some (.cells #[.slice none 0 0] 25 (0, 0))) ∧ (w'.heap[a8]? = some (.cells #[.slice ab a7.length ac] 25 (0, 0))) ∧ (IsS173 w0 w' g s0_0 az) ∧ (KeepBut w w' g none) ∧ (Below w0.heap.size w0 w')) ?_ ?_; rotate_left
        ·intro hJ2_4_6; refine join_ (σ := Nat) 9 (fb 16 8255) (fun s_ => [(19, .string aq), (21, .string ay), (5, .pointer (some ⟨s_, 0, none⟩))]) (fun s_ w' => (w'.cell? ⟨a8, 0, none⟩ = some (.slice ab a7.length ac)) ∧ (Kd.R k27 27 w' w.heap.size (fun _ => True) (.slice ab a7.length ac) a7) ∧ (w'.heap[a9]? = some (.cells #[.slice none 0 0] 25 (0, 0))) ∧ (w'.heap[a8]? = some (.cells #[.slice ab a7.length ac] 25 (0, 0))) ∧ (w'.heap[s_]? = some (.cells #[.slice none 0 0] 25 (0, 0))) ∧ (w.heap.size ≤ s_) ∧ (w0.heap.size ≤ s_) ∧ (g ≠ s_) ∧ (s_ ≠ g) ∧ (a9 ≠ s_) ∧ (s_ ≠ a9) ∧ (a8 ≠ s_) ∧ (s_ ≠ a8) ∧ (IsS173 w0 w' g s0_0 aM) ∧ (KeepBut w w' g none) ∧ (Below w0.heap.size w0 w')) ?_ ?_; rotate_left
         ·intro hJ2_4_13;refine join_ (σ:=Unit) 10 (fb 16 63) (fun s_ => [(19,.string aq),(21,.string ay)]) (fun s_ w'=>(w'.cell? ⟨a8,0,none⟩=some (.slice ab a7.length ac))∧(Kd.R k27 27 w' w.heap.size (fun _=>True) (.slice ab a7.length ac) a7)∧(w'.heap[a9]? = some (.cells #[.slice none 0 0] 25 (0,0)))∧(w'.heap[a8]? = some (.cells #[.slice ab a7.length ac] 25 (0,0)))∧(IsS173 w0 w' g s0_0 aM)∧(KeepBut w w' g none)∧(Below w0.heap.size w0 w')) ?_ ?_;rotate_left
          ·intro hJ2_4;refine join_ (σ:=Nat) 10 (fb 16 8239) (fun s_ => [(19,.string aq),(5,.pointer (some ⟨s_,0,none⟩))]) (fun s_ w'=>(w'.cell? ⟨a8,0,none⟩=some (.slice ab a7.length ac))∧(Kd.R k27 27 w' w.heap.size (fun _=>True) (.slice ab a7.length ac) a7)∧(w'.heap[a9]? = some (.cells #[.slice none 0 0] 25 (0,0)))∧(w'.heap[a8]? = some (.cells #[.slice ab a7.length ac] 25 (0,0)))∧(w'.heap[s_]? = some (.cells #[.slice none 0 0] 25 (0,0)))∧(w.heap.size≤s_)∧(w0.heap.size≤s_)∧(g≠s_)∧(s_≠g)∧(a9≠s_)∧(s_≠a9)∧(a8≠s_)∧(s_≠a8)∧(IsS173 w0 w' g s0_0 aL)∧(KeepBut w w' g none)∧(Below w0.heap.size w0 w')) ?_ ?_;rotate_left
           ·intro hJ2_13;refine join_ (σ:=Unit) 11 (fb 16 47) (fun s_ => [(19,.string aq)]) (fun s_ w'=>(w'.cell? ⟨a8,0,none⟩=some (.slice ab a7.length ac))∧(Kd.R k27 27 w' w.heap.size (fun _=>True) (.slice ab a7.length ac) a7)∧(w'.heap[a9]? = some (.cells #[.slice none 0 0] 25 (0,0)))∧(w'.heap[a8]? = some (.cells #[.slice ab a7.length ac] 25 (0,0)))∧(IsS173 w0 w' g s0_0 aL)∧(KeepBut w w' g none)∧(Below w0.heap.size w0 w')) ?_ ?_;rotate_left
            ·intro hJ2;refine join_ (σ:=Nat) 11 (fb 16 8235) (fun s_ => [(5,.pointer (some ⟨s_,0,none⟩))]) (fun s_ w'=>(w'.cell? ⟨a8,0,none⟩=some (.slice ab a7.length ac))∧(Kd.R k27 27 w' w.heap.size (fun _=>True) (.slice ab a7.length ac) a7)∧(w'.heap[a9]? = some (.cells #[.slice none 0 0] 25 (0,0)))∧(w'.heap[a8]? = some (.cells #[.slice ab a7.length ac] 25 (0,0)))∧(w'.heap[s_]? = some (.cells #[.slice none 0 0] 25 (0,0)))∧(w.heap.size≤s_)∧(w0.heap.size≤s_)∧(g≠s_)∧(s_≠g)∧(a9≠s_)∧(s_≠a9)∧(a8≠s_)∧(s_≠a8)∧(IsS173 w0 w' g s0_0 aW)∧(KeepBut w w' g none)∧(Below w0.heap.size w0 w')) ?_ ?_;rotate_left
             ·intro hJ13;refine two_ (i:=2) (j:=13) (Ni:=some 19) (Nj:=some 5) (fb 16 47) (fb 16 8235) rfl rfl rfl rfl (two_of HT_.out (by kernel_rfl)) (by decide) (by decide) (fun K hK => ?_) (fun K hK => ?_)
              ·skip
               refine gs _ (#[.pointer (some ⟨g,0,none⟩)]) Tryd.func77 ?_;(with_reducible refine (spec_l4Path.calls k1 g s0_0 aW aq aL w0 _ ?side1 ?side2 bz.out).mono ?_);(case side1=>exact iq173 a2.out);(case side2=>exact bq173 HB.out a2.out);rintro e w34 ⟨rfl,hi,hb,hk⟩;refine ⟨_,rfl,?_⟩;refine Ya6 (ra173 (iq173 a2.out) (kr a5.out) hk) (kx hk a4 aU) (kx hk a3 aK) (KeepBut.trans (kb HK.out) hk (.inl rfl)) (hb) (hi) ?_;clear a5 a4 a3 HK HB a2;intro a5 a4 a3 HK HB a2;(try clear hb);(try clear hb2);(try clear hk);(try clear hi);refine hK.out _ _ (bc a3 0) (fun hHeld => ?_);clear hK K;refine nm 19 ?_;exact norm_ (by first|(simp only [putAll,Act.put,List.setIfInBounds_toArray,List.set_cons_zero,List.set_cons_succ];done)|(simp only [putAll,Act.put,List.setIfInBounds_toArray,List.set_cons_zero,List.set_cons_succ];rfl)) (hJ2 () _ ⟨hHeld,(kr a5.out),(bk a4.out),(bk a3.out),(iq173 a2.out),(kb HK.out),(bq173 HB.out a2.out)⟩)
              ·skip
               refine bst 5 25 (#[.slice none 0 0]) ?_;intro a6 hg w34 hbox hb;refine Ya15 (Kd.R_below (kr a5.out) hb) (bb a4 hb) (bb a3 hb) (IsS173.below (iq173 a2.out) hb) (KeepBut.trans (kb HK.out) (KeepBut.of_below hb g none) (.inl rfl)) (below_step (bq173 HB.out a2.out) hb) (hbox) ((by rw [hg];exact (keep_size (w:=w) (g:=g) (row:=none) (kb HK.out)):w.heap.size≤a6)) ((Nat.le_trans HW0.out (by rw [hg];exact (keep_size (w:=w) (g:=g) (row:=none) (kb HK.out)):w.heap.size≤a6):w0.heap.size≤a6)) (bl hg a4) (br hg a4) (bl hg a3) (br hg a3) ((by rw [hg];exact Nat.ne_of_lt (IsS173.lt (show IsS173 w0 _ g s0_0 aW from iq173 a2.out)):g≠a6)) ((by rw [hg];exact Nat.ne_of_gt (IsS173.lt (show IsS173 w0 _ g s0_0 aW from iq173 a2.out)):a6≠g)) ?_;clear a5 a4 a3 a2 HK HB;intro a5 a4 a3 a2 HK HB aa av aw an ao am ap ar al;clear hb hbox hg;refine hK.out _ _ (bc a3 0) (fun hHeld => ?_);clear hK K;refine nm 5 ?_;exact norm_ (by first|(simp only [putAll,Act.put,List.setIfInBounds_toArray,List.set_cons_zero,List.set_cons_succ];done)|(simp only [putAll,Act.put,List.setIfInBounds_toArray,List.set_cons_zero,List.set_cons_succ];rfl)) (hJ13 (a6) _ ⟨hHeld,(kr a5.out),(bk a4.out),(bk a3.out),(bk aa.out),av.out,aw.out,ar.out,al.out,an.out,ao.out,am.out,ap.out,(iq173 a2.out),(kb HK.out),(bq173 HB.out a2.out)⟩)
             ·skip
              rintro a6 aZ ⟨hS_,h0_,h1_,h2_,h3_,h4_,h5_,h6_,h7_,h8_,h9_,h10_,h11_,h12_,h13_,h14_⟩
              have af:Aside0 (Kd.R k27 27 aZ w.heap.size (fun _=>True) (.slice ab a7.length ac) a7):=⟨h0_⟩
              have ag:Aside0 (aZ.heap[a9]? = some (.cells #[.slice none 0 0] 25 (0,0))):=⟨h1_⟩
              have ah:Aside0 (aZ.heap[a8]? = some (.cells #[.slice ab a7.length ac] 25 (0,0))):=⟨h2_⟩
              have ai:Aside0 (aZ.heap[a6]? = some (.cells #[.slice none 0 0] 25 (0,0))):=⟨h3_⟩
              have aj:Aside0 (w.heap.size≤a6):=⟨h4_⟩
              have ak:Aside0 (w0.heap.size≤a6):=⟨h5_⟩
              have ax:Aside0 (g≠a6):=⟨h6_⟩
              have aA:Aside0 (a6≠g):=⟨h7_⟩
              have aB:Aside0 (a9≠a6):=⟨h8_⟩
              have aC:Aside0 (a6≠a9):=⟨h9_⟩
              have aD:Aside0 (a8≠a6):=⟨h10_⟩
              have aE:Aside0 (a6≠a8):=⟨h11_⟩
              have aF:Aside0 (IsS173 w0 aZ g s0_0 aW):=⟨h12_⟩
              have aG:Aside0 (KeepBut w aZ g none):=⟨h13_⟩
              have aH:Aside0 (Below w0.heap.size w0 aZ):=⟨h14_⟩
              clear a5;clear a4;clear a3;clear a2;clear HK;clear HB;clear h0_ h1_ h2_ h3_ h4_ h5_ h6_ h7_ h8_ h9_ h10_ h11_ h12_ h13_ h14_;have a5:=af;have a4:=ag;have a3:=ah;have aa:=ai;have av:=aj;have aw:=ak;have ar:=ax;have al:=aA;have an:=aB;have ao:=aC;have am:=aD;have ap:=aE;have a2:=aF;have HK:=aG;have HB:=aH;clear af ag ah ai aj ak ax aA aB aC aD aE aF aG aH;have hHeld:aZ.cell? ⟨a8,0,none⟩=some (.slice ab a7.length ac):=hS_;refine norm_ (a':=?_) ?_ ?_;rotate_left
              ·simp only [putAll,Act.put,List.setIfInBounds_toArray,List.set_cons_zero,List.set_cons_succ];rfl
              refine o1 2 (some 19) (fb 16 8239) HT_ (fun K hK => ?_);refine gs _ (#[.pointer (some ⟨g,0,none⟩)]) Tryd.func77 ?_;(with_reducible refine (spec_l4Path.calls k1 g s0_0 aW aq aL w0 _ ?side1 ?side2 bz.out).mono ?_);(case side1=>exact iq173 a2.out);(case side2=>exact bq173 HB.out a2.out);rintro e aS ⟨rfl,hi,hb,hk⟩;refine ⟨_,rfl,?_⟩;refine Ya7 (ra173 (iq173 a2.out) (kr a5.out) hk) (kx hk a4 aU) (kx hk a3 aK) (kx hk aa al) (KeepBut.trans (kb HK.out) hk (.inl rfl)) (hb) (hi) ?_;clear a5 a4 a3 aa HK HB a2;intro a5 a4 a3 aa HK HB a2;(try clear hb);(try clear hb2);(try clear hk);(try clear hi);refine hK.out _ _ (bc a3 0) (fun hHeld => ?_);clear hK K;refine nm 19 ?_;exact norm_ (by first|(simp only [putAll,Act.put,List.setIfInBounds_toArray,List.set_cons_zero,List.set_cons_succ];done)|(simp only [putAll,Act.put,List.setIfInBounds_toArray,List.set_cons_zero,List.set_cons_succ];rfl)) (hJ2_13 (a6) _ ⟨hHeld,(kr a5.out),(bk a4.out),(bk a3.out),(bk aa.out),av.out,aw.out,ar.out,al.out,an.out,ao.out,am.out,ap.out,(iq173 a2.out),(kb HK.out),(bq173 HB.out a2.out)⟩)
            ·skip
             rintro _ aZ ⟨hS_,h0_,h1_,h2_,h3_,h4_,h5_⟩
             have af:Aside0 (Kd.R k27 27 aZ w.heap.size (fun _=>True) (.slice ab a7.length ac) a7):=⟨h0_⟩
             have ag:Aside0 (aZ.heap[a9]? = some (.cells #[.slice none 0 0] 25 (0,0))):=⟨h1_⟩
             have ah:Aside0 (aZ.heap[a8]? = some (.cells #[.slice ab a7.length ac] 25 (0,0))):=⟨h2_⟩
             have ai:Aside0 (IsS173 w0 aZ g s0_0 aL):=⟨h3_⟩
             have aj:Aside0 (KeepBut w aZ g none):=⟨h4_⟩
             have ak:Aside0 (Below w0.heap.size w0 aZ):=⟨h5_⟩
             clear a5;clear a4;clear a3;clear a2;clear HK;clear HB;clear h0_ h1_ h2_ h3_ h4_ h5_;have a5:=af;have a4:=ag;have a3:=ah;have a2:=ai;have HK:=aj;have HB:=ak;clear af ag ah ai aj ak;have hHeld:aZ.cell? ⟨a8,0,none⟩=some (.slice ab a7.length ac):=hS_;refine norm_ (a':=?_) ?_ ?_;rotate_left
             ·simp only [putAll,Act.put,List.setIfInBounds_toArray,List.set_cons_zero,List.set_cons_succ];rfl
             refine two_ (i:=4) (j:=13) (Ni:=some 21) (Nj:=some 5) (fb 16 63) (fb 16 8239) rfl rfl rfl rfl (two_of HT_.out (by kernel_rfl)) (by decide) (by decide) (fun K hK => ?_) (fun K hK => ?_)
             ·skip
              refine gs _ (#[.pointer (some ⟨g,0,none⟩)]) Tryd.func65 ?_;(with_reducible refine (spec_l1Text.calls k1 g s0_0 aL ay aM w0 _ ?side1 ?side2 bA.out).mono ?_);(case side1=>exact iq173 a2.out);(case side2=>exact bq173 HB.out a2.out);rintro e aS ⟨rfl,hi,hb,hk⟩;refine ⟨_,rfl,?_⟩;refine Ya6 (ra173 (iq173 a2.out) (kr a5.out) hk) (kx hk a4 aU) (kx hk a3 aK) (KeepBut.trans (kb HK.out) hk (.inl rfl)) (hb) (hi) ?_;clear a5 a4 a3 HK HB a2;intro a5 a4 a3 HK HB a2;(try clear hb);(try clear hb2);(try clear hk);(try clear hi);refine hK.out _ _ (bc a3 0) (fun hHeld => ?_);clear hK K;refine nm 21 ?_;exact norm_ (by first|(simp only [putAll,Act.put,List.setIfInBounds_toArray,List.set_cons_zero,List.set_cons_succ];done)|(simp only [putAll,Act.put,List.setIfInBounds_toArray,List.set_cons_zero,List.set_cons_succ];rfl)) (hJ2_4 () _ ⟨hHeld,(kr a5.out),(bk a4.out),(bk a3.out),(iq173 a2.out),(kb HK.out),(bq173 HB.out a2.out)⟩)
             ·skip
              refine bst 5 25 (#[.slice none 0 0]) ?_;intro a6 hg aS hbox hb;refine Ya15 (Kd.R_below (kr a5.out) hb) (bb a4 hb) (bb a3 hb) (IsS173.below (iq173 a2.out) hb) (KeepBut.trans (kb HK.out) (KeepBut.of_below hb g none) (.inl rfl)) (below_step (bq173 HB.out a2.out) hb) (hbox) ((by rw [hg];exact (keep_size (w:=w) (g:=g) (row:=none) (kb HK.out)):w.heap.size≤a6)) ((Nat.le_trans HW0.out (by rw [hg];exact (keep_size (w:=w) (g:=g) (row:=none) (kb HK.out)):w.heap.size≤a6):w0.heap.size≤a6)) (bl hg a4) (br hg a4) (bl hg a3) (br hg a3) ((by rw [hg];exact Nat.ne_of_lt (IsS173.lt (show IsS173 w0 _ g s0_0 aL from iq173 a2.out)):g≠a6)) ((by rw [hg];exact Nat.ne_of_gt (IsS173.lt (show IsS173 w0 _ g s0_0 aL from iq173 a2.out)):a6≠g)) ?_;clear a5 a4 a3 a2 HK HB;intro a5 a4 a3 a2 HK HB aa av aw an ao am ap ar al;clear hb hbox hg;refine hK.out _ _ (bc a3 0) (fun hHeld => ?_);clear hK K;refine nm 5 ?_;exact norm_ (by first|(simp only [putAll,Act.put,List.setIfInBounds_toArray,List.set_cons_zero,List.set_cons_succ];done)|(simp only [putAll,Act.put,List.setIfInBounds_toArray,List.set_cons_zero,List.set_cons_succ];rfl)) (hJ2_13 (a6) _ ⟨hHeld,(kr a5.out),(bk a4.out),(bk a3.out),(bk aa.out),av.out,aw.out,ar.out,al.out,an.out,ao.out,am.out,ap.out,(iq173 a2.out),(kb HK.out),(bq173 HB.out a2.out)⟩)
           ·skip
            rintro a6 aS ⟨hS_,h0_,h1_,h2_,h3_,h4_,h5_,h6_,h7_,h8_,h9_,h10_,h11_,h12_,h13_,h14_⟩
            have af:Aside0 (Kd.R k27 27 aS w.heap.size (fun _=>True) (.slice ab a7.length ac) a7):=⟨h0_⟩
            have ag:Aside0 (aS.heap[a9]? = some (.cells #[.slice none 0 0] 25 (0,0))):=⟨h1_⟩
            have ah:Aside0 (aS.heap[a8]? = some (.cells #[.slice ab a7.length ac] 25 (0,0))):=⟨h2_⟩
            have ai:Aside0 (aS.heap[a6]? = some (.cells #[.slice none 0 0] 25 (0,0))):=⟨h3_⟩
            have aj:Aside0 (w.heap.size≤a6):=⟨h4_⟩
            have ak:Aside0 (w0.heap.size≤a6):=⟨h5_⟩
            have ax:Aside0 (g≠a6):=⟨h6_⟩
            have aA:Aside0 (a6≠g):=⟨h7_⟩
            have aB:Aside0 (a9≠a6):=⟨h8_⟩
            have aC:Aside0 (a6≠a9):=⟨h9_⟩
            have aD:Aside0 (a8≠a6):=⟨h10_⟩
            have aE:Aside0 (a6≠a8):=⟨h11_⟩
            have aF:Aside0 (IsS173 w0 aS g s0_0 aL):=⟨h12_⟩
            have aG:Aside0 (KeepBut w aS g none):=⟨h13_⟩
            have aH:Aside0 (Below w0.heap.size w0 aS):=⟨h14_⟩
            clear a5;clear a4;clear a3;clear a2;clear HK;clear HB;clear h0_ h1_ h2_ h3_ h4_ h5_ h6_ h7_ h8_ h9_ h10_ h11_ h12_ h13_ h14_;have a5:=af;have a4:=ag;have a3:=ah;have aa:=ai;have av:=aj;have aw:=ak;have ar:=ax;have al:=aA;have an:=aB;have ao:=aC;have am:=aD;have ap:=aE;have a2:=aF;have HK:=aG;have HB:=aH;clear af ag ah ai aj ak ax aA aB aC aD aE aF aG aH;have hHeld:aS.cell? ⟨a8,0,none⟩=some (.slice ab a7.length ac):=hS_;refine norm_ (a':=?_) ?_ ?_;rotate_left
            ·simp only [putAll,Act.put,List.setIfInBounds_toArray,List.set_cons_zero,List.set_cons_succ];rfl
            refine o1 4 (some 21) (fb 16 8255) HT_ (fun K hK => ?_);refine gs _ (#[.pointer (some ⟨g,0,none⟩)]) Tryd.func65 ?_;(with_reducible refine (spec_l1Text.calls k1 g s0_0 aL ay aM w0 _ ?side1 ?side2 bA.out).mono ?_);(case side1=>exact iq173 a2.out);(case side2=>exact bq173 HB.out a2.out);rintro e aT ⟨rfl,hi,hb,hk⟩;refine ⟨_,rfl,?_⟩;refine Ya7 (ra173 (iq173 a2.out) (kr a5.out) hk) (kx hk a4 aU) (kx hk a3 aK) (kx hk aa al) (KeepBut.trans (kb HK.out) hk (.inl rfl)) (hb) (hi) ?_;clear a5 a4 a3 aa HK HB a2;intro a5 a4 a3 aa HK HB a2;(try clear hb);(try clear hb2);(try clear hk);(try clear hi);refine hK.out _ _ (bc a3 0) (fun hHeld => ?_);clear hK K;refine nm 21 ?_;exact norm_ (by first|(simp only [putAll,Act.put,List.setIfInBounds_toArray,List.set_cons_zero,List.set_cons_succ];done)|(simp only [putAll,Act.put,List.setIfInBounds_toArray,List.set_cons_zero,List.set_cons_succ];rfl)) (hJ2_4_13 (a6) _ ⟨hHeld,(kr a5.out),(bk a4.out),(bk a3.out),(bk aa.out),av.out,aw.out,ar.out,al.out,an.out,ao.out,am.out,ap.out,(iq173 a2.out),(kb HK.out),(bq173 HB.out a2.out)⟩)
          ·skip
           rintro _ aS ⟨hS_,h0_,h1_,h2_,h3_,h4_,h5_⟩
           have af:Aside0 (Kd.R k27 27 aS w.heap.size (fun _=>True) (.slice ab a7.length ac) a7):=⟨h0_⟩
           have ag:Aside0 (aS.heap[a9]? = some (.cells #[.slice none 0 0] 25 (0,0))):=⟨h1_⟩
           have ah:Aside0 (aS.heap[a8]? = some (.cells #[.slice ab a7.length ac] 25 (0,0))):=⟨h2_⟩
           have ai:Aside0 (IsS173 w0 aS g s0_0 aM):=⟨h3_⟩
           have aj:Aside0 (KeepBut w aS g none):=⟨h4_⟩
           have ak:Aside0 (Below w0.heap.size w0 aS):=⟨h5_⟩
           clear a5;clear a4;clear a3;clear a2;clear HK;clear HB;clear h0_ h1_ h2_ h3_ h4_ h5_;have a5:=af;have a4:=ag;have a3:=ah;have a2:=ai;have HK:=aj;have HB:=ak;clear af ag ah ai aj ak;have hHeld:aS.cell? ⟨a8,0,none⟩=some (.slice ab a7.length ac):=hS_;refine norm_ (a':=?_) ?_ ?_;rotate_left
           ·simp only [putAll,Act.put,List.setIfInBounds_toArray,List.set_cons_zero,List.set_cons_succ];rfl
           refine two_ (i:=6) (j:=13) (Ni:=some 23) (Nj:=some 5) (fb 16 127) (fb 16 8255) rfl rfl rfl rfl (two_of HT_.out (by kernel_rfl)) (by decide) (by decide) (fun K hK => ?_) (fun K hK => ?_)
           ·skip
            refine gs _ (#[.pointer (some ⟨g,0,none⟩),.int .i64 4]) Tryd.func66 ?_;(with_reducible refine (spec_l1Rd_pick.calls k1 g s0_0 aM 4 au az w0 _ ?side1 ?side2 bB.out).mono ?_);(case side1=>exact iq173 a2.out);(case side2=>exact bq173 HB.out a2.out);rintro e aT ⟨rfl,hi,hb,hk⟩;refine ⟨_,rfl,?_⟩;refine Ya6 (ra173 (iq173 a2.out) (kr a5.out) hk) (kx hk a4 aU) (kx hk a3 aK) (KeepBut.trans (kb HK.out) hk (.inl rfl)) (hb) (hi) ?_;clear a5 a4 a3 HK HB a2;intro a5 a4 a3 HK HB a2;(try clear hb);(try clear hb2);(try clear hk);(try clear hi);refine hK.out _ _ (bc a3 0) (fun hHeld => ?_);clear hK K;refine nm 23 ?_;refine pu 7 24 (fb 16 255) HT_ ?_;refine pu 8 25 (fb 16 511) HT_ ?_;exact norm_ (by first|(simp only [putAll,Act.put,List.setIfInBounds_toArray,List.set_cons_zero,List.set_cons_succ];done)|(simp only [putAll,Act.put,List.setIfInBounds_toArray,List.set_cons_zero,List.set_cons_succ];rfl)) (hJ2_4_6 () _ ⟨hHeld,(kr a5.out),(bk a4.out),(bk a3.out),(iq173 a2.out),(kb HK.out),(bq173 HB.out a2.out)⟩)
           ·skip
            refine bst 5 25 (#[.slice none 0 0]) ?_;intro a6 hg aT hbox hb;refine Ya15 (Kd.R_below (kr a5.out) hb) (bb a4 hb) (bb a3 hb) (IsS173.below (iq173 a2.out) hb) (KeepBut.trans (kb HK.out) (KeepBut.of_below hb g none) (.inl rfl)) (below_step (bq173 HB.out a2.out) hb) (hbox) ((by rw [hg];exact (keep_size (w:=w) (g:=g) (row:=none) (kb HK.out)):w.heap.size≤a6)) ((Nat.le_trans HW0.out (by rw [hg];exact (keep_size (w:=w) (g:=g) (row:=none) (kb HK.out)):w.heap.size≤a6):w0.heap.size≤a6)) (bl hg a4) (br hg a4) (bl hg a3) (br hg a3) ((by rw [hg];exact Nat.ne_of_lt (IsS173.lt (show IsS173 w0 _ g s0_0 aM from iq173 a2.out)):g≠a6)) ((by rw [hg];exact Nat.ne_of_gt (IsS173.lt (show IsS173 w0 _ g s0_0 aM from iq173 a2.out)):a6≠g)) ?_;clear a5 a4 a3 a2 HK HB;intro a5 a4 a3 a2 HK HB aa av aw an ao am ap ar al;clear hb hbox hg;refine hK.out _ _ (bc a3 0) (fun hHeld => ?_);clear hK K;refine nm 5 ?_;exact norm_ (by first|(simp only [putAll,Act.put,List.setIfInBounds_toArray,List.set_cons_zero,List.set_cons_succ];done)|(simp only [putAll,Act.put,List.setIfInBounds_toArray,List.set_cons_zero,List.set_cons_succ];rfl)) (hJ2_4_13 (a6) _ ⟨hHeld,(kr a5.out),(bk a4.out),(bk a3.out),(bk aa.out),av.out,aw.out,ar.out,al.out,an.out,ao.out,am.out,ap.out,(iq173 a2.out),(kb HK.out),(bq173 HB.out a2.out)⟩)
         ·skip
          rintro a6 aT ⟨hS_,h0_,h1_,h2_,h3_,h4_,h5_,h6_,h7_,h8_,h9_,h10_,h11_,h12_,h13_,h14_⟩
          have af:Aside0 (Kd.R k27 27 aT w.heap.size (fun _=>True) (.slice ab a7.length ac) a7):=⟨h0_⟩
          have ag:Aside0 (aT.heap[a9]? = some (.cells #[.slice none 0 0] 25 (0,0))):=⟨h1_⟩
          have ah:Aside0 (aT.heap[a8]? = some (.cells #[.slice ab a7.length ac] 25 (0,0))):=⟨h2_⟩
          have ai:Aside0 (aT.heap[a6]? = some (.cells #[.slice none 0 0] 25 (0,0))):=⟨h3_⟩
          have aj:Aside0 (w.heap.size≤a6):=⟨h4_⟩
          have ak:Aside0 (w0.heap.size≤a6):=⟨h5_⟩
          have ax:Aside0 (g≠a6):=⟨h6_⟩
          have aA:Aside0 (a6≠g):=⟨h7_⟩
          have aB:Aside0 (a9≠a6):=⟨h8_⟩
          have aC:Aside0 (a6≠a9):=⟨h9_⟩
          have aD:Aside0 (a8≠a6):=⟨h10_⟩
          have aE:Aside0 (a6≠a8):=⟨h11_⟩
          have aF:Aside0 (IsS173 w0 aT g s0_0 aM):=⟨h12_⟩
          have aG:Aside0 (KeepBut w aT g none):=⟨h13_⟩
          have aH:Aside0 (Below w0.heap.size w0 aT):=⟨h14_⟩
          clear a5;clear a4;clear a3;clear a2;clear HK;clear HB;clear h0_ h1_ h2_ h3_ h4_ h5_ h6_ h7_ h8_ h9_ h10_ h11_ h12_ h13_ h14_;have a5:=af;have a4:=ag;have a3:=ah;have aa:=ai;have av:=aj;have aw:=ak;have ar:=ax;have al:=aA;have an:=aB;have ao:=aC;have am:=aD;have ap:=aE;have a2:=aF;have HK:=aG;have HB:=aH;clear af ag ah ai aj ak ax aA aB aC aD aE aF aG aH;have hHeld:aT.cell? ⟨a8,0,none⟩=some (.slice ab a7.length ac):=hS_;refine norm_ (a':=?_) ?_ ?_;rotate_left
          ·simp only [putAll,Act.put,List.setIfInBounds_toArray,List.set_cons_zero,List.set_cons_succ];rfl
          refine o1 6 (some 23) (fb 16 8319) HT_ (fun K hK => ?_);refine gs _ (#[.pointer (some ⟨g,0,none⟩),.int .i64 4]) Tryd.func66 ?_;(with_reducible refine (spec_l1Rd_pick.calls k1 g s0_0 aM 4 au az w0 _ ?side1 ?side2 bB.out).mono ?_);(case side1=>exact iq173 a2.out);(case side2=>exact bq173 HB.out a2.out);rintro e aP ⟨rfl,hi,hb,hk⟩;refine ⟨_,rfl,?_⟩;refine Ya7 (ra173 (iq173 a2.out) (kr a5.out) hk) (kx hk a4 aU) (kx hk a3 aK) (kx hk aa al) (KeepBut.trans (kb HK.out) hk (.inl rfl)) (hb) (hi) ?_;clear a5 a4 a3 aa HK HB a2;intro a5 a4 a3 aa HK HB a2;(try clear hb);(try clear hb2);(try clear hk);(try clear hi);refine hK.out _ _ (bc a3 0) (fun hHeld => ?_);clear hK K;refine nm 23 ?_;refine pu 7 24 (fb 16 8447) HT_ ?_;refine pu 8 25 (fb 16 8703) HT_ ?_;exact norm_ (by first|(simp only [putAll,Act.put,List.setIfInBounds_toArray,List.set_cons_zero,List.set_cons_succ];done)|(simp only [putAll,Act.put,List.setIfInBounds_toArray,List.set_cons_zero,List.set_cons_succ];rfl)) (hJ2_4_6_13 (a6) _ ⟨hHeld,(kr a5.out),(bk a4.out),(bk a3.out),(bk aa.out),av.out,aw.out,ar.out,al.out,an.out,ao.out,am.out,ap.out,(iq173 a2.out),(kb HK.out),(bq173 HB.out a2.out)⟩)
        ·skip
         rintro _ aT ⟨hS_,h0_,h1_,h2_,h3_,h4_,h5_⟩
         have af:Aside0 (Kd.R k27 27 aT w.heap.size (fun _=>True) (.slice ab a7.length ac) a7):=⟨h0_⟩
         have ag:Aside0 (aT.heap[a9]? = some (.cells #[.slice none 0 0] 25 (0,0))):=⟨h1_⟩
         have ah:Aside0 (aT.heap[a8]? = some (.cells #[.slice ab a7.length ac] 25 (0,0))):=⟨h2_⟩
         have ai:Aside0 (IsS173 w0 aT g s0_0 az):=⟨h3_⟩
         have aj:Aside0 (KeepBut w aT g none):=⟨h4_⟩
         have ak:Aside0 (Below w0.heap.size w0 aT):=⟨h5_⟩
         clear a5;clear a4;clear a3;clear a2;clear HK;clear HB;clear h0_ h1_ h2_ h3_ h4_ h5_;have a5:=af;have a4:=ag;have a3:=ah;have a2:=ai;have HK:=aj;have HB:=ak;clear af ag ah ai aj ak;have hHeld:aT.cell? ⟨a8,0,none⟩=some (.slice ab a7.length ac):=hS_;refine norm_ (a':=?_) ?_ ?_;rotate_left
         ·simp only [putAll,Act.put,List.setIfInBounds_toArray,List.set_cons_zero,List.set_cons_succ];rfl
         refine two_ (i:=9) (j:=13) (Ni:=some 26) (Nj:=some 5) (fb 16 1023) (fb 16 8703) rfl rfl rfl rfl (two_of HT_.out (by kernel_rfl)) (by decide) (by decide) (fun K hK => ?_) (fun K hK => ?_)
         ·skip
          refine gs _ (#[.agg #[.slice ab a7.length ac],.agg #[.string aq,.string ay,.bool (au==0)]]) Tryd.func15 ?_;(with_reducible refine (spec_Put.calls k1 _ _ a7 aq ay (au==0) aV aI _ ?side1 ?side2 bC.out).mono ?_);(case side1=>repeat (first|exact (Kd.R_reads' a5.out).2.2|(with_reducible refine Kd.C_alloc ?_ _)|(with_reducible refine Kd.C_drewN ?_ _)|(with_reducible refine Kd.C_drew ?_)));(case side2=>exact (Kd.R_reads' a5.out).2.1);rintro e aP ⟨aN,rfl,ho0,hb⟩;refine ⟨_,rfl,?_⟩;refine Ya7 (Kd.R_elder' (kr a5.out) (Kd.R_base ho0) hb) (Kd.R_lower (Kd.R_new' ho0 (Kd.R_lt (kr a5.out))) (keep_size (w:=w) (g:=g) (row:=none) (kb HK.out))) (bb a4 hb) (bb a3 hb) (IsS173.below (iq173 a2.out) hb) (KeepBut.trans (kb HK.out) (KeepBut.of_below hb g none) (.inl rfl)) (below_step (bq173 HB.out a2.out) hb) ?_;clear a5 a4 a3 a2 HK HB;intro a5 aJ a4 a3 a2 HK HB;(try clear hb);(try clear hb2);(try clear hk);(try clear hi);(try clear ho0);refine hK.out _ _ (bc a3 0) (fun hHeld => ?_);clear hK K;refine nm 26 ?_;refine pu 10 16 (fb 16 2047) HT_ ?_;refine pu 11 27 (fb 16 4095) HT_ ?_;refine pu 12 28 (fb 16 8191) HT_ ?_;exact norm_ (by first|(simp only [putAll,Act.put,List.setIfInBounds_toArray,List.set_cons_zero,List.set_cons_succ];done)|(simp only [putAll,Act.put,List.setIfInBounds_toArray,List.set_cons_zero,List.set_cons_succ];rfl)) (hJ2_4_6_9 (aN) _ ⟨hHeld,(by (with_reducible repeat (first|apply Kd.R_alloc|apply Kd.R_drewN|apply Kd.R_drew));exact Kd.R_mono aJ.out (fun _ hk=>hk.2)),(by (with_reducible repeat (first|apply Kd.R_alloc|apply Kd.R_drewN|apply Kd.R_drew));exact Kd.R_mono a5.out (fun _ hk=>hk.2)),(bk a4.out),(bk a3.out),(iq173 a2.out),(kb HK.out),(bq173 HB.out a2.out)⟩)
         ·skip
          refine bst 5 25 (#[.slice none 0 0]) ?_;intro a6 hg aP hbox hb;refine Ya15 (Kd.R_below (kr a5.out) hb) (bb a4 hb) (bb a3 hb) (IsS173.below (iq173 a2.out) hb) (KeepBut.trans (kb HK.out) (KeepBut.of_below hb g none) (.inl rfl)) (below_step (bq173 HB.out a2.out) hb) (hbox) ((by rw [hg];exact (keep_size (w:=w) (g:=g) (row:=none) (kb HK.out)):w.heap.size≤a6)) ((Nat.le_trans HW0.out (by rw [hg];exact (keep_size (w:=w) (g:=g) (row:=none) (kb HK.out)):w.heap.size≤a6):w0.heap.size≤a6)) (bl hg a4) (br hg a4) (bl hg a3) (br hg a3) ((by rw [hg];exact Nat.ne_of_lt (IsS173.lt (show IsS173 w0 _ g s0_0 az from iq173 a2.out)):g≠a6)) ((by rw [hg];exact Nat.ne_of_gt (IsS173.lt (show IsS173 w0 _ g s0_0 az from iq173 a2.out)):a6≠g)) ?_;clear a5 a4 a3 a2 HK HB;intro a5 a4 a3 a2 HK HB aa av aw an ao am ap ar al;clear hb hbox hg;refine hK.out _ _ (bc a3 0) (fun hHeld => ?_);clear hK K;refine nm 5 ?_;exact norm_ (by first|(simp only [putAll,Act.put,List.setIfInBounds_toArray,List.set_cons_zero,List.set_cons_succ];done)|(simp only [putAll,Act.put,List.setIfInBounds_toArray,List.set_cons_zero,List.set_cons_succ];rfl)) (hJ2_4_6_13 (a6) _ ⟨hHeld,(kr a5.out),(bk a4.out),(bk a3.out),(bk aa.out),av.out,aw.out,ar.out,al.out,an.out,ao.out,am.out,ap.out,(iq173 a2.out),(kb HK.out),(bq173 HB.out a2.out)⟩)
       ·skip
        rintro a6 aP ⟨hS_,h0_,h1_,h2_,h3_,h4_,h5_,h6_,h7_,h8_,h9_,h10_,h11_,h12_,h13_,h14_⟩
        have af:Aside0 (Kd.R k27 27 aP w.heap.size (fun _=>True) (.slice ab a7.length ac) a7):=⟨h0_⟩
        have ag:Aside0 (aP.heap[a9]? = some (.cells #[.slice none 0 0] 25 (0,0))):=⟨h1_⟩
        have ah:Aside0 (aP.heap[a8]? = some (.cells #[.slice ab a7.length ac] 25 (0,0))):=⟨h2_⟩
        have ai:Aside0 (aP.heap[a6]? = some (.cells #[.slice none 0 0] 25 (0,0))):=⟨h3_⟩
        have aj:Aside0 (w.heap.size≤a6):=⟨h4_⟩
        have ak:Aside0 (w0.heap.size≤a6):=⟨h5_⟩
        have ax:Aside0 (g≠a6):=⟨h6_⟩
        have aA:Aside0 (a6≠g):=⟨h7_⟩
        have aB:Aside0 (a9≠a6):=⟨h8_⟩
        have aC:Aside0 (a6≠a9):=⟨h9_⟩
        have aD:Aside0 (a8≠a6):=⟨h10_⟩
        have aE:Aside0 (a6≠a8):=⟨h11_⟩
        have aF:Aside0 (IsS173 w0 aP g s0_0 az):=⟨h12_⟩
        have aG:Aside0 (KeepBut w aP g none):=⟨h13_⟩
        have aH:Aside0 (Below w0.heap.size w0 aP):=⟨h14_⟩
        clear a5;clear a4;clear a3;clear a2;clear HK;clear HB;clear h0_ h1_ h2_ h3_ h4_ h5_ h6_ h7_ h8_ h9_ h10_ h11_ h12_ h13_ h14_;have a5:=af;have a4:=ag;have a3:=ah;have aa:=ai;have av:=aj;have aw:=ak;have ar:=ax;have al:=aA;have an:=aB;have ao:=aC;have am:=aD;have ap:=aE;have a2:=aF;have HK:=aG;have HB:=aH;clear af ag ah ai aj ak ax aA aB aC aD aE aF aG aH;have hHeld:aP.cell? ⟨a8,0,none⟩=some (.slice ab a7.length ac):=hS_;refine norm_ (a':=?_) ?_ ?_;rotate_left
        ·simp only [putAll,Act.put,List.setIfInBounds_toArray,List.set_cons_zero,List.set_cons_succ];rfl
        refine o1 9 (some 26) (fb 16 9215) HT_ (fun K hK => ?_);refine gs _ (#[.agg #[.slice ab a7.length ac],.agg #[.string aq,.string ay,.bool (au==0)]]) Tryd.func15 ?_;(with_reducible refine (spec_Put.calls k1 _ _ a7 aq ay (au==0) aV aI _ ?side1 ?side2 bC.out).mono ?_);(case side1=>repeat (first|exact (Kd.R_reads' a5.out).2.2|(with_reducible refine Kd.C_alloc ?_ _)|(with_reducible refine Kd.C_drewN ?_ _)|(with_reducible refine Kd.C_drew ?_)));(case side2=>exact (Kd.R_reads' a5.out).2.1);rintro e b2 ⟨aN,rfl,ho0,hb⟩;refine ⟨_,rfl,?_⟩;refine Ya8 (Kd.R_elder' (kr a5.out) (Kd.R_base ho0) hb) (Kd.R_lower (Kd.R_new' ho0 (Kd.R_lt (kr a5.out))) (keep_size (w:=w) (g:=g) (row:=none) (kb HK.out))) (bb a4 hb) (bb a3 hb) (IsS173.below (iq173 a2.out) hb) (bb aa hb) (KeepBut.trans (kb HK.out) (KeepBut.of_below hb g none) (.inl rfl)) (below_step (bq173 HB.out a2.out) hb) ?_;clear a5 a4 a3 a2 aa HK HB;intro a5 aJ a4 a3 a2 aa HK HB;(try clear hb);(try clear hb2);(try clear hk);(try clear hi);(try clear ho0);refine hK.out _ _ (bc a3 0) (fun hHeld => ?_);clear hK K;refine nm 26 ?_;refine pu 10 16 (fb 16 10239) HT_ ?_;refine pu 11 27 (fb 16 12287) HT_ ?_;refine pu 12 28 (fb 16 16383) HT_ ?_;exact norm_ (by first|(simp only [putAll,Act.put,List.setIfInBounds_toArray,List.set_cons_zero,List.set_cons_succ];done)|(simp only [putAll,Act.put,List.setIfInBounds_toArray,List.set_cons_zero,List.set_cons_succ];rfl)) (hJ2_4_6_9_13 (aN,a6) _ ⟨hHeld,(by (with_reducible repeat (first|apply Kd.R_alloc|apply Kd.R_drewN|apply Kd.R_drew));exact Kd.R_mono aJ.out (fun _ hk=>hk.2)),(by (with_reducible repeat (first|apply Kd.R_alloc|apply Kd.R_drewN|apply Kd.R_drew));exact Kd.R_mono a5.out (fun _ hk=>hk.2)),(bk a4.out),(bk a3.out),(bk aa.out),av.out,aw.out,ar.out,al.out,an.out,ao.out,am.out,ap.out,(iq173 a2.out),(kb HK.out),(bq173 HB.out a2.out)⟩)
      ·skip
       rintro aN aP ⟨hS_,h0_,h1_,h2_,h3_,h4_,h5_,h6_⟩
       have af:Aside0 (Kd.R k27 27 aP w.heap.size (fun k_=>some k_≠(.slice ab a7.length ac:Value).ownBlock) aN aV):=⟨h0_⟩
       have ag:Aside0 (Kd.R k27 27 aP w.heap.size (fun k_=>some k_≠(aN:Value).ownBlock) (.slice ab a7.length ac) a7):=⟨h1_⟩
       have ah:Aside0 (aP.heap[a9]? = some (.cells #[.slice none 0 0] 25 (0,0))):=⟨h2_⟩
       have ai:Aside0 (aP.heap[a8]? = some (.cells #[.slice ab a7.length ac] 25 (0,0))):=⟨h3_⟩
       have aj:Aside0 (IsS173 w0 aP g s0_0 az):=⟨h4_⟩
       have ak:Aside0 (KeepBut w aP g none):=⟨h5_⟩
       have ax:Aside0 (Below w0.heap.size w0 aP):=⟨h6_⟩
       clear a5;clear a4;clear a3;clear a2;clear HK;clear HB;clear h0_ h1_ h2_ h3_ h4_ h5_ h6_;have aJ:=af;have a5:=ag;have a4:=ah;have a3:=ai;have a2:=aj;have HK:=ak;have HB:=ax;clear af ag ah ai aj ak ax;have hHeld:aP.cell? ⟨a8,0,none⟩=some (.slice ab a7.length ac):=hS_;refine norm_ (a':=?_) ?_ ?_;rotate_left
       ·simp only [putAll,Act.put,List.setIfInBounds_toArray,List.set_cons_zero,List.set_cons_succ];rfl
       refine o1 13 (some 5) (fb 16 16383) HT_ (fun K hK => ?_);refine bst 5 25 (#[.slice none 0 0]) ?_;intro a6 hg b2 hbox hb;refine Ya16 (Kd.R_below (kr a5.out) hb) (Kd.R_below (kr aJ.out) hb) (bb a4 hb) (bb a3 hb) (IsS173.below (iq173 a2.out) hb) (KeepBut.trans (kb HK.out) (KeepBut.of_below hb g none) (.inl rfl)) (below_step (bq173 HB.out a2.out) hb) (hbox) ((by rw [hg];exact (keep_size (w:=w) (g:=g) (row:=none) (kb HK.out)):w.heap.size≤a6)) ((Nat.le_trans HW0.out (by rw [hg];exact (keep_size (w:=w) (g:=g) (row:=none) (kb HK.out)):w.heap.size≤a6):w0.heap.size≤a6)) (bl hg a4) (br hg a4) (bl hg a3) (br hg a3) ((by rw [hg];exact Nat.ne_of_lt (IsS173.lt (show IsS173 w0 _ g s0_0 az from iq173 a2.out)):g≠a6)) ((by rw [hg];exact Nat.ne_of_gt (IsS173.lt (show IsS173 w0 _ g s0_0 az from iq173 a2.out)):a6≠g)) ?_;clear a5 aJ a4 a3 a2 HK HB;intro a5 aJ a4 a3 a2 HK HB aa av aw an ao am ap ar al;clear hb hbox hg;refine hK.out _ _ (bc a3 0) (fun hHeld => ?_);clear hK K;refine nm 5 ?_;exact norm_ (by first|(simp only [putAll,Act.put,List.setIfInBounds_toArray,List.set_cons_zero,List.set_cons_succ];done)|(simp only [putAll,Act.put,List.setIfInBounds_toArray,List.set_cons_zero,List.set_cons_succ];rfl)) (hJ2_4_6_9_13 (aN,a6) _ ⟨hHeld,(kr aJ.out),(kr a5.out),(bk a4.out),(bk a3.out),(bk aa.out),av.out,aw.out,ar.out,al.out,an.out,ao.out,am.out,ap.out,(iq173 a2.out),(kb HK.out),(bq173 HB.out a2.out)⟩)
     rintro ⟨aN,a6⟩ b2 ⟨hS_,h0_,h1_,h2_,h3_,h4_,h5_,h6_,h7_,h8_,h9_,h10_,h11_,h12_,h13_,h14_,h15_⟩
     have af:Aside0 (Kd.R k27 27 b2 w.heap.size (fun k_=>some k_≠(.slice ab a7.length ac:Value).ownBlock) aN aV):=⟨h0_⟩
     have ag:Aside0 (Kd.R k27 27 b2 w.heap.size (fun k_=>some k_≠(aN:Value).ownBlock) (.slice ab a7.length ac) a7):=⟨h1_⟩
     have ah:Aside0 (b2.heap[a9]? = some (.cells #[.slice none 0 0] 25 (0,0))):=⟨h2_⟩
     have ai:Aside0 (b2.heap[a8]? = some (.cells #[.slice ab a7.length ac] 25 (0,0))):=⟨h3_⟩
     have aj:Aside0 (b2.heap[a6]? = some (.cells #[.slice none 0 0] 25 (0,0))):=⟨h4_⟩
     have ak:Aside0 (w.heap.size≤a6):=⟨h5_⟩
     have ax:Aside0 (w0.heap.size≤a6):=⟨h6_⟩
     have aA:Aside0 (g≠a6):=⟨h7_⟩
     have aB:Aside0 (a6≠g):=⟨h8_⟩
     have aC:Aside0 (a9≠a6):=⟨h9_⟩
     have aD:Aside0 (a6≠a9):=⟨h10_⟩
     have aE:Aside0 (a8≠a6):=⟨h11_⟩
     have aF:Aside0 (a6≠a8):=⟨h12_⟩
     have aG:Aside0 (IsS173 w0 b2 g s0_0 az):=⟨h13_⟩
     have aH:Aside0 (KeepBut w b2 g none):=⟨h14_⟩
     have bq:Aside0 (Below w0.heap.size w0 b2):=⟨h15_⟩
     clear a5;clear a4;clear a3;clear a2;clear HK;clear HB;clear h0_ h1_ h2_ h3_ h4_ h5_ h6_ h7_ h8_ h9_ h10_ h11_ h12_ h13_ h14_ h15_;have aJ:=af;have a5:=ag;have a4:=ah;have a3:=ai;have aa:=aj;have av:=ak;have aw:=ax;have ar:=aA;have al:=aB;have an:=aC;have ao:=aD;have am:=aE;have ap:=aF;have a2:=aG;have HK:=aH;have HB:=bq;clear af ag ah ai aj ak ax aA aB aC aD aE aF aG aH bq;have hHeld:b2.cell? ⟨a8,0,none⟩=some (.slice ab a7.length ac):=hS_;obtain ⟨cj,ck,bP⟩:=Kd.R_slice aJ.out;(first|subst bP|(injection bP with f1_ f2_ f3_;have f4_:=f1_.symm;have f5_:=f3_.symm;clear f1_ f2_ f3_;subst f4_;subst f5_));refine norm_ (a':=?_) ?_ ?_;rotate_left
     ·simp only [putAll,Act.put,List.setIfInBounds_toArray,List.set_cons_zero,List.set_cons_succ];rfl
     refine o1 14 none (fb 16 32767) HT_ (fun K hK => ?_);have ⟨hs41,hfs41⟩:=Yc1 aa.out;have cA:=an.out;have cB:=am.out;have cC:=ao.out;have cD:=ap.out;refine skip_ (w1:=?_) (by rfl) rfl ?_ ?_;rotate_left
     ·go_simp;rfl
     refine hK.out _ _ (((cell_far (p:=⟨a6,_,none⟩) am.out _).trans (hHeld))) (fun hHeld => ?_);clear hK K;refine pu 15 6 (fb 16 65535) HT_ ?_;refine done_ (done_of HT_.out (by kernel_rfl)) ?_
     try go_wp2
     go_roundg k1
     case measure=>have:=HK1.out;omega
     case rel=>exact ⟨(wrap64 (aX - 1)),(az),(a7),(.slice ab a7.length ac),Ye1,H',⟨by have:=HK1.out;omega⟩,⟨by (with_reducible repeat (first|apply Kd.R_alloc|apply Kd.R_drewN|apply Kd.R_drew));exact Kd.R_mono (Kd.R_far (p:=⟨a6,0,none⟩) (Kd.R_types a5.out aa.out (by decide)) (fun _ hk=>hk.2) (.slice cj aV.length ck)) (fun _ hk=>trivial)⟩,⟨bkf a4.out an.out⟩,⟨bkf a3.out am.out⟩,⟨iq173 a2.out⟩,⟨kb HK.out⟩,⟨bq173 HB.out a2.out⟩⟩
   ·rw [if_neg c9] at H
    have bJ:decide (0<aX)=false:=decide_eq_false c9;clear c9;replace H:=Option.bind_eq_some_iff.mp H;obtain ⟨⟨b9,bu⟩,bQ,H⟩:=H;replace H:(if b9=0 then ((spec_l1Rd_pick.f k1 s0_0 bu 3).bind fun bt203=>(spec_l5Draw.l1 k1 (wrap64 (100 - bt203.1)) 0 s0_0 bt203.2 a7)) else (some (a7,bu)))=some (r1,r2):=H;have A42:=Aside0.mk bQ;clear bQ
    by_cases ba:b9=0
    ·rw [if_pos ba] at H
     have bR:(b9==0)=true:=beq_iff_eq.mpr ba;have bS:(b9 != 0)=false:=bne_eq_false_iff_eq.mpr ba;clear ba;replace H:=Option.bind_eq_some_iff.mp H;obtain ⟨⟨bd,bi⟩,bT,H⟩:=H;replace H:(spec_l5Draw.l1 k1 (wrap64 (100 - bd)) 0 s0_0 bi a7)=some (r1,r2):=H;have A44:=Aside0.mk bT;clear bT;have H':=Aside0.mk H;clear H
     go_wp2_with (first|((with_reducible refine gc 66 rfl ?_);refine gl (some 33) _ (#[.pointer (some ⟨g,0,none⟩),.int .i64 16]) Tryd.func66 ?_;(with_reducible refine (spec_l1Rd_pick.calls k1 g s0_0 aW 16 b9 bu w0 _ ?side1 ?side2 A42.out).mono ?_);(case side1=>exact iq173 a2.out);(case side2=>exact bq173 HB.out a2.out);rintro e w45 ⟨rfl,hi,hb,hk⟩;refine ⟨_,rfl,?_⟩;refine Ya6 (ra173 (iq173 a2.out) (kr a5.out) hk) (kx hk a4 aU) (kx hk a3 aK) (KeepBut.trans (kb HK.out) hk (.inl rfl)) (hb) (hi) ?_;clear a5 a4 a3 HK HB a2;intro a5 a4 a3 HK HB a2;(try clear hb);(try clear hb2);(try clear hk);(try clear hi))|((with_reducible refine gc 66 rfl ?_);refine gl (some 36) _ (#[.pointer (some ⟨g,0,none⟩),.int .i64 3]) Tryd.func66 ?_;(with_reducible refine (spec_l1Rd_pick.calls k1 g s0_0 bu 3 bd bi w0 _ ?side1 ?side2 A44.out).mono ?_);(case side1=>exact iq173 a2.out);(case side2=>exact bq173 HB.out a2.out);rintro e w46 ⟨rfl,hi,hb,hk⟩;refine ⟨_,rfl,?_⟩;refine Ya6 (ra173 (iq173 a2.out) (kr a5.out) hk) (kx hk a4 aU) (kx hk a3 aK) (KeepBut.trans (kb HK.out) hk (.inl rfl)) (hb) (hi) ?_;clear a5 a4 a3 HK HB a2;intro a5 a4 a3 HK HB a2;(try clear hb);(try clear hb2);(try clear hk);(try clear hi)))
     go_loopg [8] k1 (fun kq v8 w' => ∃ (b0:Int) (b3:List (S27)) (b8:Value),v8 = .int .i64 b0∧Aside0 (spec_l5Draw.l1 kq (wrap64 (100 - bd)) b0 s0_0 bi b3=some (r1,r2))∧Aside0 (kq≤k1)∧Aside0 (Kd.R k27 27 w' w.heap.size (fun _=>True) b8 b3)∧Aside0 (w'.heap[a9]? = some (.cells #[(.slice none 0 0)] 25 (0,0)))∧Aside0 (w'.heap[a8]? = some (.cells #[b8] 25 (0,0)))∧Aside0 (IsS173 w0 w' g s0_0 bi)∧Aside0 (KeepBut w w' g none)∧Aside0 (Below w0.heap.size w0 w'))
     case atStart=>exact ⟨(0),(a7),(b8),Ye1,H',⟨Nat.le_refl _⟩,⟨kr a5.out⟩,⟨bk a4.out⟩,⟨bk a3.out⟩,⟨iq173 a2.out⟩,⟨kb HK.out⟩,⟨bq173 HB.out a2.out⟩⟩
     case round =>
      clear H';(try clear c1);(try clear p2);(try clear c4);(try clear c6);(try clear p6);(try clear c9);(try clear bJ);(try clear c15);(try clear ba);(try clear bR);(try clear bS);obtain ⟨b0,b3,b8,rfl,HA,HK2,a5,a4,a3,a2,HK,HB⟩:=hrel
      cases gk with
      | zero=>exact absurd HA.out (by simp [spec_l5Draw.l1])
      | succ k2 =>
       have H:=HA.out;clear HA;simp only [spec_l5Draw.l1] at H
       by_cases bj:(b3.length:Int)<(wrap64 (100 - bd))
       ·rw [if_pos bj] at H
        have cl:decide ((b3.length:Int)<(wrap64 (100 - bd)))=true:=decide_eq_true bj;clear bj
        obtain ⟨b5,bv⟩:∃ y_:List Int,y_=(([(wrap64 (97+(wrap64 (Int.tdiv b0 26)))) % 256,(wrap64 (97+(Int.tmod b0 26))) % 256]:List Int)):=⟨_,rfl⟩
        replace H:(if 1+(strOfNums b5).size≤9223372036854775807 then ((spec_l5Set.f k2 b3 ((⟨#[122]⟩:ByteArray)++(strOfNums b5)) (⟨#[]⟩:ByteArray) false).bind fun b6=>(spec_l5Draw.l1 k2 (wrap64 (100 - bd)) (wrap64 (b0+1)) s0_0 bi b6)) else (none))=some (r1,r2):=by first|(rw [bv];with_reducible exact H)|(have H2_:=(Option.bind_some _ _).symm.trans H;rw [bv];with_reducible exact H2_)|(have H2_:=(Option.bind_some _ _).symm.trans H;with_reducible exact H2_)|with_reducible exact H|(rw [bv];exact H)|exact H
        have bU:=Aside0.mk bv;clear bv
        by_cases bw:1+(strOfNums b5).size≤9223372036854775807
        ·rw [if_pos bw] at H
         have c48b0:=eq_true bw;have c48b1:decide (1+(strOfNums b5).size≤9223372036854775807)=true:=decide_eq_true bw
         try have c48b2:(9223372036854775807<1+(strOfNums b5).size)=False:=eq_false (Nat.not_lt.2 bw)
         replace H:=Option.bind_eq_some_iff.mp H;obtain ⟨b6,bV,H⟩:=H;replace H:(spec_l5Draw.l1 k2 (wrap64 (100 - bd)) (wrap64 (b0+1)) s0_0 bi b6)=some (r1,r2):=H;have A49:=Aside0.mk bV;clear bV;have H':=Aside0.mk H;clear H;have hnb50:=bn.out;have hnc50:=bg.out;have hnb51:=aK.out;have hnc51:=bo.out;have ⟨cE,cF⟩:=Yc1 a3.out;obtain ⟨cm,cn,co⟩:=Kd.R_slice a5.out;subst co
         go_wp2_with (first|((with_reducible refine gd 54 rfl ?_);refine Kd.R_lit (Kd.int .u8) _ 5 ?hg (N:=54) ?hd (xs:=([(wrap64 (97+(wrap64 (Int.tdiv b0 26)))) % 256,(wrap64 (97+(Int.tmod b0 26))) % 256]:List Int)) (inner:=[.int .u8 ((wrap64 (97+(wrap64 (Int.tdiv b0 26)))) % 256),.int .u8 ((wrap64 (97+(Int.tmod b0 26))) % 256)]) (ok:=fun _=>True) (okp:=fun _=>True) ?hr ?hp (fun _ hk=>hk) trivial (Below.refl _ _) (Nat.le_refl _) (by simp) ?_;(case hd=>rfl);(case hg=>rfl);(case hr=>first|(go_simp;done)|(go_simp;rfl));(case hp=>exact (Reps.one (show Kd.M (Kd.int .u8) _ _ _ ((wrap64 (97+(wrap64 (Int.tdiv b0 26)))) % 256) [.int .u8 ((wrap64 (97+(wrap64 (Int.tdiv b0 26)))) % 256)] from rfl) (Reps.one (show Kd.M (Kd.int .u8) _ _ _ ((wrap64 (97+(Int.tmod b0 26))) % 256) [.int .u8 ((wrap64 (97+(Int.tmod b0 26))) % 256)] from rfl) (Reps.none _ _))));intro v206 w54 ho55 hb hg_ hnew_;clear hg_ hnew_;(first|rw [←bU.out] at ho55|(simp only [Int.reduceToNat] at ho55;rw [←bU.out] at ho55));refine Ya7 (Kd.R_below (kr a5.out) hb) (Kd.R_lower ho55 (keep_size (w:=w) (g:=g) (row:=none) (kb HK.out))) (bb a4 hb) (bb a3 hb) (IsS173.below (iq173 a2.out) hb) (KeepBut.trans (kb HK.out) (KeepBut.of_below hb g none) (.inl rfl)) (below_step (bq173 HB.out a2.out) hb) ?_;clear a5 a4 a3 a2 HK HB;intro a5 bD a4 a3 a2 HK HB;clear hb ho55;have hcv56:=own_string (P:=Tryd.prog) Tryd.underlying22 Tryd.underlying5 Tryd.underlying9 (Kd.own_of_R bD.out))|((with_reducible refine gc 73 rfl ?_);refine gl (some 58) _ (#[.agg #[.slice cm b3.length cn],.agg #[.string ((⟨#[122]⟩:ByteArray)++(strOfNums b5)),.string (⟨#[]⟩:ByteArray),.bool false]]) Tryd.func73 ?_;(with_reducible refine (spec_l5Set.calls k2 _ _ b3 ((⟨#[122]⟩:ByteArray)++(strOfNums b5)) (⟨#[]⟩:ByteArray) false b6 _ ?side1 ?side2 A49.out).mono ?_);(case side1=>repeat (first|exact (Kd.R_reads' a5.out).2.2|(with_reducible refine Kd.C_alloc ?_ _)|(with_reducible refine Kd.C_drewN ?_ _)|(with_reducible refine Kd.C_drew ?_)));(case side2=>exact (Kd.R_reads' a5.out).2.1);rintro e w57 ⟨v209,rfl,ho0,hb⟩;refine ⟨_,rfl,?_⟩;refine Ya8 (Kd.R_elder' (kr a5.out) (Kd.R_base ho0) hb) (Kd.R_below (kr bD.out) hb) (Kd.R_lower (Kd.R_new' ho0 (Kd.R_lt (kr a5.out))) (keep_size (w:=w) (g:=g) (row:=none) (kb HK.out))) (bb a4 hb) (bb a3 hb) (IsS173.below (iq173 a2.out) hb) (KeepBut.trans (kb HK.out) (KeepBut.of_below hb g none) (.inl rfl)) (below_step (bq173 HB.out a2.out) hb) ?_;clear a5 bD a4 a3 a2 HK HB;intro a5 bD bW a4 a3 a2 HK HB;(try clear hb);(try clear hb2);(try clear hk);(try clear hi);(try clear ho0);obtain ⟨bX,bY,cp⟩:=Kd.R_slice bW.out;subst cp;have ⟨cG,cH⟩:=Yc1 a3.out))
         go_roundg k2
         case measure=>have:=HK1.out;have:=HK2.out;omega
         case rel=>exact ⟨(wrap64 (b0+1)),(b6),(.slice bX b6.length bY),Ye1,H',⟨by have:=HK1.out;have:=HK2.out;omega⟩,⟨by (with_reducible repeat (first|apply Kd.R_alloc|apply Kd.R_drewN|apply Kd.R_drew));exact Kd.R_mono (Kd.R_far (p:=⟨a8,0,none⟩) (Kd.R_types bW.out a3.out (by decide)) (fun _ hk=>hk.2) (.slice bX b6.length bY)) (fun _ hk=>trivial)⟩,⟨bkf a4.out bg.out⟩,⟨bp a3.out⟩,⟨iq173 a2.out⟩,⟨kb HK.out⟩,⟨bq173 HB.out a2.out⟩⟩
        ·rw [if_neg bw] at H
         exact absurd H (by simp)
       ·rw [if_neg bj] at H
        have cl:decide ((b3.length:Int)<(wrap64 (100 - bd)))=false:=decide_eq_false bj;clear bj;simp only [Option.some.injEq,Prod.mk.injEq] at H;obtain ⟨rfl,rfl⟩:=H;have hnb60:=bn.out;have hnc60:=bg.out;have hnb61:=aK.out;have hnc61:=bo.out;have ⟨cI,cJ⟩:=Yc1 a3.out;obtain ⟨bZ,c0,cq⟩:=Kd.R_slice a5.out;subst cq;have hnb64:=aU.out;have hnc64:=bI.out;have ⟨cK,cL⟩:=Yc1 a4.out
        go_wp2
        refine bodyPost_ret (results_cell_row rfl _ _ a9 25 #[.slice bZ b3.length c0] (0,0) _ rfl (bp a4.out) Tryd.underlying25 rfl (by kernel_rfl)) rfl ?_;exact ⟨_,Ye2,by (with_reducible repeat (first|apply Kd.R_alloc|apply Kd.R_drewN|apply Kd.R_drew));exact Kd.R_mono (Kd.R_far (p:=⟨a9,0,none⟩) (Kd.R_types a5.out a4.out (by decide)) (fun _ hk=>hk.2) (.slice bZ b3.length c0)) (fun _ hk=>trivial),iq173 a2.out,bq173 HB.out a2.out,kb HK.out⟩
    ·rw [if_neg ba] at H
     have bR:(b9==0)=false:=beq_eq_false_iff_ne.mpr ba;have bS:(b9 != 0)=true:=bne_iff_ne.mpr ba;simp only [Option.some.injEq,Prod.mk.injEq] at H;obtain ⟨rfl,rfl⟩:=H
     go_wp2_with (first|((with_reducible refine gc 66 rfl ?_);refine gl (some 33) _ (#[.pointer (some ⟨g,0,none⟩),.int .i64 16]) Tryd.func66 ?_;(with_reducible refine (spec_l1Rd_pick.calls k1 g s0_0 aW 16 b9 bu w0 _ ?side1 ?side2 A42.out).mono ?_);(case side1=>exact iq173 a2.out);(case side2=>exact bq173 HB.out a2.out);rintro e w66 ⟨rfl,hi,hb,hk⟩;refine ⟨_,rfl,?_⟩;refine Ya6 (ra173 (iq173 a2.out) (kr a5.out) hk) (kx hk a4 aU) (kx hk a3 aK) (KeepBut.trans (kb HK.out) hk (.inl rfl)) (hb) (hi) ?_;clear a5 a4 a3 HK HB a2;intro a5 a4 a3 HK HB a2;(try clear hb);(try clear hb2);(try clear hk);(try clear hi);have hnb67:=bn.out;have hnc67:=bg.out;have hnb68:=aK.out;have hnc68:=bo.out;have ⟨cM,cN⟩:=Yc1 a3.out;obtain ⟨ca,cc,cr⟩:=Kd.R_slice a5.out;subst cr;have hnb71:=aU.out;have hnc71:=bI.out;have ⟨cO,cP⟩:=Yc1 a4.out))
     refine bodyPost_ret (results_cell_row rfl _ _ a9 25 #[.slice ca a7.length cc] (0,0) _ rfl (bp a4.out) Tryd.underlying25 rfl (by kernel_rfl)) rfl ?_;exact ⟨_,Ye2,by (with_reducible repeat (first|apply Kd.R_alloc|apply Kd.R_drewN|apply Kd.R_drew));exact Kd.R_mono (Kd.R_far (p:=⟨a9,0,none⟩) (Kd.R_types a5.out a4.out (by decide)) (fun _ hk=>hk.2) (.slice ca a7.length cc)) (fun _ hk=>trivial),iq173 a2.out,bq173 HB.out a2.out,kb HK.out⟩

end Go.Proofs.YtknagppkeodggaaDoor.P


namespace Go.Proofs.YtknagppkeodggaaDoor.P
open Go.RowKit Go.Proofs.YtknagppkeodggaaDoorW.PrintWords Go.Proofs.YtknagppkeodggaaDoorW.PrintLast Go.Proofs.YtknagppkeodggaaDoorW.PrintMore
attribute [local go_sem] max2_int min2_int max_two min_two max_three min_three max_four min_four
set_option linter.unusedVariables false
set_option linter.unusedSimpArgs false

mutual
def spec_l5Spoil.j0:Nat→List Int→Int→List (S27)→Option ((List (S27))×Int)
 | 0,_,_,_=>none
 | k+1,aH,bN,ac=>(spec_l1Rd_pick.f k aH bN (ac.length:Int)).bind fun bt243=>((spec_l1Rd_pick.f k aH bt243.2 5).bind fun bt245=>(if bt245.1=0 then (if 0≤bt243.1 then (if bt243.1<(ac.length:Int) then ((spec_l4Spoil.f k aH bt245.2 ((rd_T27 ac bt243.1).f0)).bind fun bt248=>(some ((ac.set (bt243.1:Int).toNat (⟨bt248.1,(rd_T27 ac bt243.1).f1,(rd_T27 ac bt243.1).f2⟩:S27)),bt248.2))) else (none)) else (none)) else (if bt245.1=1 then ((spec_l1Rd_pick.f k aH bt245.2 2).bind fun bt251=>((spec_l1Many.f k (⟨#[116]⟩:ByteArray) (wrap64 (1500+bt251.1))).bind fun ae=>(if 0≤bt243.1 then (if bt243.1<(ac.length:Int) then (some ((ac.set (bt243.1:Int).toNat (⟨(rd_T27 ac bt243.1).f0,ae,(rd_T27 ac bt243.1).f2⟩:S27)),bt251.2)) else (none)) else (none)))) else (if bt245.1=2 then (if 0≤bt243.1 then (if bt243.1<(ac.length:Int) then (if ac.length<3518437208883 then (some ((ac ++ [(⟨(rd_T27 ac bt243.1).f0,(rd_T27 ac bt243.1).f1,(rd_T27 ac bt243.1).f2⟩:S27)]),bt245.2)) else (none)) else (none)) else (none)) else (if bt245.1=3 then ((spec_l1Rd_pick.f k aH bt245.2 2).bind fun bt259=>(spec_l5Spoil.l0 k (wrap64 (100+bt259.1)) 0 aH bt259.2 ac)) else (if 0≤bt243.1 then (if bt243.1<(ac.length:Int) then (if ((rd_T27 ac bt243.1).f0).size+3≤9223372036854775807 then ((spec_l5Set.f k ac (((rd_T27 ac bt243.1).f0)++(⟨#[47,105,110]⟩:ByteArray)) (⟨#[]⟩:ByteArray) false).bind fun aj=>((spec_l1Rd_pick.f k aH bt245.2 2).bind fun bt271=>(if bt271.1=0 then (if ((rd_T27 ac bt243.1).f0).size+2≤9223372036854775807 then ((spec_l5Set.f k aj (((rd_T27 ac bt243.1).f0)++(⟨#[33,98]⟩:ByteArray)) (⟨#[]⟩:ByteArray) false).bind fun aw=>(some (aw,bt271.2))) else (none)) else (some (aj,bt271.2))))) else (none)) else (none)) else (none)))))))
def spec_l5Spoil.l0:Nat→Int→Int→List Int→Int→List (S27)→Option ((List (S27))×Int)
 | 0,_,_,_,_,_=>none
 | k+1,x7,x8,aH,bN,ac=>if (ac.length:Int)<x7 then ((some (([(wrap64 (97+(wrap64 (Int.tdiv x8 26)))) % 256,(wrap64 (97+(Int.tmod x8 26))) % 256]:List Int):List Int)).bind fun aB=>(if 1+(strOfNums aB).size≤9223372036854775807 then ((spec_l5Set.f k ac ((⟨#[122]⟩:ByteArray)++(strOfNums aB)) (⟨#[]⟩:ByteArray) false).bind fun aI=>(spec_l5Spoil.l0 k x7 (wrap64 (x8+1)) aH bN aI)) else (none))) else (some (ac,bN))
end
def spec_l5Spoil.f (k:Nat) (s0_0:List Int) (s0_1:Int) (aq:List (S27)):Option ((List (S27))×Int):=(spec_l5Copy.f aq).bind fun am=>(if (am.length:Int)=0 then (spec_l5Spoil.j0 k s0_0 s0_1 (([(⟨(⟨#[97]⟩:ByteArray),(⟨#[]⟩:ByteArray),false⟩:S27)]:List (S27)))) else (spec_l5Spoil.j0 k s0_0 s0_1 am))
theorem spec_l5Spoil.mono_l:∀ k,(∀ y0 y1 y2,LeO (spec_l5Spoil.j0 k y0 y1 y2) (spec_l5Spoil.j0 (k+1) y0 y1 y2))∧(∀ y0 y1 y2 y3 y4,LeO (spec_l5Spoil.l0 k y0 y1 y2 y3 y4) (spec_l5Spoil.l0 (k+1) y0 y1 y2 y3 y4))
 | 0=>⟨fun _ _ _ r h=>by simp [spec_l5Spoil.j0] at h,fun _ _ _ _ _ r h=>by simp [spec_l5Spoil.l0] at h⟩
 | k + 1 => by
  obtain ⟨ih0,ih1⟩:=spec_l5Spoil.mono_l k;refine ⟨?_,?_⟩
  ·intro y0 y1 y2
   unfold spec_l5Spoil.j0
   repeat' first
   | (with_reducible exact ih0 _ _ _)
   | (with_reducible exact ih1 _ _ _ _ _)
   | (with_reducible exact spec_l1Many.mono _ _ _)
   | (with_reducible exact spec_l1Rd_pick.mono _ _ _ _)
   | (with_reducible exact spec_l4Spoil.mono _ _ _ _)
   | (with_reducible exact spec_l5Set.mono _ _ _ _ _)
   | (with_reducible exact LeO.refl _)
   | (with_reducible exact LeO.none _)
   | (with_reducible refine LeO.ite ?_ ?_)
   | (with_reducible refine LeO.bind ?_ (fun _ => ?_))
   | exact ih0 _ _ _
   | exact ih1 _ _ _ _ _
   | exact spec_l1Many.mono _ _ _
   | exact spec_l1Rd_pick.mono _ _ _ _
   | exact spec_l4Spoil.mono _ _ _ _
   | exact spec_l5Set.mono _ _ _ _ _
   | exact LeO.none _
   | refine LeO.ite ?_ ?_
   | refine LeO.bind ?_ (fun _ => ?_)
  ·intro y0 y1 y2 y3 y4
   unfold spec_l5Spoil.l0
   repeat' first
   | (with_reducible exact ih0 _ _ _)
   | (with_reducible exact ih1 _ _ _ _ _)
   | (with_reducible exact spec_l1Many.mono _ _ _)
   | (with_reducible exact spec_l1Rd_pick.mono _ _ _ _)
   | (with_reducible exact spec_l4Spoil.mono _ _ _ _)
   | (with_reducible exact spec_l5Set.mono _ _ _ _ _)
   | (with_reducible exact LeO.refl _)
   | (with_reducible exact LeO.none _)
   | (with_reducible refine LeO.ite ?_ ?_)
   | (with_reducible refine LeO.bind ?_ (fun _ => ?_))
   | exact ih0 _ _ _
   | exact ih1 _ _ _ _ _
   | exact spec_l1Many.mono _ _ _
   | exact spec_l1Rd_pick.mono _ _ _ _
   | exact spec_l4Spoil.mono _ _ _ _
   | exact spec_l5Set.mono _ _ _ _ _
   | exact LeO.none _
   | refine LeO.ite ?_ ?_
   | refine LeO.bind ?_ (fun _ => ?_)
theorem spec_l5Spoil.mono:∀ a0 a1 a2 k,LeO (spec_l5Spoil.f k a0 a1 a2) (spec_l5Spoil.f (k+1) a0 a1 a2):=by
 intro a0 a1 a2 k;obtain ⟨ih0,ih1⟩:=spec_l5Spoil.mono_l k
 unfold spec_l5Spoil.f
 repeat' first
   | (with_reducible exact ih0 _ _ _)
   | (with_reducible exact ih1 _ _ _ _ _)
   | (with_reducible exact spec_l1Many.mono _ _ _)
   | (with_reducible exact spec_l1Rd_pick.mono _ _ _ _)
   | (with_reducible exact spec_l4Spoil.mono _ _ _ _)
   | (with_reducible exact spec_l5Set.mono _ _ _ _ _)
   | (with_reducible exact LeO.refl _)
   | (with_reducible exact LeO.none _)
   | (with_reducible refine LeO.ite ?_ ?_)
   | (with_reducible refine LeO.bind ?_ (fun _ => ?_))
   | exact ih0 _ _ _
   | exact ih1 _ _ _ _ _
   | exact spec_l1Many.mono _ _ _
   | exact spec_l1Rd_pick.mono _ _ _ _
   | exact spec_l4Spoil.mono _ _ _ _
   | exact spec_l5Set.mono _ _ _ _ _
   | exact LeO.none _
   | refine LeO.ite ?_ ?_
   | refine LeO.bind ?_ (fun _ => ?_)
def spec_l5Spoil.T11:Bool×List (List Nat×List Nat):=(true,[([],[]),([0],[0]),([],[]),([],[]),([],[]),([4],[4]),([],[]),([5,6],[5,6]),([7],[7]),([8],[8]),([3,9],[3,9]),([1,2,0,1,2,3,4,5,6,7,8,9,10],[1,2]),([11,0,1,2,3,4,5,6,7,8,9,10],[11]),([12,10,10,0,1,2,3,4,5,6,7,8,9,10],[10,12])])
def spec_l5Spoil.B11:List Nat:=[0,1,0,0,0,16,0,112,240,496,1016,2047,4095,8191]
theorem spec_l5Spoil.tab11:rtab .any (opsOf Tryd.f99 11)=spec_l5Spoil.T11:=by kernel_rfl
theorem spec_l5Spoil.bits11:waitsOk spec_l5Spoil.T11.2 spec_l5Spoil.B11=true:=by kernel_rfl
def spec_l5Spoil.T13:Bool×List (List Nat×List Nat):=(true,[([],[]),([0],[0]),([],[]),([],[]),([3],[3]),([4],[4]),([5,4],[5]),([1,2,0,1,2,3,4,5,6],[1,2]),([7,0,1,2,3,4,5,6],[7]),([8,6,6,0,1,2,3,4,5,6],[6,8])])
def spec_l5Spoil.B13:List Nat:=[0,1,0,0,8,24,56,127,255,511]
theorem spec_l5Spoil.tab13:rtab .any (opsOf Tryd.f99 13)=spec_l5Spoil.T13:=by kernel_rfl
theorem spec_l5Spoil.bits13:waitsOk spec_l5Spoil.T13.2 spec_l5Spoil.B13=true:=by kernel_rfl
def spec_l5Spoil.T15:Bool×List (List Nat×List Nat):=(true,[([],[]),([0],[0]),([],[]),([2],[2]),([],[]),([3,4],[3,4]),([5],[5]),([6],[6]),([1,7],[1,7]),([0,1,2,3,4,5,6,7,8],[]),([9,8,8,0,1,2,3,4,5,6,7,8],[8,9])])
def spec_l5Spoil.B15:List Nat:=[0,1,0,4,0,28,60,124,255,511,1023]
theorem spec_l5Spoil.tab15:rtab .any (opsOf Tryd.f99 15)=spec_l5Spoil.T15:=by kernel_rfl
theorem spec_l5Spoil.bits15:waitsOk spec_l5Spoil.T15.2 spec_l5Spoil.B15=true:=by kernel_rfl
set_option maxHeartbeats 8000000 in
set_option maxRecDepth 100000 in
theorem spec_l5Spoil.calls (k : Nat) (g : Nat) (s0_0 : List Int) (s0_1 : Int) (aJ : Option Addr) (aK : Nat) (aq : List (S27)) (r1 : List (S27)) (r2 : Int) (w0 w : World) (hI : IsS173 w0 w g s0_0 s0_1) (hB : Below w0.heap.size w0 w) (cu : ∀ W_, KeepBut w W_ g none → Kd.C k27 W_ aJ aq.length aq) (cv : aq.length ≤ aK) (h : spec_l5Spoil.f k s0_0 s0_1 aq = some (r1, r2)) :
  Calls Tryd.prog 99 #[.pointer (some ⟨g,0,none⟩),.agg #[.slice aJ aq.length aK]] w fun e w' => ∃ v0_:Value,e = .returned (.agg #[v0_])∧Kd.R k27 27 w' w.heap.size (fun _=>True) v0_ r1∧IsS173 w0 w' g s0_0 r2∧Below w0.heap.size w0 w'∧KeepBut w w' g none:=by
 have hu25:=Tryd.underlying25;have hu27:=Tryd.underlying27;have df:=Aside0.mk cu;have dg:=Aside0.mk cv;clear cu cv;have a4:=Aside0.mk hI;have HK:=Aside0.mk (KeepBut.refl w g none);have HL:=Aside0.mk hB.size;clear hI;have HW0:=Aside0.mk hB.size;have HB:=Aside0.mk hB;clear hB;have H:((spec_l5Copy.f aq).bind fun am=>(if (am.length:Int)=0 then (spec_l5Spoil.j0 k s0_0 s0_1 (([(⟨(⟨#[97]⟩:ByteArray),(⟨#[]⟩:ByteArray),false⟩:S27)]:List (S27)))) else (spec_l5Spoil.j0 k s0_0 s0_1 am)))=some (r1,r2):=h;clear h;replace H:=Option.bind_eq_some_iff.mp H;obtain ⟨am,bO,H⟩:=H;replace H:(if (am.length:Int)=0 then (spec_l5Spoil.j0 k s0_0 s0_1 (([(⟨(⟨#[97]⟩:ByteArray),(⟨#[]⟩:ByteArray),false⟩:S27)]:List (S27)))) else (spec_l5Spoil.j0 k s0_0 s0_1 am))=some (r1,r2):=H;have A3:=Aside0.mk bO;clear bO;have cd:=Aside0.mk H;clear H
 go_enter Tryd.func99,Tryd.ntmps99
 go_upto_if 15 with (first|((with_reducible refine gd 3 rfl ?_);refine bx 3 25 (#[.slice aJ aq.length aK]) ?_;intro aC hg w5 hbox hb;refine Ya8 (IsS173.below (iq173 a4.out) hb) (KeepBut.trans (kb HK.out) (KeepBut.of_below hb g none) (.inl rfl)) (below_step (bq173 HB.out a4.out) hb) (hbox) ((by rw [hg];exact (keep_size (w:=w) (g:=g) (row:=none) (kb HK.out)):w.heap.size≤aC)) ((Nat.le_trans HW0.out (by rw [hg];exact (keep_size (w:=w) (g:=g) (row:=none) (kb HK.out)):w.heap.size≤aC):w0.heap.size≤aC)) ((by rw [hg];exact Nat.ne_of_lt (IsS173.lt (show IsS173 w0 _ g s0_0 s0_1 from iq173 a4.out)):g≠aC)) ((by rw [hg];exact Nat.ne_of_gt (IsS173.lt (show IsS173 w0 _ g s0_0 s0_1 from iq173 a4.out)):aC≠g)) ?_;clear a4 HK HB;intro a4 HK HB a9 GW234 cw dh an;clear hb hbox hg)|((with_reducible refine gd 4 rfl ?_);refine bx 4 25 (#[.slice none 0 0]) ?_;intro ag hg w6 hbox hb;refine Ya11 (IsS173.below (iq173 a4.out) hb) (bb a9 hb) (KeepBut.trans (kb HK.out) (KeepBut.of_below hb g none) (.inl rfl)) (below_step (bq173 HB.out a4.out) hb) (hbox) ((by rw [hg];exact (keep_size (w:=w) (g:=g) (row:=none) (kb HK.out)):w.heap.size≤ag)) ((Nat.le_trans HW0.out (by rw [hg];exact (keep_size (w:=w) (g:=g) (row:=none) (kb HK.out)):w.heap.size≤ag):w0.heap.size≤ag)) (bl hg a9) (br hg a9) ((by rw [hg];exact Nat.ne_of_lt (IsS173.lt (show IsS173 w0 _ g s0_0 s0_1 from iq173 a4.out)):g≠ag)) ((by rw [hg];exact Nat.ne_of_gt (IsS173.lt (show IsS173 w0 _ g s0_0 s0_1 from iq173 a4.out)):ag≠g)) ?_;clear a4 a9 HK HB;intro a4 a9 HK HB a8 GW235 cx aY aZ bd af;clear hb hbox hg;have hnb7:=aY.out;have hnc7:=aZ.out;have hnb8:=an.out;have hnc8:=dh.out;have ⟨di,dj⟩:=Yc1 a9.out)|((with_reducible refine gc 157 rfl ?_);refine gl (some 11) _ (#[.agg #[.slice aJ aq.length aK]]) Tryd.func157 ?_;(with_reducible refine (spec_l5Copy.calls _ _ aq am _ ?side1 ?side2 A3.out).mono ?_);(case side1=>exact Kd.C_foot_now df.out (kb HK.out));(case side2=>exact dg.out);rintro e w10 ⟨v237,rfl,ho0,hb⟩;refine ⟨_,rfl,?_⟩;refine Ya6 (Kd.R_lower ho0 (keep_size (w:=w) (g:=g) (row:=none) (kb HK.out))) (IsS173.below (iq173 a4.out) hb) (bb a9 hb) (bb a8 hb) (KeepBut.trans (kb HK.out) (KeepBut.of_below hb g none) (.inl rfl)) (below_step (bq173 HB.out a4.out) hb) ?_;clear a4 a9 a8 HK HB;intro aM a4 a9 a8 HK HB;(try clear hb);(try clear hb2);(try clear hk);(try clear hi);(try clear ho0))|((with_reducible refine gd 5 rfl ?_);refine bx 5 25 (#[.slice none 0 0]) ?_;intro ah hg w11 hbox hb;refine Ya15 (Kd.R_below (kr aM.out) hb) (IsS173.below (iq173 a4.out) hb) (bb a9 hb) (bb a8 hb) (KeepBut.trans (kb HK.out) (KeepBut.of_below hb g none) (.inl rfl)) (below_step (bq173 HB.out a4.out) hb) (hbox) ((by rw [hg];exact (keep_size (w:=w) (g:=g) (row:=none) (kb HK.out)):w.heap.size≤ah)) ((Nat.le_trans HW0.out (by rw [hg];exact (keep_size (w:=w) (g:=g) (row:=none) (kb HK.out)):w.heap.size≤ah):w0.heap.size≤ah)) (bl hg a9) (br hg a9) (bl hg a8) (br hg a8) ((by rw [hg];exact Nat.ne_of_lt (IsS173.lt (show IsS173 w0 _ g s0_0 s0_1 from iq173 a4.out)):g≠ah)) ((by rw [hg];exact Nat.ne_of_gt (IsS173.lt (show IsS173 w0 _ g s0_0 s0_1 from iq173 a4.out)):ah≠g)) ?_;clear aM a4 a9 a8 HK HB;intro aM a4 a9 a8 HK HB a7 GW239 cy ao ay ap az aD ad;clear hb hbox hg;obtain ⟨bP,bQ,dk⟩:=Kd.R_slice aM.out;subst dk;have hnb13:=ay.out;have hnc13:=ao.out;have hnb14:=az.out;have hnc14:=ap.out;have hnb15:=ad.out;have hnc15:=aD.out;have ⟨dl,dm⟩:=Yc1 a7.out))
 (try simp only [Act.put,List.setIfInBounds_toArray,List.set_cons_zero,List.set_cons_succ])
 go_cut [] (fun wc => ∃ (kq:Nat) (a5:List (S27)) (b0:Value),Aside0 (spec_l5Spoil.j0 kq s0_0 s0_1 a5=some (r1,r2))∧Aside0 (kq≤k)∧Aside0 (Kd.R k27 27 wc w.heap.size (fun _=>True) b0 a5)∧Aside0 (wc.heap[aC]? = some (.cells #[(.slice aJ aq.length aK)] 25 (0,0)))∧Aside0 (wc.heap[ag]? = some (.cells #[(.slice none 0 0)] 25 (0,0)))∧Aside0 (wc.heap[ah]? = some (.cells #[b0] 25 (0,0)))∧Aside0 (IsS173 w0 wc g s0_0 s0_1)∧Aside0 (KeepBut w wc g none)∧Aside0 (Below w0.heap.size w0 wc))
 case first =>
  have H:=cd.out;clear cd
  by_cases aN:(am.length:Int)=0
  ·rw [if_pos aN] at H
   have bg:((am.length:Int)==0)=true:=beq_iff_eq.mpr aN;have cz:((am.length:Int) != 0)=false:=bne_eq_false_iff_eq.mpr aN;clear aN;(first|rw [bg]|(simp only [i64_w,i32_w];rw [bg])|skip)
   obtain ⟨bR,bo⟩:∃ y_:List (S27),y_=(([(⟨(⟨#[97]⟩:ByteArray),(⟨#[]⟩:ByteArray),false⟩:S27)]:List (S27))):=⟨_,rfl⟩
   replace H:(spec_l5Spoil.j0 k s0_0 s0_1 bR)=some (r1,r2):=by first|(rw [bo];with_reducible exact H)|(have H2_:=(Option.bind_some _ _).symm.trans H;rw [bo];with_reducible exact H2_)|(have H2_:=(Option.bind_some _ _).symm.trans H;with_reducible exact H2_)|with_reducible exact H|(rw [bo];exact H)|exact H
   have cA:=Aside0.mk bo;clear bo;have H':=Aside0.mk H;clear H
   go_wp2_with (first|((with_reducible refine gd 17 rfl ?_);refine Kd.R_lit k27 _ 27 ?hg (N:=17) ?hd (xs:=([(⟨(⟨#[97]⟩:ByteArray),(⟨#[]⟩:ByteArray),false⟩:S27)]:List (S27))) (inner:=[.string (⟨#[97]⟩:ByteArray),.string (⟨#[]⟩:ByteArray),.bool false]) (ok:=fun _=>True) (okp:=fun _=>True) ?hr ?hp (fun _ hk=>hk) trivial (Below.refl _ _) (Nat.le_refl _) (by simp) ?_;(case hd=>rfl);(case hg=>rfl);(case hr=>first|(go_simp;done)|(go_simp;rfl));(case hp=>exact (Reps.c3 (show Kd.M k27 _ _ _ (⟨(⟨#[97]⟩:ByteArray),(⟨#[]⟩:ByteArray),false⟩:S27) [.string (⟨#[97]⟩:ByteArray),.string (⟨#[]⟩:ByteArray),.bool false] from (k27_mkM _ _ _ (⟨(⟨#[97]⟩:ByteArray),(⟨#[]⟩:ByteArray),false⟩:S27) )) (Reps.none _ _)));intro v241 w18 ho19 hb hg_ hnew_;clear hg_ hnew_;(first|rw [←cA.out] at ho19|(simp only [Int.reduceToNat] at ho19;rw [←cA.out] at ho19));refine Ya8 (Kd.R_elder' (rf aM a7) (Kd.R_base ho19) hb) (Kd.R_lower (Kd.R_new' ho19 (Kd.R_lt (rf aM a7))) (keep_size (w:=w) (g:=g) (row:=none) (kb HK.out))) (IsS173.below (show IsS173 w0 (w11.setCell ⟨ah,0,none⟩ (.slice bP am.length bQ)) g s0_0 s0_1 from iq173 a4.out) hb) (bbf a9 ao hb) (bbf a8 ap hb) (blk_below (g:=ah) (o:=.cells #[.slice bP am.length bQ] 25 (0,0)) (bp a7.out) hb) (KeepBut.trans (kb HK.out) (KeepBut.of_below hb g none) (.inl rfl)) (below_step (bq173 HB.out a4.out) hb) ?_;clear aM a4 a9 a8 a7 HK HB;intro aM cB a4 a9 a8 a7 HK HB;clear hb ho19;obtain ⟨cC,cD,dn⟩:=Kd.R_slice cB.out;subst dn;have hnb21:=ay.out;have hnc21:=ao.out;have hnb22:=az.out;have hnc22:=ap.out;have hnb23:=ad.out;have hnc23:=aD.out;have ⟨dp,dq⟩:=Yc1 a7.out))
   go_meet
   case rel=>exact ⟨_,(bR),(.slice cC bR.length cD),H',⟨by first|omega|exact Nat.le_refl _⟩,⟨by (with_reducible repeat (first|apply Kd.R_alloc|apply Kd.R_drewN|apply Kd.R_drew));exact Kd.R_mono (Kd.R_far (p:=⟨ah,0,none⟩) (Kd.R_types cB.out a7.out (by decide)) (fun _ hk=>hk.2) (.slice cC bR.length cD)) (fun _ hk=>trivial)⟩,⟨bkf a9.out ao.out⟩,⟨bkf a8.out ap.out⟩,⟨bp a7.out⟩,⟨iq173 a4.out⟩,⟨kb HK.out⟩,⟨bq173 HB.out a4.out⟩⟩
  ·rw [if_neg aN] at H
   have bg:((am.length:Int)==0)=false:=beq_eq_false_iff_ne.mpr aN;have cz:((am.length:Int) != 0)=true:=bne_iff_ne.mpr aN
   have dr:¬ (am = []):=fun h_=>aN (by rw [h_];rfl)
   (first|rw [bg]|(simp only [i64_w,i32_w];rw [bg])|skip);have H':=Aside0.mk H;clear H
   go_wp2
   go_meet
   case rel=>exact ⟨_,(am),(.slice bP am.length bQ),H',⟨by first|omega|exact Nat.le_refl _⟩,⟨by (with_reducible repeat (first|apply Kd.R_alloc|apply Kd.R_drewN|apply Kd.R_drew));exact Kd.R_mono (Kd.R_far (p:=⟨ah,0,none⟩) (Kd.R_types aM.out a7.out (by decide)) (fun _ hk=>hk.2) (.slice bP am.length bQ)) (fun _ hk=>trivial)⟩,⟨bkf a9.out ao.out⟩,⟨bkf a8.out ap.out⟩,⟨bp a7.out⟩,⟨iq173 a4.out⟩,⟨kb HK.out⟩,⟨bq173 HB.out a4.out⟩⟩
 case rest =>
  clear cd;(try clear c1);(try clear c2);(try clear p2);(try clear c3);(try clear c7);(try clear c8);(try clear c9);(try clear c13);(try clear c14);(try clear c15);(try clear aN);(try clear bg);(try clear cz);(try clear dr);(try clear c21);(try clear c22);(try clear c23);(try clear dl);(try clear dp);(try clear di);(try clear dm);(try clear dq);(try clear dj);obtain ⟨kq,a5,b0,HA,HJ3,a6,a9,a8,a7,a4,HK,HB⟩:=hcut
  cases kq with
  | zero=>exact absurd HA.out (by simp [spec_l5Spoil.j0])
  | succ aa =>
   have H:=HA.out;clear HA;simp only [spec_l5Spoil.j0] at H;replace H:=Option.bind_eq_some_iff.mp H;obtain ⟨⟨a3,ax⟩,cE,H⟩:=H;replace H:((spec_l1Rd_pick.f aa s0_0 ax 5).bind fun bt245=>(if bt245.1=0 then (if 0≤a3 then (if a3<(a5.length:Int) then ((spec_l4Spoil.f aa s0_0 bt245.2 ((rd_T27 a5 a3).f0)).bind fun bt248=>(some ((a5.set (a3:Int).toNat (⟨bt248.1,(rd_T27 a5 a3).f1,(rd_T27 a5 a3).f2⟩:S27)),bt248.2))) else (none)) else (none)) else (if bt245.1=1 then ((spec_l1Rd_pick.f aa s0_0 bt245.2 2).bind fun bt251=>((spec_l1Many.f aa (⟨#[116]⟩:ByteArray) (wrap64 (1500+bt251.1))).bind fun ae=>(if 0≤a3 then (if a3<(a5.length:Int) then (some ((a5.set (a3:Int).toNat (⟨(rd_T27 a5 a3).f0,ae,(rd_T27 a5 a3).f2⟩:S27)),bt251.2)) else (none)) else (none)))) else (if bt245.1=2 then (if 0≤a3 then (if a3<(a5.length:Int) then (if a5.length<3518437208883 then (some ((a5 ++ [(⟨(rd_T27 a5 a3).f0,(rd_T27 a5 a3).f1,(rd_T27 a5 a3).f2⟩:S27)]),bt245.2)) else (none)) else (none)) else (none)) else (if bt245.1=3 then ((spec_l1Rd_pick.f aa s0_0 bt245.2 2).bind fun bt259=>(spec_l5Spoil.l0 aa (wrap64 (100+bt259.1)) 0 s0_0 bt259.2 a5)) else (if 0≤a3 then (if a3<(a5.length:Int) then (if ((rd_T27 a5 a3).f0).size+3≤9223372036854775807 then ((spec_l5Set.f aa a5 (((rd_T27 a5 a3).f0)++(⟨#[47,105,110]⟩:ByteArray)) (⟨#[]⟩:ByteArray) false).bind fun aj=>((spec_l1Rd_pick.f aa s0_0 bt245.2 2).bind fun bt271=>(if bt271.1=0 then (if ((rd_T27 a5 a3).f0).size+2≤9223372036854775807 then ((spec_l5Set.f aa aj (((rd_T27 a5 a3).f0)++(⟨#[33,98]⟩:ByteArray)) (⟨#[]⟩:ByteArray) false).bind fun aw=>(some (aw,bt271.2))) else (none)) else (some (aj,bt271.2))))) else (none)) else (none)) else (none)))))))=some (r1,r2):=H;have bh:=Aside0.mk cE;clear cE;replace H:=Option.bind_eq_some_iff.mp H;obtain ⟨⟨ab,ai⟩,cF,H⟩:=H;replace H:(if ab=0 then (if 0≤a3 then (if a3<(a5.length:Int) then ((spec_l4Spoil.f aa s0_0 ai ((rd_T27 a5 a3).f0)).bind fun bt248=>(some ((a5.set (a3:Int).toNat (⟨bt248.1,(rd_T27 a5 a3).f1,(rd_T27 a5 a3).f2⟩:S27)),bt248.2))) else (none)) else (none)) else (if ab=1 then ((spec_l1Rd_pick.f aa s0_0 ai 2).bind fun bt251=>((spec_l1Many.f aa (⟨#[116]⟩:ByteArray) (wrap64 (1500+bt251.1))).bind fun ae=>(if 0≤a3 then (if a3<(a5.length:Int) then (some ((a5.set (a3:Int).toNat (⟨(rd_T27 a5 a3).f0,ae,(rd_T27 a5 a3).f2⟩:S27)),bt251.2)) else (none)) else (none)))) else (if ab=2 then (if 0≤a3 then (if a3<(a5.length:Int) then (if a5.length<3518437208883 then (some ((a5 ++ [(⟨(rd_T27 a5 a3).f0,(rd_T27 a5 a3).f1,(rd_T27 a5 a3).f2⟩:S27)]),ai)) else (none)) else (none)) else (none)) else (if ab=3 then ((spec_l1Rd_pick.f aa s0_0 ai 2).bind fun bt259=>(spec_l5Spoil.l0 aa (wrap64 (100+bt259.1)) 0 s0_0 bt259.2 a5)) else (if 0≤a3 then (if a3<(a5.length:Int) then (if ((rd_T27 a5 a3).f0).size+3≤9223372036854775807 then ((spec_l5Set.f aa a5 (((rd_T27 a5 a3).f0)++(⟨#[47,105,110]⟩:ByteArray)) (⟨#[]⟩:ByteArray) false).bind fun aj=>((spec_l1Rd_pick.f aa s0_0 ai 2).bind fun bt271=>(if bt271.1=0 then (if ((rd_T27 a5 a3).f0).size+2≤9223372036854775807 then ((spec_l5Set.f aa aj (((rd_T27 a5 a3).f0)++(⟨#[33,98]⟩:ByteArray)) (⟨#[]⟩:ByteArray) false).bind fun aw=>(some (aw,bt271.2))) else (none)) else (some (aj,bt271.2))))) else (none)) else (none)) else (none))))))=some (r1,r2):=H;have bi:=Aside0.mk cF;clear cF
   by_cases aQ:ab=0
   ·rw [if_pos aQ] at H
    have cG:(ab==0)=true:=beq_iff_eq.mpr aQ;have cH:(ab != 0)=false:=bne_eq_false_iff_eq.mpr aQ;clear aQ
    by_cases bq:0≤a3
    ·rw [if_pos bq] at H
     have c28b0:decide (0≤a3)=true:=decide_eq_true bq;clear bq
     by_cases bu:a3<(a5.length:Int)
     ·rw [if_pos bu] at H
      have c29b0:decide (a3<(a5.length:Int))=true:=decide_eq_true bu;clear bu;replace H:=Option.bind_eq_some_iff.mp H;obtain ⟨⟨ar,bS⟩,cI,H⟩:=H;replace H:(some ((a5.set (a3:Int).toNat (⟨ar,(rd_T27 a5 a3).f1,(rd_T27 a5 a3).f2⟩:S27)),bS))=some (r1,r2):=H;have bO:=Aside0.mk cI;clear cI
      obtain ⟨cJ,bv⟩:∃ y_:List (S27),y_=(a5.set (a3:Int).toNat (⟨ar,(rd_T27 a5 a3).f1,(rd_T27 a5 a3).f2⟩:S27)):=⟨_,rfl⟩
      replace H:(some (cJ,bS))=some (r1,r2):=by first|(rw [bv];with_reducible exact H)|(have H2_:=(Option.bind_some _ _).symm.trans H;rw [bv];with_reducible exact H2_)|(have H2_:=(Option.bind_some _ _).symm.trans H;with_reducible exact H2_)|with_reducible exact H|(rw [bv];exact H)|exact H
      have dt:=Aside0.mk bv;clear bv;simp only [Option.some.injEq,Prod.mk.injEq] at H;obtain ⟨rfl,rfl⟩:=H;have hnb32:=ay.out;have hnc32:=ao.out;have hnb33:=az.out;have hnc33:=ap.out;have hnb34:=ad.out;have hnc34:=aD.out;have ⟨ev,ew⟩:=Yc1 a7.out;obtain ⟨Ao36,bw,du⟩:=Kd.R_slice a6.out;subst du
      try go_wp2_with (first|((with_reducible refine gc 66 rfl ?_);refine gl (some 23) _ (#[.pointer (some ⟨g,0,none⟩),.int .i64 (a5.length:Int)]) Tryd.func66 ?_;(with_reducible refine (spec_l1Rd_pick.calls aa g s0_0 s0_1 (a5.length:Int) a3 ax w0 _ ?side1 ?side2 bh.out).mono ?_);(case side1=>exact iq173 a4.out);(case side2=>exact bq173 HB.out a4.out);rintro e w37 ⟨rfl,hi,hb,hk⟩;refine ⟨_,rfl,?_⟩;refine Ya7 (ra173 (iq173 a4.out) (kr a6.out) hk) (kx hk a9 an) (kx hk a8 af) (kx hk a7 ad) (KeepBut.trans (kb HK.out) hk (.inl rfl)) (hb) (hi) ?_;clear a6 a9 a8 a7 HK HB a4;intro a6 a9 a8 a7 HK HB a4;(try clear hb);(try clear hb2);(try clear hk);(try clear hi))|((with_reducible refine gc 66 rfl ?_);refine gl (some 25) _ (#[.pointer (some ⟨g,0,none⟩),.int .i64 5]) Tryd.func66 ?_;(with_reducible refine (spec_l1Rd_pick.calls aa g s0_0 ax 5 ab ai w0 _ ?side1 ?side2 bi.out).mono ?_);(case side1=>exact iq173 a4.out);(case side2=>exact bq173 HB.out a4.out);rintro e w38 ⟨rfl,hi,hb,hk⟩;refine ⟨_,rfl,?_⟩;refine Ya7 (ra173 (iq173 a4.out) (kr a6.out) hk) (kx hk a9 an) (kx hk a8 af) (kx hk a7 ad) (KeepBut.trans (kb HK.out) hk (.inl rfl)) (hb) (hi) ?_;clear a6 a9 a8 a7 HK HB a4;intro a6 a9 a8 a7 HK HB a4;(try clear hb);(try clear hb2);(try clear hk);(try clear hi)))
      refine Ya7 (Kd.R_drew a6.out) (blk_drew a9.out) (blk_drew a8.out) (blk_drew a7.out) (IsS173.drew a4.out) (keep_drew HK.out) (below_drew1 HB.out) ?_;clear a6 a9 a8 a7 a4 HK HB;intro a6 a9 a8 a7 a4 HK HB;have ce:0≤(a3:Int):=oda;have cf:a3<(a5.length:Int):=oda;obtain ⟨bj,dv,bT,bU,bV⟩:=at_T27 (Kd.R_reads' a6.out).2.2 a3 ce cf
      cases dv
      replace ce:=eq_true ce;replace cf:=eq_true cf;refine start_ (n:=14) (S:=fun w'=>w'.cell? ⟨ah,0,none⟩=some (.slice (some bj) a5.length bw)∧w'.cell? (bj.add ((a3).toNat*3))=some (.string ((rd_T27 a5 a3).f0))∧w'.cell? ⟨(bj.add ((a3).toNat*3)).block,(bj.add ((a3).toNat*3)).off+1,none⟩=some (.string ((rd_T27 a5 a3).f1))∧w'.cell? ⟨(bj.add ((a3).toNat*3)).block,(bj.add ((a3).toNat*3)).off+2,none⟩=some (.bool ((rd_T27 a5 a3).f2))) (ds:=[13]) (fb 14 0) (by kernel_rfl) rfl rfl ⟨bc a7 0,bT,bU,bV⟩ (fun hHeld => ?_);refine with_tabW spec_l5Spoil.tab11 spec_l5Spoil.bits11 (fun HT_ HW_ => ?_);generalize w38.drew=w39 at a6 a9 a8 a7 a4 HK HB bT bU bV hHeld ⊢; refine pu 0 47 (fb 14 1) HT_ ?_;refine pu 2 49 (fb 14 5) HT_ ?_;refine pu 3 50 (fb 14 13) HT_ ?_;refine pu 4 51 (fb 14 29) HT_ ?_;refine pu 6 53 (fb 14 93) HT_ ?_;refine tk 1 48 (fb 14 95) HT_ HW_ hHeld ?_;refine tk 5 52 (fb 14 127) HT_ HW_ hHeld ?_;refine pu 7 54 (fb 14 255) HT_ ?_;refine pu 8 55 (fb 14 511) HT_ ?_;refine tk 9 56 (fb 14 1023) HT_ HW_ hHeld ?_;refine o1 10 (some 57) (fb 14 2047) HT_ (fun K hK => ?_);refine gs _ (#[.pointer (some ⟨g,0,none⟩),.string ((rd_T27 a5 a3).f0)]) Tryd.func67 ?_;(with_reducible refine (spec_l4Spoil.calls aa g s0_0 ai ((rd_T27 a5 a3).f0) ar bS w0 _ ?side1 ?side2 bO.out).mono ?_);(case side1=>exact iq173 a4.out);(case side2=>exact bq173 HB.out a4.out);rintro e aE ⟨rfl,hi,hb,hk⟩;have HS1_:=keep_cell hk (hHeld.2.1) (by first|(rw [add_block];exact Kd.own_blk (IsS173.own_ne a4.out a6.out (by decide)))|(show (Addr.add _ _).block≠_;rw [add_block];exact Kd.own_blk (IsS173.own_ne a4.out a6.out (by decide)))|exact Kd.own_blk (IsS173.own_ne a4.out a6.out (by decide)));have HS2_:=keep_cell hk (hHeld.2.2.1) (by first|(rw [add_block];exact Kd.own_blk (IsS173.own_ne a4.out a6.out (by decide)))|(show (Addr.add _ _).block≠_;rw [add_block];exact Kd.own_blk (IsS173.own_ne a4.out a6.out (by decide)))|exact Kd.own_blk (IsS173.own_ne a4.out a6.out (by decide)));have HS3_:=keep_cell hk (hHeld.2.2.2) (by first|(rw [add_block];exact Kd.own_blk (IsS173.own_ne a4.out a6.out (by decide)))|(show (Addr.add _ _).block≠_;rw [add_block];exact Kd.own_blk (IsS173.own_ne a4.out a6.out (by decide)))|exact Kd.own_blk (IsS173.own_ne a4.out a6.out (by decide)));refine ⟨_,rfl,?_⟩;refine Ya7 (ra173 (iq173 a4.out) (kr a6.out) hk) (kx hk a9 an) (kx hk a8 af) (kx hk a7 ad) (KeepBut.trans (kb HK.out) hk (.inl rfl)) (hb) (hi) ?_;clear a6 a9 a8 a7 HK HB a4;intro a6 a9 a8 a7 HK HB a4;(try clear hb);(try clear hb2);(try clear hk);(try clear hi);have p31:0≤(a3:Int):=oda;have q31:(a3:Int)<((a5.length:Int):Int):=oda;obtain ⟨ak,co31,cK,cL,gl31,cl31,HG31⟩:=Kd.R_form a6.out (by omega);(first|cases cK|(injection cK with ea_ en_ ec_;(first|subst ea_|(injection ea_ with ea_;subst ea_));subst ec_;clear en_));have dw:=Aside0.mk cL;have GG31:=Aside0.mk HG31;clear cL gl31 HG31;(first|simp only [add_plain] at bT|skip);(first|simp only [add_plain] at bU|skip);(first|simp only [add_plain] at bV|skip);obtain ⟨ce31,hcl31,hM31,hcc31,hfr31⟩:=Kd.R_elem a6.out z27 (a3:Int) p31 q31;obtain rfl:=k27_openM hM31;have dx:World.cell? _ ⟨ak,(a3:Int).toNat*3,none⟩=some (.string ((rd_T27 a5 a3).f0)):=hcc31 0 _ rfl;have dy:World.cell? _ ⟨ak,(a3:Int).toNat*3+1,none⟩=some (.string ((rd_T27 a5 a3).f1)):=hcc31 1 _ rfl;have dA:World.cell? _ ⟨ak,(a3:Int).toNat*3+2,none⟩=some (.bool ((rd_T27 a5 a3).f2)):=hcc31 2 _ rfl;have hf31_0:World.frozen? _ ⟨ak,(a3:Int).toNat*3,none⟩=false:=hfr31 0;have hf31_1:World.frozen? _ ⟨ak,(a3:Int).toNat*3+1,none⟩=false:=hfr31 1;have hf31_2:World.frozen? _ ⟨ak,(a3:Int).toNat*3+2,none⟩=false:=hfr31 2;(try clear hM31);clear hcl31 hcc31 hfr31;replace p31:=eq_true p31;replace q31:=eq_true q31;have HN0_go31:=Aside0.mk (show g≠ak from by have h_:=IsS173.own_ne a4.out a6.out (by decide);intro e_;exact h_ (by rw [e_];rfl));obtain ⟨ce41,hcl41,hM41,hcc41,hfr41⟩:=Kd.R_elem a6.out z27 (a3:Int) (oda) (by have h_:(a3:Int)<((a5.length:Int):Int):=oda;first|exact h_|(have e_:=(Kd.R_reads' a6.out).1;omega)|simpa using h_);obtain rfl:=k27_openM hM41;have cg:=(Kd.R_seg a6.out (a3:Int) (oda) (by have h_:(a3:Int)<((a5.length:Int):Int):=oda;first|exact h_|(have e_:=(Kd.R_reads' a6.out).1;omega)|simpa using h_) (seg:=[.string ar]) (j:=0) hcl41 hcc41 (show 1≤3 from by decide) (x':=(⟨ar,(rd_T27 a5 a3).f1,(rd_T27 a5 a3).f2⟩:S27)) (k27_mkM _ _ _ (⟨ar,(rd_T27 a5 a3).f1,(rd_T27 a5 a3).f2⟩:S27) ) (fun _ hk=>hk)).1
      rw [←dt.out] at cg
      have HQ41:=Aside0.mk cg;(try clear hM41);clear hcl41 hcc41 hfr41 cg;refine hK.out _ _ ⟨bc a7 0,HS1_,HS2_,HS3_⟩ (fun hHeld => ?_);clear hK K;refine nm 57 ?_;refine pu 11 58 (fb 14 4095) HT_ ?_;refine pu 12 59 (fb 14 8191) HT_ ?_;refine last_ (i:=13) (N:=none) (fb 14 16383) rfl rfl (one_of HT_.out (by kernel_rfl)) (by decide) (fun K hK => ?_);refine skip_ (w1:=?_) (by rfl) rfl ?_ ?_;rotate_left
      ·go_simp;rfl
      refine hK.out _ _ ?_;clear hK K;refine done_ (done_of HT_.out (by kernel_rfl)) ?_
      have b1:Aside0 (Kd.R k27 27 (aE.setCell ⟨ak,(a3:Int).toNat*3,none⟩ (.string ar)) w.heap.size (fun _=>True) (.slice (some ⟨ak,0,none⟩) a5.length bw) cJ):=⟨kr HQ41.out⟩
      have b2:Aside0 ((aE.setCell ⟨ak,(a3:Int).toNat*3,none⟩ (.string ar)).heap[aC]? = some (.cells #[.slice aJ aq.length aK] 25 (0,0))):=⟨by (with_reducible repeat (first|apply blk_drewN|apply blk_drew|apply blk_alloc));refine blk_far ?_ (by have h_:=Kd.R_ne a6.out a9.out (by decide);intro e_;exact h_ (by rw [e_];rfl)) _;(with_reducible repeat (first|apply blk_drewN|apply blk_drew|apply blk_alloc));exact a9.out⟩
      have b3:Aside0 ((aE.setCell ⟨ak,(a3:Int).toNat*3,none⟩ (.string ar)).heap[ag]? = some (.cells #[.slice none 0 0] 25 (0,0))):=⟨by (with_reducible repeat (first|apply blk_drewN|apply blk_drew|apply blk_alloc));refine blk_far ?_ (by have h_:=Kd.R_ne a6.out a8.out (by decide);intro e_;exact h_ (by rw [e_];rfl)) _;(with_reducible repeat (first|apply blk_drewN|apply blk_drew|apply blk_alloc));exact a8.out⟩
      have b4:Aside0 ((aE.setCell ⟨ak,(a3:Int).toNat*3,none⟩ (.string ar)).heap[ah]? = some (.cells #[.slice (some ⟨ak,0,none⟩) a5.length bw] 25 (0,0))):=⟨by (with_reducible repeat (first|apply blk_drewN|apply blk_drew|apply blk_alloc));refine blk_far ?_ (by have h_:=Kd.R_ne a6.out a7.out (by decide);intro e_;exact h_ (by rw [e_];rfl)) _;(with_reducible repeat (first|apply blk_drewN|apply blk_drew|apply blk_alloc));exact a7.out⟩
      have b5:Aside0 (IsS173 w0 (aE.setCell ⟨ak,(a3:Int).toNat*3,none⟩ (.string ar)) g s0_0 bS):=⟨iq173 a4.out⟩
      have b6:Aside0 (KeepBut w (aE.setCell ⟨ak,(a3:Int).toNat*3,none⟩ (.string ar)) g none):=⟨kb HK.out⟩
      have b7:Aside0 (Below w0.heap.size w0 (aE.setCell ⟨ak,(a3:Int).toNat*3,none⟩ (.string ar))):=⟨by repeat (first|(with_reducible first|exact HB.out|apply below_alloc|apply pw_below_drewN|apply below_drew1|refine below_set ?_ (Nat.le_trans HL.out dw.out)|refine below_set ?_ (IsS173.ge a4.out)|refine below_set ?_ cw.out|refine below_set ?_ cx.out|refine below_set ?_ cy.out)|exact HB.out)⟩
      (try clear a6);(try clear a9);(try clear a8);(try clear a7);(try clear a4);(try clear HK);(try clear HB);(try rw [show (aE.drewN nd).setCell ⟨ak,(a3:Int).toNat*3,none⟩ (.string ar)=(aE.setCell ⟨ak,(a3:Int).toNat*3,none⟩ (.string ar)).drewN nd from rfl]);generalize (aE.setCell ⟨ak,(a3:Int).toNat*3,none⟩ (.string ar))=w42 at b1 b2 b3 b4 b5 b6 b7 ⊢; have a6:=b1;have a9:=b2;have a8:=b3;have a7:=b4;have a4:=b5;have HK:=b6;have HB:=b7;clear b1 b2 b3 b4 b5 b6 b7;have ⟨dB,dC⟩:=Yc1 a7.out;have hnb44:=aZ.out;have hnc44:=aY.out;have hnb45:=af.out;have hnc45:=bd.out;have ⟨dD,dE⟩:=Yc1 a8.out
      try go_wp2
      refine bodyPost_ret (results_cell_row rfl _ _ ag 25 #[.slice (some ⟨ak,0,none⟩) a5.length bw] (0,0) _ rfl (bp a8.out) Tryd.underlying25 rfl (by kernel_rfl)) rfl ?_;exact ⟨_,Ye2,by (with_reducible repeat (first|apply Kd.R_alloc|apply Kd.R_drewN|apply Kd.R_drew));exact Kd.R_mono (Kd.R_far (p:=⟨ag,0,none⟩) (Kd.R_types a6.out a8.out (by decide)) (fun _ hk=>hk.2) (.slice (some ⟨ak,0,none⟩) a5.length bw)) (fun _ hk=>trivial),iq173 a4.out,bq173 HB.out a4.out,kb HK.out⟩
     ·rw [if_neg bu] at H
      exact absurd H (by simp)
    ·rw [if_neg bq] at H
     exact absurd H (by simp)
   ·rw [if_neg aQ] at H
    have cG:(ab==0)=false:=beq_eq_false_iff_ne.mpr aQ;have cH:(ab != 0)=true:=bne_iff_ne.mpr aQ
    by_cases aR:ab=1
    ·rw [if_pos aR] at H
     have cM:(ab==1)=true:=beq_iff_eq.mpr aR;have cN:(ab != 1)=false:=bne_eq_false_iff_eq.mpr aR;clear aR;replace H:=Option.bind_eq_some_iff.mp H;obtain ⟨⟨bW,bz⟩,cO,H⟩:=H;replace H:((spec_l1Many.f aa (⟨#[116]⟩:ByteArray) (wrap64 (1500+bW))).bind fun ae=>(if 0≤a3 then (if a3<(a5.length:Int) then (some ((a5.set (a3:Int).toNat (⟨(rd_T27 a5 a3).f0,ae,(rd_T27 a5 a3).f2⟩:S27)),bz)) else (none)) else (none)))=some (r1,r2):=H;have A48:=Aside0.mk cO;clear cO;replace H:=Option.bind_eq_some_iff.mp H;obtain ⟨ae,cP,H⟩:=H;replace H:(if 0≤a3 then (if a3<(a5.length:Int) then (some ((a5.set (a3:Int).toNat (⟨(rd_T27 a5 a3).f0,ae,(rd_T27 a5 a3).f2⟩:S27)),bz)) else (none)) else (none))=some (r1,r2):=H;have A49:=Aside0.mk cP;clear cP
     by_cases bA:0≤a3
     ·rw [if_pos bA] at H
      have dF:decide (0≤a3)=true:=decide_eq_true bA;clear bA
      by_cases bB:a3<(a5.length:Int)
      ·rw [if_pos bB] at H
       have dG:decide (a3<(a5.length:Int))=true:=decide_eq_true bB;clear bB
       obtain ⟨cQ,bC⟩:∃ y_:List (S27),y_=(a5.set (a3:Int).toNat (⟨(rd_T27 a5 a3).f0,ae,(rd_T27 a5 a3).f2⟩:S27)):=⟨_,rfl⟩
       replace H:(some (cQ,bz))=some (r1,r2):=by first|(rw [bC];with_reducible exact H)|(have H2_:=(Option.bind_some _ _).symm.trans H;rw [bC];with_reducible exact H2_)|(have H2_:=(Option.bind_some _ _).symm.trans H;with_reducible exact H2_)|with_reducible exact H|(rw [bC];exact H)|exact H
       have dH:=Aside0.mk bC;clear bC;simp only [Option.some.injEq,Prod.mk.injEq] at H;obtain ⟨rfl,rfl⟩:=H;have hnb53:=ay.out;have hnc53:=ao.out;have hnb54:=az.out;have hnc54:=ap.out;have hnb55:=ad.out;have hnc55:=aD.out;have ⟨dI,dJ⟩:=Yc1 a7.out;obtain ⟨dK,bD,dL⟩:=Kd.R_slice a6.out;subst dL
       try go_wp2_with (first|((with_reducible refine gc 66 rfl ?_);refine gl (some 23) _ (#[.pointer (some ⟨g,0,none⟩),.int .i64 (a5.length:Int)]) Tryd.func66 ?_;(with_reducible refine (spec_l1Rd_pick.calls aa g s0_0 s0_1 (a5.length:Int) a3 ax w0 _ ?side1 ?side2 bh.out).mono ?_);(case side1=>exact iq173 a4.out);(case side2=>exact bq173 HB.out a4.out);rintro e w58 ⟨rfl,hi,hb,hk⟩;refine ⟨_,rfl,?_⟩;refine Ya7 (ra173 (iq173 a4.out) (kr a6.out) hk) (kx hk a9 an) (kx hk a8 af) (kx hk a7 ad) (KeepBut.trans (kb HK.out) hk (.inl rfl)) (hb) (hi) ?_;clear a6 a9 a8 a7 HK HB a4;intro a6 a9 a8 a7 HK HB a4;(try clear hb);(try clear hb2);(try clear hk);(try clear hi))|((with_reducible refine gc 66 rfl ?_);refine gl (some 25) _ (#[.pointer (some ⟨g,0,none⟩),.int .i64 5]) Tryd.func66 ?_;(with_reducible refine (spec_l1Rd_pick.calls aa g s0_0 ax 5 ab ai w0 _ ?side1 ?side2 bi.out).mono ?_);(case side1=>exact iq173 a4.out);(case side2=>exact bq173 HB.out a4.out);rintro e w59 ⟨rfl,hi,hb,hk⟩;refine ⟨_,rfl,?_⟩;refine Ya7 (ra173 (iq173 a4.out) (kr a6.out) hk) (kx hk a9 an) (kx hk a8 af) (kx hk a7 ad) (KeepBut.trans (kb HK.out) hk (.inl rfl)) (hb) (hi) ?_;clear a6 a9 a8 a7 HK HB a4;intro a6 a9 a8 a7 HK HB a4;(try clear hb);(try clear hb2);(try clear hk);(try clear hi)))
       refine Ya7 (Kd.R_drew a6.out) (blk_drew a9.out) (blk_drew a8.out) (blk_drew a7.out) (IsS173.drew a4.out) (keep_drew HK.out) (below_drew1 HB.out) ?_;clear a6 a9 a8 a7 a4 HK HB;intro a6 a9 a8 a7 a4 HK HB;refine start_ (n:=10) (S:=fun w'=>w'.cell? ⟨ah,0,none⟩=some (.slice dK a5.length bD)) (ds:=[9]) (fb 10 0) (by kernel_rfl) rfl rfl (bc a7 0) (fun hHeld => ?_);refine with_tabW spec_l5Spoil.tab13 spec_l5Spoil.bits13 (fun HT_ HW_ => ?_);generalize w59.drew=w60 at a6 a9 a8 a7 a4 HK HB hHeld ⊢; refine pu 0 62 (fb 10 1) HT_ ?_;refine pu 2 64 (fb 10 5) HT_ ?_;refine pu 3 65 (fb 10 13) HT_ ?_;refine take_ (i:=1) (N:=some 63) (v:=?_) (a':=?_) (fb 10 15) rfl rfl (take_ofW HT_.out HW_.out (by kernel_rfl)) (fun _ _ _ h=>h) (Or.inl ⟨by rfl,?_⟩) hHeld ?_ ?_;rotate_left
       ·intro w' s0;go_simp;(with_reducible rfl)
       rotate_left
       ·simp only [Act.put,List.setIfInBounds_toArray,List.set_cons_zero,List.set_cons_succ,i64_w,i32_w];rfl
       refine o1 4 (some 66) (fb 10 31) HT_ (fun K hK => ?_);refine gs _ (#[.pointer (some ⟨g,0,none⟩),.int .i64 2]) Tryd.func66 ?_;(with_reducible refine (spec_l1Rd_pick.calls aa g s0_0 ai 2 bW bz w0 _ ?side1 ?side2 A48.out).mono ?_);(case side1=>exact iq173 a4.out);(case side2=>exact bq173 HB.out a4.out);rintro e aG ⟨rfl,hi,hb,hk⟩;refine ⟨_,rfl,?_⟩;refine Ya7 (ra173 (iq173 a4.out) (kr a6.out) hk) (kx hk a9 an) (kx hk a8 af) (kx hk a7 ad) (KeepBut.trans (kb HK.out) hk (.inl rfl)) (hb) (hi) ?_;clear a6 a9 a8 a7 HK HB a4;intro a6 a9 a8 a7 HK HB a4;(try clear hb);(try clear hb2);(try clear hk);(try clear hi);refine hK.out _ _ (bc a7 0) (fun hHeld => ?_);clear hK K;refine nm 66 ?_;refine pu 5 67 (fb 10 63) HT_ ?_;refine o1 6 (some 68) (fb 10 127) HT_ (fun K hK => ?_);refine gs _ (#[.string (⟨#[116]⟩:ByteArray),.int .i64 (wrap64 (1500+bW))]) Tryd.func68 ?_;(with_reducible refine (spec_l1Many.calls aa (⟨#[116]⟩:ByteArray) (wrap64 (1500+bW)) ae _ A49.out).mono ?_);rintro e w' ⟨rfl,⟨nd,rfl⟩⟩;refine ⟨_,rfl,?_⟩;have p52:0≤(a3:Int):=oda;have q52:(a3:Int)<((a5.length:Int):Int):=oda;obtain ⟨al,co52,cR,cS,gl52,cl52,HG52⟩:=Kd.R_form a6.out (by omega);(first|cases cR|(injection cR with ea_ en_ ec_;(first|subst ea_|(injection ea_ with ea_;subst ea_));subst ec_;clear en_));have dM:=Aside0.mk cS;have GG52:=Aside0.mk HG52;clear cS gl52 HG52;obtain ⟨ce52,hcl52,hM52,hcc52,hfr52⟩:=Kd.R_elem a6.out z27 (a3:Int) p52 q52;obtain rfl:=k27_openM hM52;have dN:World.cell? _ ⟨al,(a3:Int).toNat*3,none⟩=some (.string ((rd_T27 a5 a3).f0)):=hcc52 0 _ rfl;have dO:World.cell? _ ⟨al,(a3:Int).toNat*3+1,none⟩=some (.string ((rd_T27 a5 a3).f1)):=hcc52 1 _ rfl;have dP:World.cell? _ ⟨al,(a3:Int).toNat*3+2,none⟩=some (.bool ((rd_T27 a5 a3).f2)):=hcc52 2 _ rfl;have hf52_0:World.frozen? _ ⟨al,(a3:Int).toNat*3,none⟩=false:=hfr52 0;have hf52_1:World.frozen? _ ⟨al,(a3:Int).toNat*3+1,none⟩=false:=hfr52 1;have hf52_2:World.frozen? _ ⟨al,(a3:Int).toNat*3+2,none⟩=false:=hfr52 2;(try clear hM52);clear hcl52 hcc52 hfr52;replace p52:=eq_true p52;replace q52:=eq_true q52;have HN0_go52:=Aside0.mk (show g≠al from by have h_:=IsS173.own_ne a4.out a6.out (by decide);intro e_;exact h_ (by rw [e_];rfl));obtain ⟨ce62,hcl62,hM62,hcc62,hfr62⟩:=Kd.R_elem a6.out z27 (a3:Int) (oda) (by have h_:(a3:Int)<((a5.length:Int):Int):=oda;first|exact h_|(have e_:=(Kd.R_reads' a6.out).1;omega)|simpa using h_);obtain rfl:=k27_openM hM62;have ch:=(Kd.R_seg a6.out (a3:Int) (oda) (by have h_:(a3:Int)<((a5.length:Int):Int):=oda;first|exact h_|(have e_:=(Kd.R_reads' a6.out).1;omega)|simpa using h_) (seg:=[.string ae]) (j:=1) hcl62 hcc62 (show 2≤3 from by decide) (x':=(⟨(rd_T27 a5 a3).f0,ae,(rd_T27 a5 a3).f2⟩:S27)) (k27_mkM _ _ _ (⟨(rd_T27 a5 a3).f0,ae,(rd_T27 a5 a3).f2⟩:S27) ) (fun _ hk=>hk)).1
       rw [←dH.out] at ch
       have HQ62:=Aside0.mk ch;(try clear hM62);clear hcl62 hcc62 hfr62 ch;refine hK.out _ _ (bc a7 0) (fun hHeld => ?_);clear hK K;refine nm 68 ?_;refine pu 7 69 (fb 10 255) HT_ ?_;refine pu 8 70 (fb 10 511) HT_ ?_;refine last_ (i:=9) (N:=none) (fb 10 1023) rfl rfl (one_of HT_.out (by kernel_rfl)) (by decide) (fun K hK => ?_);refine skip_ (w1:=?_) (by rfl) rfl ?_ ?_;rotate_left
       ·go_simp;rfl
       refine hK.out _ _ ?_;clear hK K;refine done_ (done_of HT_.out (by kernel_rfl)) ?_
       have b1:Aside0 (Kd.R k27 27 (aG.setCell ⟨al,(a3:Int).toNat*3+1,none⟩ (.string ae)) w.heap.size (fun _=>True) (.slice (some ⟨al,0,none⟩) a5.length bD) cQ):=⟨kr HQ62.out⟩
       have b2:Aside0 ((aG.setCell ⟨al,(a3:Int).toNat*3+1,none⟩ (.string ae)).heap[aC]? = some (.cells #[.slice aJ aq.length aK] 25 (0,0))):=⟨by (with_reducible repeat (first|apply blk_drewN|apply blk_drew|apply blk_alloc));refine blk_far ?_ (by have h_:=Kd.R_ne a6.out a9.out (by decide);intro e_;exact h_ (by rw [e_];rfl)) _;(with_reducible repeat (first|apply blk_drewN|apply blk_drew|apply blk_alloc));exact a9.out⟩
       have b3:Aside0 ((aG.setCell ⟨al,(a3:Int).toNat*3+1,none⟩ (.string ae)).heap[ag]? = some (.cells #[.slice none 0 0] 25 (0,0))):=⟨by (with_reducible repeat (first|apply blk_drewN|apply blk_drew|apply blk_alloc));refine blk_far ?_ (by have h_:=Kd.R_ne a6.out a8.out (by decide);intro e_;exact h_ (by rw [e_];rfl)) _;(with_reducible repeat (first|apply blk_drewN|apply blk_drew|apply blk_alloc));exact a8.out⟩
       have b4:Aside0 ((aG.setCell ⟨al,(a3:Int).toNat*3+1,none⟩ (.string ae)).heap[ah]? = some (.cells #[.slice (some ⟨al,0,none⟩) a5.length bD] 25 (0,0))):=⟨by (with_reducible repeat (first|apply blk_drewN|apply blk_drew|apply blk_alloc));refine blk_far ?_ (by have h_:=Kd.R_ne a6.out a7.out (by decide);intro e_;exact h_ (by rw [e_];rfl)) _;(with_reducible repeat (first|apply blk_drewN|apply blk_drew|apply blk_alloc));exact a7.out⟩
       have b5:Aside0 (IsS173 w0 (aG.setCell ⟨al,(a3:Int).toNat*3+1,none⟩ (.string ae)) g s0_0 bz):=⟨iq173 a4.out⟩
       have b6:Aside0 (KeepBut w (aG.setCell ⟨al,(a3:Int).toNat*3+1,none⟩ (.string ae)) g none):=⟨kb HK.out⟩
       have b7:Aside0 (Below w0.heap.size w0 (aG.setCell ⟨al,(a3:Int).toNat*3+1,none⟩ (.string ae))):=⟨by repeat (first|(with_reducible first|exact HB.out|apply below_alloc|apply pw_below_drewN|apply below_drew1|refine below_set ?_ (Nat.le_trans HL.out dM.out)|refine below_set ?_ (IsS173.ge a4.out)|refine below_set ?_ cw.out|refine below_set ?_ cx.out|refine below_set ?_ cy.out)|exact HB.out)⟩
       (try clear a6);(try clear a9);(try clear a8);(try clear a7);(try clear a4);(try clear HK);(try clear HB);(try rw [show (aG.drewN nd).setCell ⟨al,(a3:Int).toNat*3+1,none⟩ (.string ae)=(aG.setCell ⟨al,(a3:Int).toNat*3+1,none⟩ (.string ae)).drewN nd from rfl]);generalize (aG.setCell ⟨al,(a3:Int).toNat*3+1,none⟩ (.string ae))=w63 at b1 b2 b3 b4 b5 b6 b7 ⊢; have a6:=b1;have a9:=b2;have a8:=b3;have a7:=b4;have a4:=b5;have HK:=b6;have HB:=b7;clear b1 b2 b3 b4 b5 b6 b7;have ⟨dQ,dR⟩:=Yc1 a7.out;have hnb65:=aZ.out;have hnc65:=aY.out;have hnb66:=af.out;have hnc66:=bd.out;have ⟨dS,dT⟩:=Yc1 a8.out
       try go_wp2
       refine bodyPost_ret (results_cell_row rfl _ _ ag 25 #[.slice (some ⟨al,0,none⟩) a5.length bD] (0,0) _ rfl (bp a8.out) Tryd.underlying25 rfl (by kernel_rfl)) rfl ?_;exact ⟨_,Ye2,by (with_reducible repeat (first|apply Kd.R_alloc|apply Kd.R_drewN|apply Kd.R_drew));exact Kd.R_mono (Kd.R_far (p:=⟨ag,0,none⟩) (Kd.R_types a6.out a8.out (by decide)) (fun _ hk=>hk.2) (.slice (some ⟨al,0,none⟩) a5.length bD)) (fun _ hk=>trivial),iq173 a4.out,bq173 HB.out a4.out,kb HK.out⟩
      ·rw [if_neg bB] at H
       exact absurd H (by simp)
     ·rw [if_neg bA] at H
      exact absurd H (by simp)
    ·rw [if_neg aR] at H
     have cM:(ab==1)=false:=beq_eq_false_iff_ne.mpr aR;have cN:(ab != 1)=true:=bne_iff_ne.mpr aR
     by_cases aT:ab=2
     ·rw [if_pos aT] at H
      have cT:(ab==2)=true:=beq_iff_eq.mpr aT;have cU:(ab != 2)=false:=bne_eq_false_iff_eq.mpr aT;clear aT
      by_cases bE:0≤a3
      ·rw [if_pos bE] at H
       have dU:decide (0≤a3)=true:=decide_eq_true bE;clear bE
       by_cases bF:a3<(a5.length:Int)
       ·rw [if_pos bF] at H
        have dV:decide (a3<(a5.length:Int))=true:=decide_eq_true bF;clear bF
        by_cases bG:a5.length<3518437208883
        ·rw [if_pos bG] at H
         have dW:=Aside0.mk bG;clear bG
         obtain ⟨bX,bH⟩:∃ y_:List (S27),y_=(a5 ++ [(⟨(rd_T27 a5 a3).f0,(rd_T27 a5 a3).f1,(rd_T27 a5 a3).f2⟩:S27)]):=⟨_,rfl⟩
         replace H:(some (bX,ai))=some (r1,r2):=by first|(rw [bH];with_reducible exact H)|(have H2_:=(Option.bind_some _ _).symm.trans H;rw [bH];with_reducible exact H2_)|(have H2_:=(Option.bind_some _ _).symm.trans H;with_reducible exact H2_)|with_reducible exact H|(rw [bH];exact H)|exact H
         have dX:=Aside0.mk bH;clear bH;simp only [Option.some.injEq,Prod.mk.injEq] at H;obtain ⟨rfl,rfl⟩:=H;have hnb72:=ay.out;have hnc72:=ao.out;have hnb73:=az.out;have hnc73:=ap.out;have hnb74:=ad.out;have hnc74:=aD.out;have ⟨dY,dZ⟩:=Yc1 a7.out;obtain ⟨Ao76,ci,e0⟩:=Kd.R_slice a6.out;subst e0
         try go_wp2_with (first|((with_reducible refine gc 66 rfl ?_);refine gl (some 23) _ (#[.pointer (some ⟨g,0,none⟩),.int .i64 (a5.length:Int)]) Tryd.func66 ?_;(with_reducible refine (spec_l1Rd_pick.calls aa g s0_0 s0_1 (a5.length:Int) a3 ax w0 _ ?side1 ?side2 bh.out).mono ?_);(case side1=>exact iq173 a4.out);(case side2=>exact bq173 HB.out a4.out);rintro e w77 ⟨rfl,hi,hb,hk⟩;refine ⟨_,rfl,?_⟩;refine Ya7 (ra173 (iq173 a4.out) (kr a6.out) hk) (kx hk a9 an) (kx hk a8 af) (kx hk a7 ad) (KeepBut.trans (kb HK.out) hk (.inl rfl)) (hb) (hi) ?_;clear a6 a9 a8 a7 HK HB a4;intro a6 a9 a8 a7 HK HB a4;(try clear hb);(try clear hb2);(try clear hk);(try clear hi))|((with_reducible refine gc 66 rfl ?_);refine gl (some 25) _ (#[.pointer (some ⟨g,0,none⟩),.int .i64 5]) Tryd.func66 ?_;(with_reducible refine (spec_l1Rd_pick.calls aa g s0_0 ax 5 ab ai w0 _ ?side1 ?side2 bi.out).mono ?_);(case side1=>exact iq173 a4.out);(case side2=>exact bq173 HB.out a4.out);rintro e w78 ⟨rfl,hi,hb,hk⟩;refine ⟨_,rfl,?_⟩;refine Ya7 (ra173 (iq173 a4.out) (kr a6.out) hk) (kx hk a9 an) (kx hk a8 af) (kx hk a7 ad) (KeepBut.trans (kb HK.out) hk (.inl rfl)) (hb) (hi) ?_;clear a6 a9 a8 a7 HK HB a4;intro a6 a9 a8 a7 HK HB a4;(try clear hb);(try clear hb2);(try clear hk);(try clear hi)))
         refine Ya7 (Kd.R_drew a6.out) (blk_drew a9.out) (blk_drew a8.out) (blk_drew a7.out) (IsS173.drew a4.out) (keep_drew HK.out) (below_drew1 HB.out) ?_;clear a6 a9 a8 a7 a4 HK HB;intro a6 a9 a8 a7 a4 HK HB;have bY:0≤(a3:Int):=oda;have bZ:a3<(a5.length:Int):=oda;obtain ⟨aU,e1,cj,ck,cl⟩:=at_T27 (Kd.R_reads' a6.out).2.2 a3 bY bZ
         cases e1
         replace bY:=eq_true bY;replace bZ:=eq_true bZ;refine start_ (n:=11) (S:=fun w'=>w'.cell? ⟨ah,0,none⟩=some (.slice (some aU) a5.length ci)∧w'.cell? (aU.add ((a3).toNat*3))=some (.string ((rd_T27 a5 a3).f0))∧w'.cell? ⟨(aU.add ((a3).toNat*3)).block,(aU.add ((a3).toNat*3)).off+1,none⟩=some (.string ((rd_T27 a5 a3).f1))∧w'.cell? ⟨(aU.add ((a3).toNat*3)).block,(aU.add ((a3).toNat*3)).off+2,none⟩=some (.bool ((rd_T27 a5 a3).f2))) (ds:=[8,10]) (fb 11 0) (by kernel_rfl) rfl rfl ⟨bc a7 0,cj,ck,cl⟩ (fun hHeld => ?_);refine with_tabW spec_l5Spoil.tab15 spec_l5Spoil.bits15 (fun HT_ HW_ => ?_);generalize w78.drew=w79 at a6 a9 a8 a7 a4 HK HB cj ck cl hHeld ⊢; refine pu 0 73 (fb 11 1) HT_ ?_;refine pu 2 75 (fb 11 5) HT_ ?_;refine pu 4 77 (fb 11 21) HT_ ?_;refine tk 1 74 (fb 11 23) HT_ HW_ hHeld ?_;refine tk 3 76 (fb 11 31) HT_ HW_ hHeld ?_;refine pu 5 78 (fb 11 63) HT_ ?_;refine tk 6 79 (fb 11 127) HT_ HW_ hHeld ?_;refine o1 7 (some 80) (fb 11 255) HT_ (fun K hK => ?_);refine value_ (w1:=?_) (v:=?_) (by rfl) rfl ?_ ?_;rotate_left 2
         ·go_simp
          constructor
          ·rfl
          ·rfl
         refine hK.out _ _ ⟨(blk_cell (blk_alloc a7.out _) 0).trans rfl,(World.cell?_alloc_lt _ _ _ (World.block_lt_of_cell? _ _ (hHeld.2.1))).trans (hHeld.2.1),(World.cell?_alloc_lt _ _ _ (World.block_lt_of_cell? _ _ (hHeld.2.2.1))).trans (hHeld.2.2.1),(World.cell?_alloc_lt _ _ _ (World.block_lt_of_cell? _ _ (hHeld.2.2.2))).trans (hHeld.2.2.2)⟩ (fun hHeld => ?_);clear hK K;refine nm 80 ?_;refine last_ (i:=8) (N:=some 81) (fb 11 511) rfl rfl (one_of HT_.out (by kernel_rfl)) (by decide) (fun K hK => ?_);refine Kd.R_append_step k27 w.heap.size (by rfl) (.tmp 74) (.tmp 80) 23 27 (.agg #[(.string ⟨#[]⟩),(.string ⟨#[]⟩),(.bool false)]) 40 rfl Tryd.underlying23 info27 rfl (by decide) (by omega) (.slice (some aU) a5.length ci) a5 (⟨(rd_T27 a5 a3).f0,(rd_T27 a5 a3).f1,(rd_T27 a5 a3).f2⟩:S27) [.string ((rd_T27 a5 a3).f0),.string ((rd_T27 a5 a3).f1),.bool ((rd_T27 a5 a3).f2)] (fun _=>True) (fun _=>False) rfl rfl ?aP (fun _ hk=>hk.elim) ?aF ?aO (Below.refl _ _) ?aS ?aL ?_;(case aP=>exact k27_mkM _ _ _ (⟨(rd_T27 a5 a3).f0,(rd_T27 a5 a3).f1,(rd_T27 a5 a3).f2⟩:S27));(case aF=>exact (fun _ _=>trivial));(case aO=>exact (kr a6.out));(case aS=>exact (keep_size (w:=w) (g:=g) (row:=none) (kb HK.out)));(case aL=>have:=dW.out;omega);intro v257 w80 ho hb hg hat
         rw [←dX.out] at ho
         refine Ya7 (blk_grown (g:=aC) (o:=.cells #[.slice aJ aq.length aK] 25 (0,0)) (bk a9.out) hg (Kd.R_ne a6.out a9.out (by decide))) (blk_grown (g:=ag) (o:=.cells #[.slice none 0 0] 25 (0,0)) (bk a8.out) hg (Kd.R_ne a6.out a8.out (by decide))) (blk_grown (g:=ah) (o:=.cells #[.slice (some aU) a5.length ci] 25 (0,0)) (bk a7.out) hg (Kd.R_ne a6.out a7.out (by decide))) (IsS173.grown (iq173 a4.out) hg (IsS173.own_ne a4.out a6.out (by decide))) (below_weaken (bq173 HB.out a4.out) HL.out hb) (KeepBut.trans (kb HK.out) (KeepBut.of_grown hg g) (Kd.R_base2 a6.out)) (ho) ?_;clear a9 a8 a7 a4 HB HK a6;intro a9 a8 a7 a4 HB HK cV;clear ho hb hg hat;obtain ⟨cm,cn,cW⟩:=Kd.R_slice cV.out;(first|subst cW|(injection cW with f1_ f2_ f3_;have f4_:=f1_.symm;have f5_:=f3_.symm;clear f1_ f2_ f3_;subst f4_;subst f5_));refine hK.out _ _ ?_;clear hK K;refine nm 81 ?_;refine pu 9 82 (fb 11 1023) HT_ ?_;refine last_ (i:=10) (N:=none) (fb 11 2047) rfl rfl (one_of HT_.out (by kernel_rfl)) (by decide) (fun K hK => ?_);have ⟨hs82,hfs82⟩:=Yc1 a7.out;have ex:=ao.out;have ey:=ap.out;have ez:=ay.out;have eA:=az.out;refine skip_ (w1:=?_) (by rfl) rfl ?_ ?_;rotate_left
         ·go_simp;rfl
         refine hK.out _ _ ?_;clear hK K;refine done_ (done_of HT_.out (by kernel_rfl)) ?_;have ⟨e2,e3⟩:=Yc1 a7.out;have hnb84:=aZ.out;have hnc84:=aY.out;have hnb85:=af.out;have hnc85:=bd.out;have ⟨e4,e5⟩:=Yc1 a8.out
         try go_wp2
         refine bodyPost_ret (results_cell_row rfl _ _ ag 25 #[.slice cm bX.length cn] (0,0) _ rfl (bp a8.out) Tryd.underlying25 rfl (by kernel_rfl)) rfl ?_;exact ⟨_,Ye2,by (with_reducible repeat (first|apply Kd.R_alloc|apply Kd.R_drewN|apply Kd.R_drew));exact Kd.R_mono (Kd.R_far (p:=⟨ag,0,none⟩) (Kd.R_far (p:=⟨ah,0,none⟩) (Kd.R_types (Kd.R_types cV.out a7.out (by decide)) a8.out (by decide)) (fun _ hk=>hk.1.2) (.slice cm bX.length cn)) (fun _ hk=>hk.2) (.slice cm bX.length cn)) (fun _ hk=>trivial),iq173 a4.out,bq173 HB.out a4.out,kb HK.out⟩
        ·rw [if_neg bG] at H
         exact absurd H (by simp)
       ·rw [if_neg bF] at H
        exact absurd H (by simp)
      ·rw [if_neg bE] at H
       exact absurd H (by simp)
     ·rw [if_neg aT] at H
      have cT:(ab==2)=false:=beq_eq_false_iff_ne.mpr aT;have cU:(ab != 2)=true:=bne_iff_ne.mpr aT
      by_cases aV:ab=3
      ·rw [if_pos aV] at H
       have cX:(ab==3)=true:=beq_iff_eq.mpr aV;have cY:(ab != 3)=false:=bne_eq_false_iff_eq.mpr aV;clear aV;replace H:=Option.bind_eq_some_iff.mp H;obtain ⟨⟨aW,bm⟩,cZ,H⟩:=H;replace H:(spec_l5Spoil.l0 aa (wrap64 (100+aW)) 0 s0_0 bm a5)=some (r1,r2):=H;have A88:=Aside0.mk cZ;clear cZ;have H':=Aside0.mk H;clear H;have hnb89:=ay.out;have hnc89:=ao.out;have hnb90:=az.out;have hnc90:=ap.out;have hnb91:=ad.out;have hnc91:=aD.out;have ⟨e6,e7⟩:=Yc1 a7.out;obtain ⟨e8,e9,ea⟩:=Kd.R_slice a6.out;subst ea
       go_wp2_with (first|((with_reducible refine gc 66 rfl ?_);refine gl (some 23) _ (#[.pointer (some ⟨g,0,none⟩),.int .i64 (a5.length:Int)]) Tryd.func66 ?_;(with_reducible refine (spec_l1Rd_pick.calls aa g s0_0 s0_1 (a5.length:Int) a3 ax w0 _ ?side1 ?side2 bh.out).mono ?_);(case side1=>exact iq173 a4.out);(case side2=>exact bq173 HB.out a4.out);rintro e w94 ⟨rfl,hi,hb,hk⟩;refine ⟨_,rfl,?_⟩;refine Ya7 (ra173 (iq173 a4.out) (kr a6.out) hk) (kx hk a9 an) (kx hk a8 af) (kx hk a7 ad) (KeepBut.trans (kb HK.out) hk (.inl rfl)) (hb) (hi) ?_;clear a6 a9 a8 a7 HK HB a4;intro a6 a9 a8 a7 HK HB a4;(try clear hb);(try clear hb2);(try clear hk);(try clear hi))|((with_reducible refine gc 66 rfl ?_);refine gl (some 25) _ (#[.pointer (some ⟨g,0,none⟩),.int .i64 5]) Tryd.func66 ?_;(with_reducible refine (spec_l1Rd_pick.calls aa g s0_0 ax 5 ab ai w0 _ ?side1 ?side2 bi.out).mono ?_);(case side1=>exact iq173 a4.out);(case side2=>exact bq173 HB.out a4.out);rintro e w95 ⟨rfl,hi,hb,hk⟩;refine ⟨_,rfl,?_⟩;refine Ya7 (ra173 (iq173 a4.out) (kr a6.out) hk) (kx hk a9 an) (kx hk a8 af) (kx hk a7 ad) (KeepBut.trans (kb HK.out) hk (.inl rfl)) (hb) (hi) ?_;clear a6 a9 a8 a7 HK HB a4;intro a6 a9 a8 a7 HK HB a4;(try clear hb);(try clear hb2);(try clear hk);(try clear hi))|((with_reducible refine gc 66 rfl ?_);refine gl (some 86) _ (#[.pointer (some ⟨g,0,none⟩),.int .i64 2]) Tryd.func66 ?_;(with_reducible refine (spec_l1Rd_pick.calls aa g s0_0 ai 2 aW bm w0 _ ?side1 ?side2 A88.out).mono ?_);(case side1=>exact iq173 a4.out);(case side2=>exact bq173 HB.out a4.out);rintro e w96 ⟨rfl,hi,hb,hk⟩;refine ⟨_,rfl,?_⟩;refine Ya7 (ra173 (iq173 a4.out) (kr a6.out) hk) (kx hk a9 an) (kx hk a8 af) (kx hk a7 ad) (KeepBut.trans (kb HK.out) hk (.inl rfl)) (hb) (hi) ?_;clear a6 a9 a8 a7 HK HB a4;intro a6 a9 a8 a7 HK HB a4;(try clear hb);(try clear hb2);(try clear hk);(try clear hi)))
       go_loopg [8] aa (fun kq v8 w' => ∃ (au:Int) (aA:List (S27)) (b0:Value),v8 = .int .i64 au∧Aside0 (spec_l5Spoil.l0 kq (wrap64 (100+aW)) au s0_0 bm aA=some (r1,r2))∧Aside0 (kq≤aa)∧Aside0 (Kd.R k27 27 w' w.heap.size (fun _=>True) b0 aA)∧Aside0 (w'.heap[aC]? = some (.cells #[(.slice aJ aq.length aK)] 25 (0,0)))∧Aside0 (w'.heap[ag]? = some (.cells #[(.slice none 0 0)] 25 (0,0)))∧Aside0 (w'.heap[ah]? = some (.cells #[b0] 25 (0,0)))∧Aside0 (IsS173 w0 w' g s0_0 bm)∧Aside0 (KeepBut w w' g none)∧Aside0 (Below w0.heap.size w0 w'))
       case atStart=>exact ⟨(0),(a5),(.slice e8 a5.length e9),Ye1,H',⟨Nat.le_refl _⟩,⟨kr a6.out⟩,⟨bk a9.out⟩,⟨bk a8.out⟩,⟨bk a7.out⟩,⟨iq173 a4.out⟩,⟨kb HK.out⟩,⟨bq173 HB.out a4.out⟩⟩
       case round =>
        clear H';(try clear c1);(try clear c2);(try clear p2);(try clear q2);(try clear hx2);(try clear c3);(try clear p3);(try clear q3);(try clear hx3);(try clear hf3);(try clear c4);(try clear c5);(try clear p5);(try clear q5);(try clear hx5);(try clear hf5);(try clear c6);(try clear p6);(try clear c7);(try clear c8);(try clear c9);(try clear hx24);(try clear p25);(try clear q25);(try clear hx25);(try clear aQ);(try clear cG);(try clear cH);(try clear bq);(try clear bu);(try clear c31);(try clear p31);(try clear q31);(try clear hx31);(try clear hf31);(try clear c41);(try clear c44);(try clear c45);(try clear aR);(try clear cM);(try clear cN);(try clear bA);(try clear dF);(try clear bB);(try clear dG);(try clear c52);(try clear p52);(try clear q52);(try clear hx52);(try clear hf52);(try clear c53);(try clear c54);(try clear c55);(try clear c62);(try clear p64);(try clear c65);(try clear c66);(try clear aT);(try clear cT);(try clear cU);(try clear bE);(try clear dU);(try clear bF);(try clear dV);(try clear bG);(try clear c72);(try clear c73);(try clear c74);(try clear c84);(try clear c85);(try clear aV);(try clear cX);(try clear cY);(try clear c89);(try clear c90);(try clear c91);(try clear dB);(try clear dD);(try clear dI);(try clear dQ);(try clear dS);(try clear dY);(try clear e2);(try clear e4);(try clear e6);(try clear dC);(try clear dE);(try clear dJ);(try clear dR);(try clear dT);(try clear dZ);(try clear e3);(try clear e5);(try clear e7);(try clear bT);(try clear bU);(try clear bV);(try clear cj);(try clear ck);(try clear cl);(try clear dx);(try clear dy);(try clear dA);(try clear dN);(try clear dO);(try clear dP);(try clear bY);(try clear p31);(try clear p52);(try clear bZ);(try clear q31);(try clear q52);obtain ⟨au,aA,b0,rfl,HA,HK2,a6,a9,a8,a7,a4,HK,HB⟩:=hrel
        cases gk with
        | zero=>exact absurd HA.out (by simp [spec_l5Spoil.l0])
        | succ k2 =>
         have H:=HA.out;clear HA;simp only [spec_l5Spoil.l0] at H
         by_cases bn:(aA.length:Int)<(wrap64 (100+aW))
         ·rw [if_pos bn] at H
          have eb:decide ((aA.length:Int)<(wrap64 (100+aW)))=true:=decide_eq_true bn;clear bn
          obtain ⟨aB,bI⟩:∃ y_:List Int,y_=(([(wrap64 (97+(wrap64 (Int.tdiv au 26)))) % 256,(wrap64 (97+(Int.tmod au 26))) % 256]:List Int)):=⟨_,rfl⟩
          replace H:(if 1+(strOfNums aB).size≤9223372036854775807 then ((spec_l5Set.f k2 aA ((⟨#[122]⟩:ByteArray)++(strOfNums aB)) (⟨#[]⟩:ByteArray) false).bind fun aI=>(spec_l5Spoil.l0 k2 (wrap64 (100+aW)) (wrap64 (au+1)) s0_0 bm aI)) else (none))=some (r1,r2):=by first|(rw [bI];with_reducible exact H)|(have H2_:=(Option.bind_some _ _).symm.trans H;rw [bI];with_reducible exact H2_)|(have H2_:=(Option.bind_some _ _).symm.trans H;with_reducible exact H2_)|with_reducible exact H|(rw [bI];exact H)|exact H
          have d0:=Aside0.mk bI;clear bI
          by_cases bJ:1+(strOfNums aB).size≤9223372036854775807
          ·rw [if_pos bJ] at H
           have c98b0:=eq_true bJ;have c98b1:decide (1+(strOfNums aB).size≤9223372036854775807)=true:=decide_eq_true bJ
           try have c98b2:(9223372036854775807<1+(strOfNums aB).size)=False:=eq_false (Nat.not_lt.2 bJ)
           replace H:=Option.bind_eq_some_iff.mp H;obtain ⟨aI,d1,H⟩:=H;replace H:(spec_l5Spoil.l0 k2 (wrap64 (100+aW)) (wrap64 (au+1)) s0_0 bm aI)=some (r1,r2):=H;have A99:=Aside0.mk d1;clear d1;have H':=Aside0.mk H;clear H;have eB:=ay.out;have eC:=ao.out;have eD:=az.out;have eE:=ap.out;have eF:=ad.out;have eG:=aD.out;have ⟨eH,eI⟩:=Yc1 a7.out;obtain ⟨ec,ed,ee⟩:=Kd.R_slice a6.out;subst ee
           go_wp2_with (first|((with_reducible refine gd 104 rfl ?_);refine Kd.R_lit (Kd.int .u8) _ 5 ?hg (N:=104) ?hd (xs:=([(wrap64 (97+(wrap64 (Int.tdiv au 26)))) % 256,(wrap64 (97+(Int.tmod au 26))) % 256]:List Int)) (inner:=[.int .u8 ((wrap64 (97+(wrap64 (Int.tdiv au 26)))) % 256),.int .u8 ((wrap64 (97+(Int.tmod au 26))) % 256)]) (ok:=fun _=>True) (okp:=fun _=>True) ?hr ?hp (fun _ hk=>hk) trivial (Below.refl _ _) (Nat.le_refl _) (by simp) ?_;(case hd=>rfl);(case hg=>rfl);(case hr=>first|(go_simp;done)|(go_simp;rfl));(case hp=>exact (Reps.one (show Kd.M (Kd.int .u8) _ _ _ ((wrap64 (97+(wrap64 (Int.tdiv au 26)))) % 256) [.int .u8 ((wrap64 (97+(wrap64 (Int.tdiv au 26)))) % 256)] from rfl) (Reps.one (show Kd.M (Kd.int .u8) _ _ _ ((wrap64 (97+(Int.tmod au 26))) % 256) [.int .u8 ((wrap64 (97+(Int.tmod au 26))) % 256)] from rfl) (Reps.none _ _))));intro v262 w105 ho106 hb hg_ hnew_;clear hg_ hnew_;(first|rw [←d0.out] at ho106|(simp only [Int.reduceToNat] at ho106;rw [←d0.out] at ho106));refine Ya8 (Kd.R_below (kr a6.out) hb) (Kd.R_lower ho106 (keep_size (w:=w) (g:=g) (row:=none) (kb HK.out))) (bb a9 hb) (bb a8 hb) (bb a7 hb) (IsS173.below (iq173 a4.out) hb) (KeepBut.trans (kb HK.out) (KeepBut.of_below hb g none) (.inl rfl)) (below_step (bq173 HB.out a4.out) hb) ?_;clear a6 a9 a8 a7 a4 HK HB;intro a6 c0 a9 a8 a7 a4 HK HB;clear hb ho106;have hcv107:=own_string (P:=Tryd.prog) Tryd.underlying22 Tryd.underlying5 Tryd.underlying9 (Kd.own_of_R c0.out))|((with_reducible refine gc 73 rfl ?_);refine gl (some 108) _ (#[.agg #[.slice ec aA.length ed],.agg #[.string ((⟨#[122]⟩:ByteArray)++(strOfNums aB)),.string (⟨#[]⟩:ByteArray),.bool false]]) Tryd.func73 ?_;(with_reducible refine (spec_l5Set.calls k2 _ _ aA ((⟨#[122]⟩:ByteArray)++(strOfNums aB)) (⟨#[]⟩:ByteArray) false aI _ ?side1 ?side2 A99.out).mono ?_);(case side1=>repeat (first|exact (Kd.R_reads' a6.out).2.2|(with_reducible refine Kd.C_alloc ?_ _)|(with_reducible refine Kd.C_drewN ?_ _)|(with_reducible refine Kd.C_drew ?_)));(case side2=>exact (Kd.R_reads' a6.out).2.1);rintro e w108 ⟨v265,rfl,ho0,hb⟩;refine ⟨_,rfl,?_⟩;refine Ya9 (Kd.R_elder' (kr a6.out) (Kd.R_base ho0) hb) (Kd.R_below (kr c0.out) hb) (Kd.R_lower (Kd.R_new' ho0 (Kd.R_lt (kr a6.out))) (keep_size (w:=w) (g:=g) (row:=none) (kb HK.out))) (bb a9 hb) (bb a8 hb) (bb a7 hb) (IsS173.below (iq173 a4.out) hb) (KeepBut.trans (kb HK.out) (KeepBut.of_below hb g none) (.inl rfl)) (below_step (bq173 HB.out a4.out) hb) ?_;clear a6 c0 a9 a8 a7 a4 HK HB;intro a6 c0 d2 a9 a8 a7 a4 HK HB;(try clear hb);(try clear hb2);(try clear hk);(try clear hi);(try clear ho0);obtain ⟨d3,d4,ef⟩:=Kd.R_slice d2.out;subst ef;have ⟨eJ,eK⟩:=Yc1 a7.out))
           go_roundg k2
           case measure=>have:=HJ3.out;have:=HK2.out;omega
           case rel=>exact ⟨(wrap64 (au+1)),(aI),(.slice d3 aI.length d4),Ye1,H',⟨by have:=HJ3.out;have:=HK2.out;omega⟩,⟨by (with_reducible repeat (first|apply Kd.R_alloc|apply Kd.R_drewN|apply Kd.R_drew));exact Kd.R_mono (Kd.R_far (p:=⟨ah,0,none⟩) (Kd.R_types d2.out a7.out (by decide)) (fun _ hk=>hk.2) (.slice d3 aI.length d4)) (fun _ hk=>trivial)⟩,⟨bkf a9.out ao.out⟩,⟨bkf a8.out ap.out⟩,⟨bp a7.out⟩,⟨iq173 a4.out⟩,⟨kb HK.out⟩,⟨bq173 HB.out a4.out⟩⟩
          ·rw [if_neg bJ] at H
           exact absurd H (by simp)
         ·rw [if_neg bn] at H
          have eb:decide ((aA.length:Int)<(wrap64 (100+aW)))=false:=decide_eq_false bn;clear bn;simp only [Option.some.injEq,Prod.mk.injEq] at H;obtain ⟨rfl,rfl⟩:=H;have eL:=ay.out;have eM:=ao.out;have eN:=az.out;have eO:=ap.out;have eP:=ad.out;have eQ:=aD.out;have ⟨eR,eS⟩:=Yc1 a7.out;obtain ⟨d5,d6,eg⟩:=Kd.R_slice a6.out;subst eg;have eT:=aZ.out;have eU:=aY.out;have eV:=af.out;have eW:=bd.out;have ⟨eX,eY⟩:=Yc1 a8.out
          go_wp2
          refine bodyPost_ret (results_cell_row rfl _ _ ag 25 #[.slice d5 aA.length d6] (0,0) _ rfl (bp a8.out) Tryd.underlying25 rfl (by kernel_rfl)) rfl ?_;exact ⟨_,Ye2,by (with_reducible repeat (first|apply Kd.R_alloc|apply Kd.R_drewN|apply Kd.R_drew));exact Kd.R_mono (Kd.R_far (p:=⟨ag,0,none⟩) (Kd.R_types a6.out a8.out (by decide)) (fun _ hk=>hk.2) (.slice d5 aA.length d6)) (fun _ hk=>trivial),iq173 a4.out,bq173 HB.out a4.out,kb HK.out⟩
      ·rw [if_neg aV] at H
       have cX:(ab==3)=false:=beq_eq_false_iff_ne.mpr aV;have cY:(ab != 3)=true:=bne_iff_ne.mpr aV
       by_cases ca:0≤a3
       ·rw [if_pos ca] at H
        have eZ:decide (0≤a3)=true:=decide_eq_true ca;clear ca
        by_cases cc:a3<(a5.length:Int)
        ·rw [if_pos cc] at H
         have f3:decide (a3<(a5.length:Int))=true:=decide_eq_true cc;clear cc
         by_cases bK:((rd_T27 a5 a3).f0).size+3≤9223372036854775807
         ·rw [if_pos bK] at H
          have f4:=eq_true bK;have f5:decide (((rd_T27 a5 a3).f0).size+3≤9223372036854775807)=true:=decide_eq_true bK
          try have f6:(9223372036854775807<((rd_T27 a5 a3).f0).size+3)=False:=eq_false (Nat.not_lt.2 bK)
          replace H:=Option.bind_eq_some_iff.mp H;obtain ⟨aj,d7,H⟩:=H;replace H:((spec_l1Rd_pick.f aa s0_0 ai 2).bind fun bt271=>(if bt271.1=0 then (if ((rd_T27 a5 a3).f0).size+2≤9223372036854775807 then ((spec_l5Set.f aa aj (((rd_T27 a5 a3).f0)++(⟨#[33,98]⟩:ByteArray)) (⟨#[]⟩:ByteArray) false).bind fun aw=>(some (aw,bt271.2))) else (none)) else (some (aj,bt271.2))))=some (r1,r2):=H;have d8:=Aside0.mk d7;clear d7;replace H:=Option.bind_eq_some_iff.mp H;obtain ⟨⟨aX,bL⟩,d9,H⟩:=H;replace H:(if aX=0 then (if ((rd_T27 a5 a3).f0).size+2≤9223372036854775807 then ((spec_l5Set.f aa aj (((rd_T27 a5 a3).f0)++(⟨#[33,98]⟩:ByteArray)) (⟨#[]⟩:ByteArray) false).bind fun aw=>(some (aw,bL))) else (none)) else (some (aj,bL)))=some (r1,r2):=H;have da:=Aside0.mk d9;clear d9
          by_cases b8:aX=0
          ·rw [if_pos b8] at H
           have eh:(aX==0)=true:=beq_iff_eq.mpr b8;have ei:(aX != 0)=false:=bne_eq_false_iff_eq.mpr b8;clear b8
           by_cases bM:((rd_T27 a5 a3).f0).size+2≤9223372036854775807
           ·rw [if_pos bM] at H
            have f7:=eq_true bM;have f8:decide (((rd_T27 a5 a3).f0).size+2≤9223372036854775807)=true:=decide_eq_true bM
            try have f9:(9223372036854775807<((rd_T27 a5 a3).f0).size+2)=False:=eq_false (Nat.not_lt.2 bM)
            replace H:=Option.bind_eq_some_iff.mp H;obtain ⟨aw,db,H⟩:=H;replace H:(some (aw,bL))=some (r1,r2):=H;have ej:=Aside0.mk db;clear db;simp only [Option.some.injEq,Prod.mk.injEq] at H;obtain ⟨rfl,rfl⟩:=H;have fa:=ay.out;have fc:=ao.out;have fd:=az.out;have fe:=ap.out;have ff:=ad.out;have fg:=aD.out;have ⟨fh,fi⟩:=Yc1 a7.out;obtain ⟨Ao131,ek,el⟩:=Kd.R_slice a6.out;subst el
            go_wp2_with (first|((with_reducible refine gc 66 rfl ?_);refine gl (some 23) _ (#[.pointer (some ⟨g,0,none⟩),.int .i64 (a5.length:Int)]) Tryd.func66 ?_;(with_reducible refine (spec_l1Rd_pick.calls aa g s0_0 s0_1 (a5.length:Int) a3 ax w0 _ ?side1 ?side2 bh.out).mono ?_);(case side1=>exact iq173 a4.out);(case side2=>exact bq173 HB.out a4.out);rintro e w132 ⟨rfl,hi,hb,hk⟩;refine ⟨_,rfl,?_⟩;refine Ya7 (ra173 (iq173 a4.out) (kr a6.out) hk) (kx hk a9 an) (kx hk a8 af) (kx hk a7 ad) (KeepBut.trans (kb HK.out) hk (.inl rfl)) (hb) (hi) ?_;clear a6 a9 a8 a7 HK HB a4;intro a6 a9 a8 a7 HK HB a4;(try clear hb);(try clear hb2);(try clear hk);(try clear hi))|((with_reducible refine gc 66 rfl ?_);refine gl (some 25) _ (#[.pointer (some ⟨g,0,none⟩),.int .i64 5]) Tryd.func66 ?_;(with_reducible refine (spec_l1Rd_pick.calls aa g s0_0 ax 5 ab ai w0 _ ?side1 ?side2 bi.out).mono ?_);(case side1=>exact iq173 a4.out);(case side2=>exact bq173 HB.out a4.out);rintro e w133 ⟨rfl,hi,hb,hk⟩;refine ⟨_,rfl,?_⟩;refine Ya7 (ra173 (iq173 a4.out) (kr a6.out) hk) (kx hk a9 an) (kx hk a8 af) (kx hk a7 ad) (KeepBut.trans (kb HK.out) hk (.inl rfl)) (hb) (hi) ?_;clear a6 a9 a8 a7 HK HB a4;intro a6 a9 a8 a7 HK HB a4;(try clear hb);(try clear hb2);(try clear hk);(try clear hi);have ⟨fj,fk⟩:=Yc1 a7.out;have b9:0≤(a3:Int):=oda;have ba:a3<(a5.length:Int):=oda;obtain ⟨co,cp,em,en,eo⟩:=at_T27 (Kd.R_reads' a6.out).2.2 a3 b9 ba;cases cp;replace b9:=eq_true b9;replace ba:=eq_true ba)|((with_reducible refine gc 73 rfl ?_);refine gl (some 36) _ (#[.agg #[.slice (some co) a5.length ek],.agg #[.string (((rd_T27 a5 a3).f0)++(⟨#[47,105,110]⟩:ByteArray)),.string (⟨#[]⟩:ByteArray),.bool false]]) Tryd.func73 ?_;(with_reducible refine (spec_l5Set.calls aa _ _ a5 (((rd_T27 a5 a3).f0)++(⟨#[47,105,110]⟩:ByteArray)) (⟨#[]⟩:ByteArray) false aj _ ?side1 ?side2 d8.out).mono ?_);(case side1=>repeat (first|exact (Kd.R_reads' a6.out).2.2|(with_reducible refine Kd.C_alloc ?_ _)|(with_reducible refine Kd.C_drewN ?_ _)|(with_reducible refine Kd.C_drew ?_)));(case side2=>exact (Kd.R_reads' a6.out).2.1);rintro e w135 ⟨ep,rfl,ho0,hb⟩;refine ⟨_,rfl,?_⟩;refine Ya8 (Kd.R_elder' (kr a6.out) (Kd.R_base ho0) hb) (Kd.R_lower (Kd.R_new' ho0 (Kd.R_lt (kr a6.out))) (keep_size (w:=w) (g:=g) (row:=none) (kb HK.out))) (bb a9 hb) (bb a8 hb) (bb a7 hb) (IsS173.below (iq173 a4.out) hb) (KeepBut.trans (kb HK.out) (KeepBut.of_below hb g none) (.inl rfl)) (below_step (bq173 HB.out a4.out) hb) ?_;clear a6 a9 a8 a7 a4 HK HB;intro a6 av a9 a8 a7 a4 HK HB;(try clear hb);(try clear hb2);(try clear hk);(try clear hi);(try clear ho0);obtain ⟨dc,dd,eq⟩:=Kd.R_slice av.out;subst eq;have ⟨fl,fm⟩:=Yc1 a7.out)|((with_reducible refine gc 66 rfl ?_);refine gl (some 38) _ (#[.pointer (some ⟨g,0,none⟩),.int .i64 2]) Tryd.func66 ?_;(with_reducible refine (spec_l1Rd_pick.calls aa g s0_0 ai 2 aX bL w0 _ ?side1 ?side2 da.out).mono ?_);(case side1=>exact iq173 a4.out);(case side2=>exact bq173 HB.out a4.out);rintro e w138 ⟨rfl,hi,hb,hk⟩;refine ⟨_,rfl,?_⟩;refine Ya8 (Kd.R_mono (Kd.R_keep (IsS173.apart (show IsS173 w0 _ g s0_0 ai from iq173 a4.out) (rf a6 a7) (by decide)) hk (fun _ h=>h.2)) (fun _ h=>h.1)) (kxf hk a9 ao an) (kxf hk a8 ap af) (KeepBut.blk hk (g':=ah) (o:=.cells #[.slice dc aj.length dd] 25 (0,0)) (bp a7.out) ad.out (by simp)) (Kd.R_mono (Kd.R_keep (IsS173.apart (show IsS173 w0 _ g s0_0 ai from iq173 a4.out) (rf av a7) (by decide)) hk (fun _ h=>h.2)) (fun _ h=>h.1)) (KeepBut.trans (kb HK.out) hk (.inl rfl)) (hb) (hi) ?_;clear a6 a9 a8 a7 av HK HB a4;intro a6 a9 a8 a7 av HK HB a4;(try clear hb);(try clear hb2);(try clear hk);(try clear hi);have ⟨fn,fo⟩:=Yc1 a7.out)|((with_reducible refine gc 73 rfl ?_);refine gl (some 44) _ (#[.agg #[.slice dc aj.length dd],.agg #[.string (((rd_T27 a5 a3).f0)++(⟨#[33,98]⟩:ByteArray)),.string (⟨#[]⟩:ByteArray),.bool false]]) Tryd.func73 ?_;(with_reducible refine (spec_l5Set.calls aa _ _ aj (((rd_T27 a5 a3).f0)++(⟨#[33,98]⟩:ByteArray)) (⟨#[]⟩:ByteArray) false aw _ ?side1 ?side2 ej.out).mono ?_);(case side1=>repeat (first|exact (Kd.R_reads' av.out).2.2|(with_reducible refine Kd.C_alloc ?_ _)|(with_reducible refine Kd.C_drewN ?_ _)|(with_reducible refine Kd.C_drew ?_)));(case side2=>exact (Kd.R_reads' av.out).2.1);rintro e w140 ⟨v274,rfl,ho0,hb⟩;refine ⟨_,rfl,?_⟩;refine Ya9 (Kd.R_elder' (kr a6.out) (Kd.R_base ho0) hb) (Kd.R_elder' (kr av.out) (Kd.R_base ho0) hb) (Kd.R_lower (Kd.R_new' (Kd.R_new' ho0 (Kd.R_lt (kr a6.out))) (Kd.R_lt (kr av.out))) (keep_size (w:=w) (g:=g) (row:=none) (kb HK.out))) (bb a9 hb) (bb a8 hb) (bb a7 hb) (IsS173.below (iq173 a4.out) hb) (KeepBut.trans (kb HK.out) (KeepBut.of_below hb g none) (.inl rfl)) (below_step (bq173 HB.out a4.out) hb) ?_;clear a6 av a9 a8 a7 a4 HK HB;intro a6 av de a9 a8 a7 a4 HK HB;(try clear hb);(try clear hb2);(try clear hk);(try clear hi);(try clear ho0);obtain ⟨cq,cr,er⟩:=Kd.R_slice de.out;subst er;have ⟨fp,fq⟩:=Yc1 a7.out;have fr:=aZ.out;have fs:=aY.out;have ft:=af.out;have fu:=bd.out;have ⟨fv,fw⟩:=Yc1 a8.out))
            refine bodyPost_ret (results_cell_row rfl _ _ ag 25 #[.slice cq aw.length cr] (0,0) _ rfl (bp a8.out) Tryd.underlying25 rfl (by kernel_rfl)) rfl ?_;exact ⟨_,Ye2,by (with_reducible repeat (first|apply Kd.R_alloc|apply Kd.R_drewN|apply Kd.R_drew));exact Kd.R_mono (Kd.R_far (p:=⟨ag,0,none⟩) (Kd.R_far (p:=⟨ah,0,none⟩) (Kd.R_types (Kd.R_types de.out a7.out (by decide)) a8.out (by decide)) (fun _ hk=>hk.1.2) (.slice cq aw.length cr)) (fun _ hk=>hk.2) (.slice cq aw.length cr)) (fun _ hk=>trivial),iq173 a4.out,bq173 HB.out a4.out,kb HK.out⟩
           ·rw [if_neg bM] at H
            exact absurd H (by simp)
          ·rw [if_neg b8] at H
           have eh:(aX==0)=false:=beq_eq_false_iff_ne.mpr b8;have ei:(aX != 0)=true:=bne_iff_ne.mpr b8;simp only [Option.some.injEq,Prod.mk.injEq] at H;obtain ⟨rfl,rfl⟩:=H;have fx:=ay.out;have fy:=ao.out;have fz:=az.out;have fA:=ap.out;have fB:=ad.out;have fC:=aD.out;have ⟨fD,fE⟩:=Yc1 a7.out;obtain ⟨Ao150,es,et⟩:=Kd.R_slice a6.out;subst et
           go_wp2_with (first|((with_reducible refine gc 66 rfl ?_);refine gl (some 23) _ (#[.pointer (some ⟨g,0,none⟩),.int .i64 (a5.length:Int)]) Tryd.func66 ?_;(with_reducible refine (spec_l1Rd_pick.calls aa g s0_0 s0_1 (a5.length:Int) a3 ax w0 _ ?side1 ?side2 bh.out).mono ?_);(case side1=>exact iq173 a4.out);(case side2=>exact bq173 HB.out a4.out);rintro e w151 ⟨rfl,hi,hb,hk⟩;refine ⟨_,rfl,?_⟩;refine Ya7 (ra173 (iq173 a4.out) (kr a6.out) hk) (kx hk a9 an) (kx hk a8 af) (kx hk a7 ad) (KeepBut.trans (kb HK.out) hk (.inl rfl)) (hb) (hi) ?_;clear a6 a9 a8 a7 HK HB a4;intro a6 a9 a8 a7 HK HB a4;(try clear hb);(try clear hb2);(try clear hk);(try clear hi))|((with_reducible refine gc 66 rfl ?_);refine gl (some 25) _ (#[.pointer (some ⟨g,0,none⟩),.int .i64 5]) Tryd.func66 ?_;(with_reducible refine (spec_l1Rd_pick.calls aa g s0_0 ax 5 ab ai w0 _ ?side1 ?side2 bi.out).mono ?_);(case side1=>exact iq173 a4.out);(case side2=>exact bq173 HB.out a4.out);rintro e w152 ⟨rfl,hi,hb,hk⟩;refine ⟨_,rfl,?_⟩;refine Ya7 (ra173 (iq173 a4.out) (kr a6.out) hk) (kx hk a9 an) (kx hk a8 af) (kx hk a7 ad) (KeepBut.trans (kb HK.out) hk (.inl rfl)) (hb) (hi) ?_;clear a6 a9 a8 a7 HK HB a4;intro a6 a9 a8 a7 HK HB a4;(try clear hb);(try clear hb2);(try clear hk);(try clear hi);have ⟨fF,fG⟩:=Yc1 a7.out;have b9:0≤(a3:Int):=oda;have ba:a3<(a5.length:Int):=oda;obtain ⟨co,cp,em,en,eo⟩:=at_T27 (Kd.R_reads' a6.out).2.2 a3 b9 ba;cases cp;replace b9:=eq_true b9;replace ba:=eq_true ba)|((with_reducible refine gc 73 rfl ?_);refine gl (some 36) _ (#[.agg #[.slice (some co) a5.length es],.agg #[.string (((rd_T27 a5 a3).f0)++(⟨#[47,105,110]⟩:ByteArray)),.string (⟨#[]⟩:ByteArray),.bool false]]) Tryd.func73 ?_;(with_reducible refine (spec_l5Set.calls aa _ _ a5 (((rd_T27 a5 a3).f0)++(⟨#[47,105,110]⟩:ByteArray)) (⟨#[]⟩:ByteArray) false aj _ ?side1 ?side2 d8.out).mono ?_);(case side1=>repeat (first|exact (Kd.R_reads' a6.out).2.2|(with_reducible refine Kd.C_alloc ?_ _)|(with_reducible refine Kd.C_drewN ?_ _)|(with_reducible refine Kd.C_drew ?_)));(case side2=>exact (Kd.R_reads' a6.out).2.1);rintro e w154 ⟨ep,rfl,ho0,hb⟩;refine ⟨_,rfl,?_⟩;refine Ya8 (Kd.R_elder' (kr a6.out) (Kd.R_base ho0) hb) (Kd.R_lower (Kd.R_new' ho0 (Kd.R_lt (kr a6.out))) (keep_size (w:=w) (g:=g) (row:=none) (kb HK.out))) (bb a9 hb) (bb a8 hb) (bb a7 hb) (IsS173.below (iq173 a4.out) hb) (KeepBut.trans (kb HK.out) (KeepBut.of_below hb g none) (.inl rfl)) (below_step (bq173 HB.out a4.out) hb) ?_;clear a6 a9 a8 a7 a4 HK HB;intro a6 av a9 a8 a7 a4 HK HB;(try clear hb);(try clear hb2);(try clear hk);(try clear hi);(try clear ho0);obtain ⟨cs,ct,eu⟩:=Kd.R_slice av.out;subst eu;have ⟨fH,fI⟩:=Yc1 a7.out)|((with_reducible refine gc 66 rfl ?_);refine gl (some 38) _ (#[.pointer (some ⟨g,0,none⟩),.int .i64 2]) Tryd.func66 ?_;(with_reducible refine (spec_l1Rd_pick.calls aa g s0_0 ai 2 aX bL w0 _ ?side1 ?side2 da.out).mono ?_);(case side1=>exact iq173 a4.out);(case side2=>exact bq173 HB.out a4.out);rintro e w157 ⟨rfl,hi,hb,hk⟩;refine ⟨_,rfl,?_⟩;refine Ya8 (Kd.R_mono (Kd.R_keep (IsS173.apart (show IsS173 w0 _ g s0_0 ai from iq173 a4.out) (rf a6 a7) (by decide)) hk (fun _ h=>h.2)) (fun _ h=>h.1)) (kxf hk a9 ao an) (kxf hk a8 ap af) (KeepBut.blk hk (g':=ah) (o:=.cells #[.slice cs aj.length ct] 25 (0,0)) (bp a7.out) ad.out (by simp)) (Kd.R_mono (Kd.R_keep (IsS173.apart (show IsS173 w0 _ g s0_0 ai from iq173 a4.out) (rf av a7) (by decide)) hk (fun _ h=>h.2)) (fun _ h=>h.1)) (KeepBut.trans (kb HK.out) hk (.inl rfl)) (hb) (hi) ?_;clear a6 a9 a8 a7 av HK HB a4;intro a6 a9 a8 a7 av HK HB a4;(try clear hb);(try clear hb2);(try clear hk);(try clear hi);have ⟨fJ,fK⟩:=Yc1 a7.out;have fL:=aZ.out;have fM:=aY.out;have fN:=af.out;have fO:=bd.out;have ⟨fP,fQ⟩:=Yc1 a8.out))
           refine bodyPost_ret (results_cell_row rfl _ _ ag 25 #[.slice cs aj.length ct] (0,0) _ rfl (bp a8.out) Tryd.underlying25 rfl (by kernel_rfl)) rfl ?_;exact ⟨_,Ye2,by (with_reducible repeat (first|apply Kd.R_alloc|apply Kd.R_drewN|apply Kd.R_drew));exact Kd.R_mono (Kd.R_far (p:=⟨ag,0,none⟩) (Kd.R_types av.out a8.out (by decide)) (fun _ hk=>hk.2) (.slice cs aj.length ct)) (fun _ hk=>trivial),iq173 a4.out,bq173 HB.out a4.out,kb HK.out⟩
         ·rw [if_neg bK] at H
          exact absurd H (by simp)
        ·rw [if_neg cc] at H
         exact absurd H (by simp)
       ·rw [if_neg ca] at H
        exact absurd H (by simp)

end Go.Proofs.YtknagppkeodggaaDoor.P


namespace Go.Proofs.YtknagppkeodggaaDoor.P
open Go.RowKit Go.Proofs.YtknagppkeodggaaDoorW.PrintWords Go.Proofs.YtknagppkeodggaaDoorW.PrintLast Go.Proofs.YtknagppkeodggaaDoorW.PrintMore
attribute [local go_sem] max2_int min2_int max_two min_two max_three min_three max_four min_four
set_option linter.unusedVariables false
set_option linter.unusedSimpArgs false

def spec_l5Any.f (k:Nat) (s0_0:List Int) (s0_1:Int):Option ((List (S27))×Int):=(spec_l5Draw.f k s0_0 s0_1).bind fun bt277=>((spec_l1Rd_pick.f k s0_0 bt277.2 10).bind fun bt282=>(if bt282.1=0 then ((spec_l5Spoil.f k s0_0 bt282.2 bt277.1).bind fun bt284=>(some (bt284.1,bt284.2))) else (some (bt277.1,bt282.2))))
theorem spec_l5Any.mono:∀ a0 a1 k,LeO (spec_l5Any.f k a0 a1) (spec_l5Any.f (k+1) a0 a1):=by
 intro a0 a1 k
 unfold spec_l5Any.f
 repeat' first
   | (with_reducible exact spec_l1Rd_pick.mono _ _ _ _)
   | (with_reducible exact spec_l5Draw.mono _ _ _)
   | (with_reducible exact spec_l5Spoil.mono _ _ _ _)
   | (with_reducible exact LeO.refl _)
   | (with_reducible exact LeO.none _)
   | (with_reducible refine LeO.ite ?_ ?_)
   | (with_reducible refine LeO.bind ?_ (fun _ => ?_))
   | exact spec_l1Rd_pick.mono _ _ _ _
   | exact spec_l5Draw.mono _ _ _
   | exact spec_l5Spoil.mono _ _ _ _
   | exact LeO.none _
   | refine LeO.ite ?_ ?_
   | refine LeO.bind ?_ (fun _ => ?_)
set_option maxHeartbeats 8000000 in
set_option maxRecDepth 100000 in
theorem spec_l5Any.calls (k:Nat) (g:Nat) (s0_0:List Int) (s0_1:Int) (r1:List (S27)) (r2:Int) (w0 w:World) (hI:IsS173 w0 w g s0_0 s0_1) (hB:Below w0.heap.size w0 w) (h:spec_l5Any.f k s0_0 s0_1=some (r1,r2)) :
  Calls Tryd.prog 63 #[.pointer (some ⟨g,0,none⟩)] w fun e w' => ∃ v0_:Value,e = .returned (.agg #[v0_])∧Kd.R k27 27 w' w.heap.size (fun _=>True) v0_ r1∧IsS173 w0 w' g s0_0 r2∧Below w0.heap.size w0 w'∧KeepBut w w' g none:=by
 have hu25:=Tryd.underlying25;have a2:=Aside0.mk hI;have HK:=Aside0.mk (KeepBut.refl w g none);have HL:=Aside0.mk hB.size;clear hI;have HW0:=Aside0.mk hB.size;have HB:=Aside0.mk hB;clear hB;have H:((spec_l5Draw.f k s0_0 s0_1).bind fun bt277=>((spec_l1Rd_pick.f k s0_0 bt277.2 10).bind fun bt282=>(if bt282.1=0 then ((spec_l5Spoil.f k s0_0 bt282.2 bt277.1).bind fun bt284=>(some (bt284.1,bt284.2))) else (some (bt277.1,bt282.2)))))=some (r1,r2):=h;clear h;replace H:=Option.bind_eq_some_iff.mp H;obtain ⟨⟨a8,a9⟩,A20,H⟩:=H;replace H:((spec_l1Rd_pick.f k s0_0 a9 10).bind fun bt282=>(if bt282.1=0 then ((spec_l5Spoil.f k s0_0 bt282.2 a8).bind fun bt284=>(some (bt284.1,bt284.2))) else (some (a8,bt282.2))))=some (r1,r2):=H;have A2:=Aside0.mk A20;clear A20;replace H:=Option.bind_eq_some_iff.mp H;obtain ⟨⟨aa,ac⟩,A30,H⟩:=H;replace H:(if aa=0 then ((spec_l5Spoil.f k s0_0 ac a8).bind fun bt284=>(some (bt284.1,bt284.2))) else (some (a8,ac)))=some (r1,r2):=H;have A3:=Aside0.mk A30;clear A30
 by_cases c4:aa=0
 ·rw [if_pos c4] at H
  have ap:(aa==0)=true:=beq_iff_eq.mpr c4;have aq:(aa != 0)=false:=bne_eq_false_iff_eq.mpr c4;clear c4;replace H:=Option.bind_eq_some_iff.mp H;obtain ⟨⟨af,al⟩,A50,H⟩:=H;replace H:(some (af,al))=some (r1,r2):=H;have A5:=Aside0.mk A50;clear A50;simp only [Option.some.injEq,Prod.mk.injEq] at H;obtain ⟨rfl,rfl⟩:=H
  go_enter Tryd.func63,Tryd.ntmps63
  go_wp2_with (first|((with_reducible refine gd 2 rfl ?_);refine bx 2 25 (#[.slice none 0 0]) ?_;intro a6 hg w6 hbox hb;refine Ya8 (IsS173.below (iq173 a2.out) hb) (KeepBut.trans (kb HK.out) (KeepBut.of_below hb g none) (.inl rfl)) (below_step (bq173 HB.out a2.out) hb) (hbox) ((by rw [hg];exact (keep_size (w:=w) (g:=g) (row:=none) (kb HK.out)):w.heap.size≤a6)) ((Nat.le_trans HW0.out (by rw [hg];exact (keep_size (w:=w) (g:=g) (row:=none) (kb HK.out)):w.heap.size≤a6):w0.heap.size≤a6)) ((by rw [hg];exact Nat.ne_of_lt (IsS173.lt (show IsS173 w0 _ g s0_0 s0_1 from iq173 a2.out)):g≠a6)) ((by rw [hg];exact Nat.ne_of_gt (IsS173.lt (show IsS173 w0 _ g s0_0 s0_1 from iq173 a2.out)):a6≠g)) ?_;clear a2 HK HB;intro a2 HK HB a3 ar au ag ab;clear hb hbox hg)|((with_reducible refine gc 97 rfl ?_);refine gl (some 5) _ (#[.pointer (some ⟨g,0,none⟩)]) Tryd.func97 ?_;(with_reducible refine (spec_l5Draw.calls k g s0_0 s0_1 a8 a9 w0 _ ?side1 ?side2 A2.out).mono ?_);(case side1=>exact iq173 a2.out);(case side2=>exact bq173 HB.out a2.out);rintro e w7 ⟨av,rfl,ho0,hi,hb,hk⟩;refine ⟨_,rfl,?_⟩;refine Ya5 (kx hk a3 ab) (Kd.R_lower ho0 (keep_size (w:=w) (g:=g) (row:=none) (kb HK.out))) (KeepBut.trans (kb HK.out) hk (.inl rfl)) (hb) (hi) ?_;clear a3 HK HB a2;intro a3 a4 HK HB a2;(try clear hb);(try clear hb2);(try clear hk);(try clear hi);(try clear ho0))|((with_reducible refine gd 3 rfl ?_);refine bx 3 25 (#[.slice none 0 0]) ?_;intro a7 hg w8 hbox hb;refine Ya12 (Kd.R_below (kr a4.out) hb) (IsS173.below (iq173 a2.out) hb) (bb a3 hb) (KeepBut.trans (kb HK.out) (KeepBut.of_below hb g none) (.inl rfl)) (below_step (bq173 HB.out a2.out) hb) (hbox) ((by rw [hg];exact (keep_size (w:=w) (g:=g) (row:=none) (kb HK.out)):w.heap.size≤a7)) ((Nat.le_trans HW0.out (by rw [hg];exact (keep_size (w:=w) (g:=g) (row:=none) (kb HK.out)):w.heap.size≤a7):w0.heap.size≤a7)) (bl hg a3) (br hg a3) ((by rw [hg];exact Nat.ne_of_lt (IsS173.lt (show IsS173 w0 _ g s0_0 a9 from iq173 a2.out)):g≠a7)) ((by rw [hg];exact Nat.ne_of_gt (IsS173.lt (show IsS173 w0 _ g s0_0 a9 from iq173 a2.out)):a7≠g)) ?_;clear a4 a2 a3 HK HB;intro a4 a2 a3 HK HB a5 aw ax ae ah ai ad;clear hb hbox hg;obtain ⟨Ao9,co9,eo9⟩:=Kd.R_slice a4.out;subst eo9;have hnb10:=ah.out;have hnc10:=ae.out;have hnb11:=ad.out;have hnc11:=ai.out;have ⟨aA,aB⟩:=Yc1 a5.out)|((with_reducible refine gc 66 rfl ?_);refine gl (some 7) _ (#[.pointer (some ⟨g,0,none⟩),.int .i64 10]) Tryd.func66 ?_;(with_reducible refine (spec_l1Rd_pick.calls k g s0_0 a9 10 aa ac w0 _ ?side1 ?side2 A3.out).mono ?_);(case side1=>exact iq173 a2.out);(case side2=>exact bq173 HB.out a2.out);rintro e w13 ⟨rfl,hi,hb,hk⟩;refine ⟨_,rfl,?_⟩;refine Ya6 (kxf hk a3 ae ab) (Kd.R_mono (Kd.R_keep (IsS173.apart (show IsS173 w0 _ g s0_0 a9 from iq173 a2.out) (rf a4 a5) (by decide)) hk (fun _ h=>h.2)) (fun _ h=>h.1)) (KeepBut.blk hk (g':=a7) (o:=.cells #[.slice Ao9 a8.length co9] 25 (0,0)) (bp a5.out) ad.out (by simp)) (KeepBut.trans (kb HK.out) hk (.inl rfl)) (hb) (hi) ?_;clear a3 a4 a5 HK HB a2;intro a3 a4 a5 HK HB a2;(try clear hb);(try clear hb2);(try clear hk);(try clear hi);have ⟨aC,aD⟩:=Yc1 a5.out)|((with_reducible refine gc 99 rfl ?_);refine gl (some 11) _ (#[.pointer (some ⟨g,0,none⟩),.agg #[.slice Ao9 a8.length co9]]) Tryd.func99 ?_;(with_reducible refine (spec_l5Spoil.calls k g s0_0 ac _ _ a8 af al w0 _ ?side1 ?side2 ?side3 ?side4 A5.out).mono ?_);(case side1=>exact iq173 a2.out);(case side2=>exact bq173 HB.out a2.out);(case side3=>exact Kd.C_foot_own (IsS173.apart (show IsS173 w0 _ g s0_0 ac from iq173 a2.out) (kr a4.out) (by decide)) (fun _ h_=>h_.2));(case side4=>exact (Kd.R_reads' a4.out).2.1);rintro e w15 ⟨v285,rfl,ho0,hi,hb,hk⟩;refine ⟨_,rfl,?_⟩;refine Ya7 (kx hk a3 ab) (Kd.R_mono (Kd.R_told (Kd.R_oldK (IsS173.apart (show IsS173 w0 _ g s0_0 ac from iq173 a2.out) (kr a4.out) (by decide)) hk) (Kd.R_base ho0)) (fun _ h_=>h_.1)) (kx hk a5 ad) (Kd.R_lower (Kd.R_new' ho0 (Kd.R_lt (kr a4.out))) (keep_size (w:=w) (g:=g) (row:=none) (kb HK.out))) (KeepBut.trans (kb HK.out) hk (.inl rfl)) (hb) (hi) ?_;clear a3 a4 a5 HK HB a2;intro a3 a4 a5 am HK HB a2;(try clear hb);(try clear hb2);(try clear hk);(try clear hi);(try clear ho0);obtain ⟨an,ao,ay⟩:=Kd.R_slice am.out;subst ay;have hnb17:=ab.out;have hnc17:=ag.out;have ⟨aE,aF⟩:=Yc1 a3.out))
  refine bodyPost_ret (results_cell_row rfl _ _ a6 25 #[.slice an af.length ao] (0,0) _ rfl (bp a3.out) Tryd.underlying25 rfl (by kernel_rfl)) rfl ?_;exact ⟨_,Ye2,by (with_reducible repeat (first|apply Kd.R_alloc|apply Kd.R_drewN|apply Kd.R_drew));exact Kd.R_mono (Kd.R_far (p:=⟨a6,0,none⟩) (Kd.R_types am.out a3.out (by decide)) (fun _ hk=>hk.2) (.slice an af.length ao)) (fun _ hk=>trivial),iq173 a2.out,bq173 HB.out a2.out,kb HK.out⟩
 ·rw [if_neg c4] at H
  have ap:(aa==0)=false:=beq_eq_false_iff_ne.mpr c4;have aq:(aa != 0)=true:=bne_iff_ne.mpr c4;simp only [Option.some.injEq,Prod.mk.injEq] at H;obtain ⟨rfl,rfl⟩:=H
  go_enter Tryd.func63,Tryd.ntmps63
  go_wp2_with (first|((with_reducible refine gd 2 rfl ?_);refine bx 2 25 (#[.slice none 0 0]) ?_;intro a6 hg w19 hbox hb;refine Ya8 (IsS173.below (iq173 a2.out) hb) (KeepBut.trans (kb HK.out) (KeepBut.of_below hb g none) (.inl rfl)) (below_step (bq173 HB.out a2.out) hb) (hbox) ((by rw [hg];exact (keep_size (w:=w) (g:=g) (row:=none) (kb HK.out)):w.heap.size≤a6)) ((Nat.le_trans HW0.out (by rw [hg];exact (keep_size (w:=w) (g:=g) (row:=none) (kb HK.out)):w.heap.size≤a6):w0.heap.size≤a6)) ((by rw [hg];exact Nat.ne_of_lt (IsS173.lt (show IsS173 w0 _ g s0_0 s0_1 from iq173 a2.out)):g≠a6)) ((by rw [hg];exact Nat.ne_of_gt (IsS173.lt (show IsS173 w0 _ g s0_0 s0_1 from iq173 a2.out)):a6≠g)) ?_;clear a2 HK HB;intro a2 HK HB a3 ar au ag ab;clear hb hbox hg)|((with_reducible refine gc 97 rfl ?_);refine gl (some 5) _ (#[.pointer (some ⟨g,0,none⟩)]) Tryd.func97 ?_;(with_reducible refine (spec_l5Draw.calls k g s0_0 s0_1 a8 a9 w0 _ ?side1 ?side2 A2.out).mono ?_);(case side1=>exact iq173 a2.out);(case side2=>exact bq173 HB.out a2.out);rintro e w20 ⟨av,rfl,ho0,hi,hb,hk⟩;refine ⟨_,rfl,?_⟩;refine Ya5 (kx hk a3 ab) (Kd.R_lower ho0 (keep_size (w:=w) (g:=g) (row:=none) (kb HK.out))) (KeepBut.trans (kb HK.out) hk (.inl rfl)) (hb) (hi) ?_;clear a3 HK HB a2;intro a3 a4 HK HB a2;(try clear hb);(try clear hb2);(try clear hk);(try clear hi);(try clear ho0))|((with_reducible refine gd 3 rfl ?_);refine bx 3 25 (#[.slice none 0 0]) ?_;intro a7 hg w21 hbox hb;refine Ya12 (Kd.R_below (kr a4.out) hb) (IsS173.below (iq173 a2.out) hb) (bb a3 hb) (KeepBut.trans (kb HK.out) (KeepBut.of_below hb g none) (.inl rfl)) (below_step (bq173 HB.out a2.out) hb) (hbox) ((by rw [hg];exact (keep_size (w:=w) (g:=g) (row:=none) (kb HK.out)):w.heap.size≤a7)) ((Nat.le_trans HW0.out (by rw [hg];exact (keep_size (w:=w) (g:=g) (row:=none) (kb HK.out)):w.heap.size≤a7):w0.heap.size≤a7)) (bl hg a3) (br hg a3) ((by rw [hg];exact Nat.ne_of_lt (IsS173.lt (show IsS173 w0 _ g s0_0 a9 from iq173 a2.out)):g≠a7)) ((by rw [hg];exact Nat.ne_of_gt (IsS173.lt (show IsS173 w0 _ g s0_0 a9 from iq173 a2.out)):a7≠g)) ?_;clear a4 a2 a3 HK HB;intro a4 a2 a3 HK HB a5 aw ax ae ah ai ad;clear hb hbox hg;obtain ⟨aj,ak,az⟩:=Kd.R_slice a4.out;subst az;have hnb23:=ah.out;have hnc23:=ae.out;have hnb24:=ad.out;have hnc24:=ai.out;have ⟨aG,aH⟩:=Yc1 a5.out)|((with_reducible refine gc 66 rfl ?_);refine gl (some 7) _ (#[.pointer (some ⟨g,0,none⟩),.int .i64 10]) Tryd.func66 ?_;(with_reducible refine (spec_l1Rd_pick.calls k g s0_0 a9 10 aa ac w0 _ ?side1 ?side2 A3.out).mono ?_);(case side1=>exact iq173 a2.out);(case side2=>exact bq173 HB.out a2.out);rintro e w26 ⟨rfl,hi,hb,hk⟩;refine ⟨_,rfl,?_⟩;refine Ya6 (kxf hk a3 ae ab) (Kd.R_mono (Kd.R_keep (IsS173.apart (show IsS173 w0 _ g s0_0 a9 from iq173 a2.out) (rf a4 a5) (by decide)) hk (fun _ h=>h.2)) (fun _ h=>h.1)) (KeepBut.blk hk (g':=a7) (o:=.cells #[.slice aj a8.length ak] 25 (0,0)) (bp a5.out) ad.out (by simp)) (KeepBut.trans (kb HK.out) hk (.inl rfl)) (hb) (hi) ?_;clear a3 a4 a5 HK HB a2;intro a3 a4 a5 HK HB a2;(try clear hb);(try clear hb2);(try clear hk);(try clear hi);have ⟨aI,aJ⟩:=Yc1 a5.out;have hnb28:=ab.out;have hnc28:=ag.out;have ⟨aK,aL⟩:=Yc1 a3.out))
  refine bodyPost_ret (results_cell_row rfl _ _ a6 25 #[.slice aj a8.length ak] (0,0) _ rfl (bp a3.out) Tryd.underlying25 rfl (by kernel_rfl)) rfl ?_;exact ⟨_,Ye2,by (with_reducible repeat (first|apply Kd.R_alloc|apply Kd.R_drewN|apply Kd.R_drew));exact Kd.R_mono (Kd.R_far (p:=⟨a6,0,none⟩) (Kd.R_types a4.out a3.out (by decide)) (fun _ hk=>hk.2) (.slice aj a8.length ak)) (fun _ hk=>trivial),iq173 a2.out,bq173 HB.out a2.out,kb HK.out⟩

end Go.Proofs.YtknagppkeodggaaDoor.P


namespace Go.Proofs.YtknagppkeodggaaDoor.P
open Go.RowKit Go.Proofs.YtknagppkeodggaaDoorW.PrintWords Go.Proofs.YtknagppkeodggaaDoorW.PrintLast Go.Proofs.YtknagppkeodggaaDoorW.PrintMore
attribute [local go_sem] max2_int min2_int max_two min_two max_three min_three max_four min_four
set_option linter.unusedVariables false
set_option linter.unusedSimpArgs false

mutual
def spec_DrawPick.l0:Nat→List ByteArray→Int→List Int→Int→List (S27)→Option ((List (S27))×List ByteArray)
 | 0,_,_,_,_,_=>none
 | k+1,x6,x7,ak,az,ap=>if x7>0 then ((spec_l4Glob.f k ak az).bind fun bt575=>((spec_l1Rd_pick.f k ak bt575.2 8).bind fun bt577=>(if bt577.1=0 then ((spec_l4Spoil.f k ak bt577.2 bt575.1).bind fun bt579=>(if x6.length<8796093022208 then (spec_DrawPick.l0 k (x6 ++ [bt579.1]) (wrap64 (x7 - 1)) ak bt579.2 ap) else (none))) else (if x6.length<8796093022208 then (spec_DrawPick.l0 k (x6 ++ [bt575.1]) (wrap64 (x7 - 1)) ak bt577.2 ap) else (none))))) else ((spec_l1Rd_pick.f k ak az 16).bind fun bt587=>(if bt587.1=0 then (spec_DrawPick.l1 k x6 ak bt587.2 ap) else (some (ap,x6))))
def spec_DrawPick.l1:Nat→List ByteArray→List Int→Int→List (S27)→Option ((List (S27))×List ByteArray)
 | 0,_,_,_,_=>none
 | k+1,x6,ak,az,ap=>if (x6.length:Int)<21 then (if x6.length<8796093022208 then (spec_DrawPick.l1 k (x6 ++ [(⟨#[42,42]⟩:ByteArray)]) ak az ap) else (none)) else ((spec_l1Rd_pick.f k ak az 2).bind fun bt592=>(if 0≤(wrap64 (20+bt592.1)) then (if (wrap64 (20+bt592.1))≤(x6.length:Int) then (some (ap,(x6.take ((wrap64 (20+bt592.1)):Int).toNat))) else (none)) else (none)))
end
def spec_DrawPick.f (k:Nat) (l0:List Int):Option ((List (S27))×List ByteArray):=(spec_l1Open.f l0).bind fun bt562=>((spec_l5Any.f k bt562.1 bt562.2).bind fun bt565=>((spec_l1Rd_pick.f k bt562.1 bt565.2 4).bind fun bt573=>(spec_DrawPick.l0 k (([]:List ByteArray)) bt573.1 bt562.1 bt573.2 bt565.1)))
theorem spec_DrawPick.mono_l:∀ k,(∀ y0 y1 y2 y3 y4,LeO (spec_DrawPick.l0 k y0 y1 y2 y3 y4) (spec_DrawPick.l0 (k+1) y0 y1 y2 y3 y4))∧(∀ y0 y1 y2 y3,LeO (spec_DrawPick.l1 k y0 y1 y2 y3) (spec_DrawPick.l1 (k+1) y0 y1 y2 y3))
 | 0=>⟨fun _ _ _ _ _ r h=>by simp [spec_DrawPick.l0] at h,fun _ _ _ _ r h=>by simp [spec_DrawPick.l1] at h⟩
 | k + 1 => by
  obtain ⟨ih0,ih1⟩:=spec_DrawPick.mono_l k;refine ⟨?_,?_⟩
  ·intro y0 y1 y2 y3 y4
   unfold spec_DrawPick.l0
   repeat' first
   | (with_reducible exact ih0 _ _ _ _ _)
   | (with_reducible exact ih1 _ _ _ _)
   | (with_reducible exact spec_l1Rd_pick.mono _ _ _ _)
   | (with_reducible exact spec_l4Glob.mono _ _ _)
   | (with_reducible exact spec_l4Spoil.mono _ _ _ _)
   | (with_reducible exact spec_l5Any.mono _ _ _)
   | (with_reducible exact LeO.refl _)
   | (with_reducible exact LeO.none _)
   | (with_reducible refine LeO.ite ?_ ?_)
   | (with_reducible refine LeO.bind ?_ (fun _ => ?_))
   | exact ih0 _ _ _ _ _
   | exact ih1 _ _ _ _
   | exact spec_l1Rd_pick.mono _ _ _ _
   | exact spec_l4Glob.mono _ _ _
   | exact spec_l4Spoil.mono _ _ _ _
   | exact spec_l5Any.mono _ _ _
   | exact LeO.none _
   | refine LeO.ite ?_ ?_
   | refine LeO.bind ?_ (fun _ => ?_)
  ·intro y0 y1 y2 y3
   unfold spec_DrawPick.l1
   repeat' first
   | (with_reducible exact ih0 _ _ _ _ _)
   | (with_reducible exact ih1 _ _ _ _)
   | (with_reducible exact spec_l1Rd_pick.mono _ _ _ _)
   | (with_reducible exact spec_l4Glob.mono _ _ _)
   | (with_reducible exact spec_l4Spoil.mono _ _ _ _)
   | (with_reducible exact spec_l5Any.mono _ _ _)
   | (with_reducible exact LeO.refl _)
   | (with_reducible exact LeO.none _)
   | (with_reducible refine LeO.ite ?_ ?_)
   | (with_reducible refine LeO.bind ?_ (fun _ => ?_))
   | exact ih0 _ _ _ _ _
   | exact ih1 _ _ _ _
   | exact spec_l1Rd_pick.mono _ _ _ _
   | exact spec_l4Glob.mono _ _ _
   | exact spec_l4Spoil.mono _ _ _ _
   | exact spec_l5Any.mono _ _ _
   | exact LeO.none _
   | refine LeO.ite ?_ ?_
   | refine LeO.bind ?_ (fun _ => ?_)
theorem spec_DrawPick.mono:∀ a0 k,LeO (spec_DrawPick.f k a0) (spec_DrawPick.f (k+1) a0):=by
 intro a0 k;obtain ⟨ih0,ih1⟩:=spec_DrawPick.mono_l k
 unfold spec_DrawPick.f
 repeat' first
   | (with_reducible exact ih0 _ _ _ _ _)
   | (with_reducible exact ih1 _ _ _ _)
   | (with_reducible exact spec_l1Rd_pick.mono _ _ _ _)
   | (with_reducible exact spec_l4Glob.mono _ _ _)
   | (with_reducible exact spec_l4Spoil.mono _ _ _ _)
   | (with_reducible exact spec_l5Any.mono _ _ _)
   | (with_reducible exact LeO.refl _)
   | (with_reducible exact LeO.none _)
   | (with_reducible refine LeO.ite ?_ ?_)
   | (with_reducible refine LeO.bind ?_ (fun _ => ?_))
   | exact ih0 _ _ _ _ _
   | exact ih1 _ _ _ _
   | exact spec_l1Rd_pick.mono _ _ _ _
   | exact spec_l4Glob.mono _ _ _
   | exact spec_l4Spoil.mono _ _ _ _
   | exact spec_l5Any.mono _ _ _
   | exact LeO.none _
   | refine LeO.ite ?_ ?_
   | refine LeO.bind ?_ (fun _ => ?_)
def spec_DrawPick.T14:Bool×List (List Nat×List Nat):=(true,[([],[]),([],[]),([],[]),([2],[2]),([3],[3]),([1,4],[1,4]),([0,3,0],[0]),([5,6,0,1,2,3,4,5,6],[5])])
def spec_DrawPick.B14:List Nat:=[0,0,0,4,12,30,13,127]
theorem spec_DrawPick.tab14:rtab .any (opsOf Tryd.f25 14)=spec_DrawPick.T14:=by kernel_rfl
theorem spec_DrawPick.bits14:waitsOk spec_DrawPick.T14.2 spec_DrawPick.B14=true:=by kernel_rfl
set_option maxHeartbeats 8000000 in
set_option maxRecDepth 100000 in
theorem spec_DrawPick.calls (k : Nat) (A0 : Option Addr) (c0 : Nat) (l0 : List Int) (r1 : List (S27)) (r2 : List ByteArray) (w : World) (hr0 : Kd.C (Kd.int .u8) w A0 l0.length l0) (hc0 : l0.length ≤ c0) (h : spec_DrawPick.f k l0 = some (r1, r2)) :
  Calls Tryd.prog 25 #[.slice A0 l0.length c0] w fun e w' => ∃ v0_ v1_:Value,e = .returned (.tuple #[.agg #[v0_],v1_])∧Kd.R k27 27 w' w.heap.size (fun _=>True) v0_ r1∧Kd.R Kd.string 9 w' w.heap.size (fun _=>True) v1_ r2∧Below w.heap.size w w':=by
 have hu25:=Tryd.underlying25;have HR0:=Aside0.mk hr0;have HC0:=Aside0.mk hc0;clear hr0 hc0;have HB:=Aside0.mk (Below.refl w.heap.size w);have H:((spec_l1Open.f l0).bind fun bt562=>((spec_l5Any.f k bt562.1 bt562.2).bind fun bt565=>((spec_l1Rd_pick.f k bt562.1 bt565.2 4).bind fun bt573=>(spec_DrawPick.l0 k (([]:List ByteArray)) bt573.1 bt562.1 bt573.2 bt565.1))))=some (r1,r2):=h;clear h;replace H:=Option.bind_eq_some_iff.mp H;obtain ⟨⟨a6,aZ⟩,aT,H⟩:=H;replace H:((spec_l5Any.f k a6 aZ).bind fun bt565=>((spec_l1Rd_pick.f k a6 bt565.2 4).bind fun bt573=>(spec_DrawPick.l0 k (([]:List ByteArray)) bt573.1 a6 bt573.2 bt565.1)))=some (r1,r2):=H;have A2:=Aside0.mk aT;clear aT;replace H:=Option.bind_eq_some_iff.mp H;obtain ⟨⟨a7,aq⟩,aA,H⟩:=H;replace H:((spec_l1Rd_pick.f k a6 aq 4).bind fun bt573=>(spec_DrawPick.l0 k (([]:List ByteArray)) bt573.1 a6 bt573.2 a7))=some (r1,r2):=H;have A3:=Aside0.mk aA;clear aA
 obtain ⟨b0,aC⟩:∃ y_:List ByteArray,y_=(([]:List ByteArray)):=⟨_,rfl⟩
 replace H:((spec_l1Rd_pick.f k a6 aq 4).bind fun bt573=>(spec_DrawPick.l0 k b0 bt573.1 a6 bt573.2 a7))=some (r1,r2):=by first|(rw [aC];with_reducible exact H)|(have H2_:=(Option.bind_some _ _).symm.trans H;rw [aC];with_reducible exact H2_)|(have H2_:=(Option.bind_some _ _).symm.trans H;with_reducible exact H2_)|with_reducible exact H|(rw [aC];exact H)|exact H
 have b3:=Aside0.mk aC;clear aC;replace H:=Option.bind_eq_some_iff.mp H;obtain ⟨⟨b1,b2⟩,A40,H⟩:=H;replace H:(spec_DrawPick.l0 k b0 b1 a6 b2 a7)=some (r1,r2):=H;have A4:=Aside0.mk A40;clear A40;have H':=Aside0.mk H;clear H
 go_enter Tryd.func25,Tryd.ntmps25
 go_wp2_with (first|((with_reducible refine gd 2 rfl ?_);refine bx 2 25 (#[.slice none 0 0]) ?_;intro ac hg w5 hbox hb;refine Ya4 (below_step (be HB.out) hb) (hbox) (bs hg (be HB.out)) (bs hg (be HB.out)) ?_;clear HB;intro HB a2 GW561 GE561;clear hb hbox hg)|((with_reducible refine gc 62 rfl ?_);refine gl (some 10) _ (#[.slice A0 l0.length c0]) Tryd.func62 ?_;(with_reducible refine (spec_l1Open.calls _ _ l0 a6 aZ w _ ?side1 ?side2 ?side3 A2.out).mono ?_);(case side1=>exact bf HB.out);(case side2=>exact HR0.out);(case side3=>exact HC0.out);rintro e w6 ⟨g564,rfl,hi,hb,hb2⟩;refine ⟨_,rfl,?_⟩;refine Ya5 (blk_below (g:=ac) (o:=.cells #[.slice none 0 0] 25 (0,0)) (bk a2.out) hb2) (hb) (hi) (IsS173.ne_blk hi (blk_below (g:=ac) (o:=.cells #[.slice none 0 0] 25 (0,0)) (bk a2.out) hb2) (by decide)) (Ne.symm (IsS173.ne_blk hi (blk_below (g:=ac) (o:=.cells #[.slice none 0 0] 25 (0,0)) (bk a2.out) hb2) (by decide))) ?_;clear a2 HB;intro a2 HB a1 bz ag;(try clear hb);(try clear hb2);(try clear hk);(try clear hi))|((with_reducible refine gc 63 rfl ?_);refine gl (some 12) _ (#[.pointer (some ⟨g564,0,none⟩)]) Tryd.func63 ?_;(with_reducible refine (spec_l5Any.calls k g564 a6 aZ a7 aq w _ ?side1 ?side2 A3.out).mono ?_);(case side1=>exact iq173 a1.out);(case side2=>exact bq173 HB.out a1.out);rintro e w7 ⟨v566,rfl,ho0,hi,hb,hk⟩;refine ⟨_,rfl,?_⟩;refine Ya4 (kx hk a2 ag) (Kd.R_lower ho0 (below_size (bq173 HB.out a1.out))) (hb) (hi) ?_;clear a2 HB a1;intro a2 ah HB a1;(try clear hb);(try clear hb2);(try clear hk);(try clear hi);(try clear ho0))|((with_reducible refine gd 5 rfl ?_);refine bx 5 25 (#[.slice none 0 0]) ?_;intro af hg w8 hbox hb;refine Ya11 (Kd.R_below (kr ah.out) hb) (bb a2 hb) (IsS173.below (iq173 a1.out) hb) (below_step (bq173 HB.out a1.out) hb) (hbox) ((by rw [hg];exact (below_size (bq173 HB.out a1.out)):w.heap.size≤af)) ((by rw [hg];exact (below_size (bq173 HB.out a1.out)):w.heap.size≤af)) (bl hg a2) (br hg a2) ((by rw [hg];exact Nat.ne_of_lt (IsS173.lt (show IsS173 w _ g564 a6 aq from iq173 a1.out)):g564≠af)) ((by rw [hg];exact Nat.ne_of_gt (IsS173.lt (show IsS173 w _ g564 a6 aq from iq173 a1.out)):af≠g564)) ?_;clear ah a2 a1 HB;intro ah a2 a1 HB a3 GW569 GE569 aU aV b4 ai;clear hb hbox hg;obtain ⟨aa,ab,eo9⟩:=Kd.R_slice ah.out;subst eo9;have hnb10:=aV.out;have hnc10:=aU.out;have hnb11:=ai.out;have hnc11:=b4.out;have ⟨b5,b6⟩:=Yc1 a3.out)|((with_reducible refine gd 13 rfl ?_);refine Kd.R_lit Kd.string _ 9 ?hg (N:=13) ?hd (xs:=([]:List ByteArray)) (inner:=[]) (ok:=fun _=>True) (okp:=fun _=>True) ?hr ?hp (fun _ hk=>hk) trivial (Below.refl _ _) (Nat.le_refl _) (by simp) ?_;(case hd=>rfl);(case hg=>rfl);(case hr=>first|(go_simp;done)|(go_simp;rfl));(case hp=>exact (Reps.none _ _));intro v571 w13 ho14 hb hg_ hnew_;clear hg_ hnew_;(first|rw [←b3.out] at ho14|(simp only [Int.reduceToNat] at ho14;rw [←b3.out] at ho14));refine Ya6 (Kd.R_below (rf ah a3) hb) (Kd.R_lower ho14 (below_size (bq173 HB.out a1.out))) (bbf a2 aU hb) (IsS173.below (show IsS173 w (w8.setCell ⟨af,0,none⟩ (.slice aa a7.length ab)) g564 a6 aq from iq173 a1.out) hb) (blk_below (g:=af) (o:=.cells #[.slice aa a7.length ab] 25 (0,0)) (bp a3.out) hb) (below_step (bq173 HB.out a1.out) hb) ?_;clear ah a2 a1 a3 HB;intro ah aW a2 a1 a3 HB;clear hb ho14)|((with_reducible refine gc 66 rfl ?_);refine gl (some 15) _ (#[.pointer (some ⟨g564,0,none⟩),.int .i64 4]) Tryd.func66 ?_;(with_reducible refine (spec_l1Rd_pick.calls k g564 a6 aq 4 b1 b2 w _ ?side1 ?side2 A4.out).mono ?_);(case side1=>exact iq173 a1.out);(case side2=>exact bq173 HB.out a1.out);rintro e w15 ⟨rfl,hi,hb,hk⟩;refine ⟨_,rfl,?_⟩;refine Ya6 (kx hk a2 ag) (ra173 (iq173 a1.out) (kr ah.out) hk) (kx hk a3 ai) (ra173 (iq173 a1.out) (kr aW.out) hk) (hb) (hi) ?_;clear a2 ah a3 aW HB a1;intro a2 ah a3 aW HB a1;(try clear hb);(try clear hb2);(try clear hk);(try clear hi)))
 go_loopg [6,7] k (fun kq v6 v7 w' => ∃ (a8:List ByteArray) (ad:Int) (ar:Int),v7 = .int .i64 ad∧Aside0 (spec_DrawPick.l0 kq a8 ad a6 ar a7=some (r1,r2))∧Aside0 (kq≤k)∧Aside0 (Kd.R Kd.string 9 w' w.heap.size (fun _=>True) v6 a8)∧Aside0 (Kd.R k27 27 w' w.heap.size (fun _=>True) (.slice aa a7.length ab) a7)∧Aside0 (w'.heap[ac]? = some (.cells #[(.slice none 0 0)] 25 (0,0)))∧Aside0 (w'.heap[af]? = some (.cells #[(.slice aa a7.length ab)] 25 (0,0)))∧Aside0 (IsS173 w w' g564 a6 ar)∧Aside0 (Below w.heap.size w w'))
 case atStart=>exact ⟨(b0),(b1),(b2),Ye1,H',⟨Nat.le_refl _⟩,⟨kr aW.out⟩,⟨kr ah.out⟩,⟨bk a2.out⟩,⟨bk a3.out⟩,⟨iq173 a1.out⟩,⟨bq173 HB.out a1.out⟩⟩
 case round =>
  clear H';(try clear c1);(try clear c2);(try clear p2);(try clear c6);(try clear c10);(try clear c11);(try clear b5);(try clear b6);obtain ⟨a8,ad,ar,rfl,HA,HK1,a4,a5,a2,a3,a1,HB⟩:=hrel
  cases gk with
  | zero=>exact absurd HA.out (by simp [spec_DrawPick.l0])
  | succ k1 =>
   have H:=HA.out;clear HA;simp only [spec_DrawPick.l0] at H
   by_cases au:ad>0
   ·rw [if_pos au] at H
    have b7:decide (0<ad)=true:=decide_eq_true au;clear au;replace H:=Option.bind_eq_some_iff.mp H;obtain ⟨⟨aj,aD⟩,b8,H⟩:=H;replace H:((spec_l1Rd_pick.f k1 a6 aD 8).bind fun bt577=>(if bt577.1=0 then ((spec_l4Spoil.f k1 a6 bt577.2 aj).bind fun bt579=>(if a8.length<8796093022208 then (spec_DrawPick.l0 k1 (a8 ++ [bt579.1]) (wrap64 (ad - 1)) a6 bt579.2 a7) else (none))) else (if a8.length<8796093022208 then (spec_DrawPick.l0 k1 (a8 ++ [aj]) (wrap64 (ad - 1)) a6 bt577.2 a7) else (none))))=some (r1,r2):=H;have A17:=Aside0.mk b8;clear b8;replace H:=Option.bind_eq_some_iff.mp H;obtain ⟨⟨al,av⟩,b9,H⟩:=H;replace H:(if al=0 then ((spec_l4Spoil.f k1 a6 av aj).bind fun bt579=>(if a8.length<8796093022208 then (spec_DrawPick.l0 k1 (a8 ++ [bt579.1]) (wrap64 (ad - 1)) a6 bt579.2 a7) else (none))) else (if a8.length<8796093022208 then (spec_DrawPick.l0 k1 (a8 ++ [aj]) (wrap64 (ad - 1)) a6 av a7) else (none)))=some (r1,r2):=H;have A18:=Aside0.mk b9;clear b9
    by_cases am:al=0
    ·rw [if_pos am] at H
     have ba:(al==0)=true:=beq_iff_eq.mpr am;have bd:(al != 0)=false:=bne_eq_false_iff_eq.mpr am;clear am;replace H:=Option.bind_eq_some_iff.mp H;obtain ⟨⟨aE,aX⟩,bg,H⟩:=H;replace H:(if a8.length<8796093022208 then (spec_DrawPick.l0 k1 (a8 ++ [aE]) (wrap64 (ad - 1)) a6 aX a7) else (none))=some (r1,r2):=H;have aT:=Aside0.mk bg;clear bg
     by_cases aG:a8.length<8796093022208
     ·rw [if_pos aG] at H
      have bA:=Aside0.mk aG;clear aG
      obtain ⟨bh,aH⟩:∃ y_:List ByteArray,y_=(a8 ++ [aE]):=⟨_,rfl⟩
      replace H:(spec_DrawPick.l0 k1 bh (wrap64 (ad - 1)) a6 aX a7)=some (r1,r2):=by first|(rw [aH];with_reducible exact H)|(have H2_:=(Option.bind_some _ _).symm.trans H;rw [aH];with_reducible exact H2_)|(have H2_:=(Option.bind_some _ _).symm.trans H;with_reducible exact H2_)|with_reducible exact H|(rw [aH];exact H)|exact H
      have bB:=Aside0.mk aH;clear aH;have H':=Aside0.mk H;clear H
      go_wp2_with (first|((with_reducible refine gc 78 rfl ?_);refine gl (some 21) _ (#[.pointer (some ⟨g564,0,none⟩)]) Tryd.func78 ?_;(with_reducible refine (spec_l4Glob.calls k1 g564 a6 ar aj aD w _ ?side1 ?side2 A17.out).mono ?_);(case side1=>exact iq173 a1.out);(case side2=>exact bq173 HB.out a1.out);rintro e w22 ⟨rfl,hi,hb,hk⟩;refine ⟨_,rfl,?_⟩;refine Ya6 (ra173 (iq173 a1.out) (kr a4.out) hk) (ra173 (iq173 a1.out) (kr a5.out) hk) (kx hk a2 ag) (kx hk a3 ai) (hb) (hi) ?_;clear a4 a5 a2 a3 HB a1;intro a4 a5 a2 a3 HB a1;(try clear hb);(try clear hb2);(try clear hk);(try clear hi))|((with_reducible refine gc 66 rfl ?_);refine gl (some 23) _ (#[.pointer (some ⟨g564,0,none⟩),.int .i64 8]) Tryd.func66 ?_;(with_reducible refine (spec_l1Rd_pick.calls k1 g564 a6 aD 8 al av w _ ?side1 ?side2 A18.out).mono ?_);(case side1=>exact iq173 a1.out);(case side2=>exact bq173 HB.out a1.out);rintro e w23 ⟨rfl,hi,hb,hk⟩;refine ⟨_,rfl,?_⟩;refine Ya6 (ra173 (iq173 a1.out) (kr a4.out) hk) (ra173 (iq173 a1.out) (kr a5.out) hk) (kx hk a2 ag) (kx hk a3 ai) (hb) (hi) ?_;clear a4 a5 a2 a3 HB a1;intro a4 a5 a2 a3 HB a1;(try clear hb);(try clear hb2);(try clear hk);(try clear hi))|((with_reducible refine gc 67 rfl ?_);refine gl (some 27) _ (#[.pointer (some ⟨g564,0,none⟩),.string aj]) Tryd.func67 ?_;(with_reducible refine (spec_l4Spoil.calls k1 g564 a6 av aj aE aX w _ ?side1 ?side2 aT.out).mono ?_);(case side1=>exact iq173 a1.out);(case side2=>exact bq173 HB.out a1.out);rintro e w24 ⟨rfl,hi,hb,hk⟩;refine ⟨_,rfl,?_⟩;refine Ya6 (ra173 (iq173 a1.out) (kr a4.out) hk) (ra173 (iq173 a1.out) (kr a5.out) hk) (kx hk a2 ag) (kx hk a3 ai) (hb) (hi) ?_;clear a4 a5 a2 a3 HB a1;intro a4 a5 a2 a3 HB a1;(try clear hb);(try clear hb2);(try clear hk);(try clear hi))|((with_reducible refine gate_builtin (b:=.append) (xs:=#[.tmp 28,.tmp 30]) rfl ?_);at_builtin;refine Kd.R_append Kd.string (w0:=w) w.heap.size rfl (.tmp 28) (.tmp 30) 42 9 (.string ⟨#[]⟩) 16 rfl Tryd.underlying42 info9 rfl (by decide) (by omega) u6 a8 aE [.string aE] (fun _=>True) (fun _=>False) rfl rfl ?aP (fun _ hk=>hk.elim) ?aF ?aO ?aB ?aS ?aL ?_;(case aP=>exact rfl);(case aB=>exact (bq173 HB.out a1.out));(case aF=>exact (fun _ _=>trivial));(case aO=>exact (kr a4.out));(case aS=>exact (below_size (bq173 HB.out a1.out)));(case aL=>have:=bA.out;omega);intro v582 w25 ho hb hg hat;rw [←bB.out] at ho;refine Ya6 (Kd.R_over' (kr a5.out) (Kd.R_typed (kr a4.out)) (by decide) hg) (blk_grown (g:=ac) (o:=.cells #[.slice none 0 0] 25 (0,0)) (bk a2.out) hg (Kd.R_ne a4.out a2.out (by decide))) (blk_grown (g:=af) (o:=.cells #[.slice aa a7.length ab] 25 (0,0)) (bk a3.out) hg (Kd.R_ne a4.out a3.out (by decide))) (IsS173.grown (iq173 a1.out) hg (IsS173.own_ne a1.out a4.out (by decide))) (hb) (ho) ?_;clear a5 a2 a3 a1 HB a4;intro a5 a2 a3 a1 HB bC;clear ho hb hg hat))
      go_roundg k1
      case measure=>have:=HK1.out;omega
      case rel=>exact ⟨(bh),(wrap64 (ad - 1)),(aX),Ye1,H',⟨by have:=HK1.out;omega⟩,⟨kr bC.out⟩,⟨kr a5.out⟩,⟨bk a2.out⟩,⟨bk a3.out⟩,⟨iq173 a1.out⟩,⟨bq173 HB.out a1.out⟩⟩
     ·rw [if_neg aG] at H
      exact absurd H (by simp)
    ·rw [if_neg am] at H
     have ba:(al==0)=false:=beq_eq_false_iff_ne.mpr am;have bd:(al != 0)=true:=bne_iff_ne.mpr am
     by_cases aI:a8.length<8796093022208
     ·rw [if_pos aI] at H
      have bD:=Aside0.mk aI;clear aI
      obtain ⟨bi,aJ⟩:∃ y_:List ByteArray,y_=(a8 ++ [aj]):=⟨_,rfl⟩
      replace H:(spec_DrawPick.l0 k1 bi (wrap64 (ad - 1)) a6 av a7)=some (r1,r2):=by first|(rw [aJ];with_reducible exact H)|(have H2_:=(Option.bind_some _ _).symm.trans H;rw [aJ];with_reducible exact H2_)|(have H2_:=(Option.bind_some _ _).symm.trans H;with_reducible exact H2_)|with_reducible exact H|(rw [aJ];exact H)|exact H
      have bE:=Aside0.mk aJ;clear aJ;have H':=Aside0.mk H;clear H
      go_wp2_with (first|((with_reducible refine gc 78 rfl ?_);refine gl (some 21) _ (#[.pointer (some ⟨g564,0,none⟩)]) Tryd.func78 ?_;(with_reducible refine (spec_l4Glob.calls k1 g564 a6 ar aj aD w _ ?side1 ?side2 A17.out).mono ?_);(case side1=>exact iq173 a1.out);(case side2=>exact bq173 HB.out a1.out);rintro e w27 ⟨rfl,hi,hb,hk⟩;refine ⟨_,rfl,?_⟩;refine Ya6 (ra173 (iq173 a1.out) (kr a4.out) hk) (ra173 (iq173 a1.out) (kr a5.out) hk) (kx hk a2 ag) (kx hk a3 ai) (hb) (hi) ?_;clear a4 a5 a2 a3 HB a1;intro a4 a5 a2 a3 HB a1;(try clear hb);(try clear hb2);(try clear hk);(try clear hi))|((with_reducible refine gc 66 rfl ?_);refine gl (some 23) _ (#[.pointer (some ⟨g564,0,none⟩),.int .i64 8]) Tryd.func66 ?_;(with_reducible refine (spec_l1Rd_pick.calls k1 g564 a6 aD 8 al av w _ ?side1 ?side2 A18.out).mono ?_);(case side1=>exact iq173 a1.out);(case side2=>exact bq173 HB.out a1.out);rintro e w28 ⟨rfl,hi,hb,hk⟩;refine ⟨_,rfl,?_⟩;refine Ya6 (ra173 (iq173 a1.out) (kr a4.out) hk) (ra173 (iq173 a1.out) (kr a5.out) hk) (kx hk a2 ag) (kx hk a3 ai) (hb) (hi) ?_;clear a4 a5 a2 a3 HB a1;intro a4 a5 a2 a3 HB a1;(try clear hb);(try clear hb2);(try clear hk);(try clear hi))|((with_reducible refine gate_builtin (b:=.append) (xs:=#[.tmp 28,.tmp 30]) rfl ?_);at_builtin;refine Kd.R_append Kd.string (w0:=w) w.heap.size rfl (.tmp 28) (.tmp 30) 42 9 (.string ⟨#[]⟩) 16 rfl Tryd.underlying42 info9 rfl (by decide) (by omega) u6 a8 aj [.string aj] (fun _=>True) (fun _=>False) rfl rfl ?aP (fun _ hk=>hk.elim) ?aF ?aO ?aB ?aS ?aL ?_;(case aP=>exact rfl);(case aB=>exact (bq173 HB.out a1.out));(case aF=>exact (fun _ _=>trivial));(case aO=>exact (kr a4.out));(case aS=>exact (below_size (bq173 HB.out a1.out)));(case aL=>have:=bD.out;omega);intro v585 w29 ho hb hg hat;rw [←bE.out] at ho;refine Ya6 (Kd.R_over' (kr a5.out) (Kd.R_typed (kr a4.out)) (by decide) hg) (blk_grown (g:=ac) (o:=.cells #[.slice none 0 0] 25 (0,0)) (bk a2.out) hg (Kd.R_ne a4.out a2.out (by decide))) (blk_grown (g:=af) (o:=.cells #[.slice aa a7.length ab] 25 (0,0)) (bk a3.out) hg (Kd.R_ne a4.out a3.out (by decide))) (IsS173.grown (iq173 a1.out) hg (IsS173.own_ne a1.out a4.out (by decide))) (hb) (ho) ?_;clear a5 a2 a3 a1 HB a4;intro a5 a2 a3 a1 HB bF;clear ho hb hg hat))
      go_roundg k1
      case measure=>have:=HK1.out;omega
      case rel=>exact ⟨(bi),(wrap64 (ad - 1)),(av),Ye1,H',⟨by have:=HK1.out;omega⟩,⟨kr bF.out⟩,⟨kr a5.out⟩,⟨bk a2.out⟩,⟨bk a3.out⟩,⟨iq173 a1.out⟩,⟨bq173 HB.out a1.out⟩⟩
     ·rw [if_neg aI] at H
      exact absurd H (by simp)
   ·rw [if_neg au] at H
    have b7:decide (0<ad)=false:=decide_eq_false au;clear au;replace H:=Option.bind_eq_some_iff.mp H;obtain ⟨⟨an,aw⟩,bj,H⟩:=H;replace H:(if an=0 then (spec_DrawPick.l1 k1 a8 a6 aw a7) else (some (a7,a8)))=some (r1,r2):=H;have aA:=Aside0.mk bj;clear bj
    by_cases ao:an=0
    ·rw [if_pos ao] at H
     have bm:(an==0)=true:=beq_iff_eq.mpr ao;have bn:(an != 0)=false:=bne_eq_false_iff_eq.mpr ao;clear ao;have H':=Aside0.mk H;clear H
     go_wp2_with (first|((with_reducible refine gc 66 rfl ?_);refine gl (some 33) _ (#[.pointer (some ⟨g564,0,none⟩),.int .i64 16]) Tryd.func66 ?_;(with_reducible refine (spec_l1Rd_pick.calls k1 g564 a6 ar 16 an aw w _ ?side1 ?side2 aA.out).mono ?_);(case side1=>exact iq173 a1.out);(case side2=>exact bq173 HB.out a1.out);rintro e w32 ⟨rfl,hi,hb,hk⟩;refine ⟨_,rfl,?_⟩;refine Ya6 (ra173 (iq173 a1.out) (kr a4.out) hk) (ra173 (iq173 a1.out) (kr a5.out) hk) (kx hk a2 ag) (kx hk a3 ai) (hb) (hi) ?_;clear a4 a5 a2 a3 HB a1;intro a4 a5 a2 a3 HB a1;(try clear hb);(try clear hb2);(try clear hk);(try clear hi)))
     go_loopg [6] k1 (fun kq v6 w' => ∃ (a9:List ByteArray),Aside0 (spec_DrawPick.l1 kq a9 a6 aw a7=some (r1,r2))∧Aside0 (kq≤k1)∧Aside0 (Kd.R Kd.string 9 w' w.heap.size (fun _=>True) v6 a9)∧Aside0 (Kd.R k27 27 w' w.heap.size (fun _=>True) (.slice aa a7.length ab) a7)∧Aside0 (w'.heap[ac]? = some (.cells #[(.slice none 0 0)] 25 (0,0)))∧Aside0 (w'.heap[af]? = some (.cells #[(.slice aa a7.length ab)] 25 (0,0)))∧Aside0 (IsS173 w w' g564 a6 aw)∧Aside0 (Below w.heap.size w w'))
     case atStart=>exact ⟨(a8),H',⟨Nat.le_refl _⟩,⟨kr a4.out⟩,⟨kr a5.out⟩,⟨bk a2.out⟩,⟨bk a3.out⟩,⟨iq173 a1.out⟩,⟨bq173 HB.out a1.out⟩⟩
     case round =>
      clear H';(try clear c1);(try clear c2);(try clear p2);(try clear c3);(try clear c6);(try clear p6);(try clear c7);(try clear c10);(try clear c11);(try clear au);(try clear b7);(try clear am);(try clear ba);(try clear bd);(try clear aG);(try clear c25);(try clear aI);(try clear ao);(try clear bm);(try clear bn);(try clear b5);(try clear b6);(try clear p2);obtain ⟨a9,HA,HK2,a4,a5,a2,a3,a1,HB⟩:=hrel
      cases gk with
      | zero=>exact absurd HA.out (by simp [spec_DrawPick.l1])
      | succ k2 =>
       have H:=HA.out;clear HA;simp only [spec_DrawPick.l1] at H
       by_cases ax:(a9.length:Int)<21
       ·rw [if_pos ax] at H
        have bG:decide ((a9.length:Int)<21)=true:=decide_eq_true ax;have bH:decide (a9.length<21)=true:=decide_eq_true (by omega);clear ax
        by_cases aY:a9.length<8796093022208
        ·rw [if_pos aY] at H
         have bI:=Aside0.mk aY;clear aY
         obtain ⟨bo,aK⟩:∃ y_:List ByteArray,y_=(a9 ++ [(⟨#[42,42]⟩:ByteArray)]):=⟨_,rfl⟩
         replace H:(spec_DrawPick.l1 k2 bo a6 aw a7)=some (r1,r2):=by first|(rw [aK];with_reducible exact H)|(have H2_:=(Option.bind_some _ _).symm.trans H;rw [aK];with_reducible exact H2_)|(have H2_:=(Option.bind_some _ _).symm.trans H;with_reducible exact H2_)|with_reducible exact H|(rw [aK];exact H)|exact H
         have bJ:=Aside0.mk aK;clear aK;have H':=Aside0.mk H;clear H;obtain ⟨bK,bL,bM⟩:=Kd.R_slice a4.out;subst bM
         go_wp2_with (first|((with_reducible refine gate_builtin (b:=.append) (xs:=#[.tmp 38,.tmp 39]) rfl ?_);at_builtin;refine Kd.R_append Kd.string (w0:=w) w.heap.size rfl (.tmp 38) (.tmp 39) 42 9 (.string ⟨#[]⟩) 16 rfl Tryd.underlying42 info9 rfl (by decide) (by omega) (.slice bK a9.length bL) a9 (⟨#[42,42]⟩:ByteArray) [.string (⟨#[42,42]⟩:ByteArray)] (fun _=>True) (fun _=>False) rfl rfl ?aP (fun _ hk=>hk.elim) ?aF ?aO ?aB ?aS ?aL ?_;(case aP=>exact rfl);(case aB=>exact (bq173 HB.out a1.out));(case aF=>exact (fun _ _=>trivial));(case aO=>exact (kr a4.out));(case aS=>exact (below_size (bq173 HB.out a1.out)));(case aL=>have:=bI.out;omega);intro v590 w36 ho hb hg hat;rw [←bJ.out] at ho;refine Ya6 (Kd.R_over' (kr a5.out) (Kd.R_typed (kr a4.out)) (by decide) hg) (blk_grown (g:=ac) (o:=.cells #[.slice none 0 0] 25 (0,0)) (bk a2.out) hg (Kd.R_ne a4.out a2.out (by decide))) (blk_grown (g:=af) (o:=.cells #[.slice aa a7.length ab] 25 (0,0)) (bk a3.out) hg (Kd.R_ne a4.out a3.out (by decide))) (IsS173.grown (iq173 a1.out) hg (IsS173.own_ne a1.out a4.out (by decide))) (hb) (ho) ?_;clear a5 a2 a3 a1 HB a4;intro a5 a2 a3 a1 HB bN;clear ho hb hg hat))
         go_roundg k2
         case measure=>have:=HK1.out;have:=HK2.out;omega
         case rel=>exact ⟨(bo),H',⟨by have:=HK1.out;have:=HK2.out;omega⟩,⟨kr bN.out⟩,⟨kr a5.out⟩,⟨bk a2.out⟩,⟨bk a3.out⟩,⟨iq173 a1.out⟩,⟨bq173 HB.out a1.out⟩⟩
        ·rw [if_neg aY] at H
         exact absurd H (by simp)
       ·rw [if_neg ax] at H
        have bG:decide ((a9.length:Int)<21)=false:=decide_eq_false ax;have bH:decide (a9.length<21)=false:=decide_eq_false (by omega);clear ax;replace H:=Option.bind_eq_some_iff.mp H;obtain ⟨⟨ay,bO⟩,bq,H⟩:=H;replace H:(if 0≤(wrap64 (20+ay)) then (if (wrap64 (20+ay))≤(a9.length:Int) then (some (a7,(a9.take ((wrap64 (20+ay)):Int).toNat))) else (none)) else (none))=some (r1,r2):=H;have A37:=Aside0.mk bq;clear bq
        obtain ⟨ae,aM⟩:∃ j_:Int,(wrap64 (20+ay))=j_:=⟨_,rfl⟩
        replace H:(if 0≤(ae) then (if (ae)≤(a9.length:Int) then (some (a7,(a9.take ((ae):Int).toNat))) else (none)) else (none))=some (r1,r2):=by first|(rw [aM] at H;exact H)|(simp only [aM] at H ⊢; exact H)
        (try rw [aM] at A37);have hji38w:(IntKind.i64.wrap (20+ay))=ae:=(i64_w _).trans aM
        by_cases aN:0≤(ae)
        ·rw [if_pos aN] at H
         have c39b0:=eq_true aN;have c39b1:decide (0≤(ae))=true:=decide_eq_true aN;clear aN
         by_cases aQ:(ae)≤(a9.length:Int)
         ·rw [if_pos aQ] at H
          have c40b0:=eq_true aQ;have c40b1:decide ((ae)≤(a9.length:Int))=true:=decide_eq_true aQ;clear aQ
          obtain ⟨bu,aR⟩:∃ y_:List ByteArray,y_=(a9.take ((ae):Int).toNat):=⟨_,rfl⟩
          replace H:(some (a7,bu))=some (r1,r2):=by first|(rw [aR];with_reducible exact H)|(have H2_:=(Option.bind_some _ _).symm.trans H;rw [aR];with_reducible exact H2_)|(have H2_:=(Option.bind_some _ _).symm.trans H;with_reducible exact H2_)|with_reducible exact H|(rw [aR];exact H)|exact H
          have bv:=Aside0.mk aR;clear aR;simp only [Option.some.injEq,Prod.mk.injEq] at H;obtain ⟨rfl,rfl⟩:=H;obtain ⟨bP,bQ,bR⟩:=Kd.R_slice a4.out;subst bR
          try go_wp2
          refine Ya6 (Kd.R_drew a4.out) (Kd.R_drew a5.out) (blk_drew a2.out) (blk_drew a3.out) (IsS173.drew a1.out) (below_drew1 HB.out) ?_;clear a4 a5 a2 a3 a1 HB;intro a4 a5 a2 a3 a1 HB;refine start_ (n:=8) (S:=fun w'=>w'.cell? ⟨af,0,none⟩=some (.slice aa a7.length ab)) (ds:=[]) (fb 8 0) (by kernel_rfl) rfl rfl (bc a3 0) (fun hHeld => ?_);refine with_tabW spec_DrawPick.tab14 spec_DrawPick.bits14 (fun HT_ HW_ => ?_);generalize wr.drew=w42 at a4 a5 a2 a3 a1 HB hHeld ⊢; refine pu 1 42 (fb 8 2) HT_ ?_;refine pu 2 43 (fb 8 6) HT_ ?_;refine take_ (i:=0) (N:=some 41) (v:=?_) (a':=?_) (fb 8 7) rfl rfl (take_ofW HT_.out HW_.out (by kernel_rfl)) (fun _ _ _ h=>h) (Or.inl ⟨by rfl,?_⟩) hHeld ?_ ?_;rotate_left
          ·intro w' s0;go_simp;(with_reducible rfl)
          rotate_left
          ·simp only [Act.put,List.setIfInBounds_toArray,List.set_cons_zero,List.set_cons_succ,i64_w,i32_w];rfl
          refine o1 3 (some 44) (fb 8 15) HT_ (fun K hK => ?_);refine gs _ (#[.pointer (some ⟨g564,0,none⟩),.int .i64 2]) Tryd.func66 ?_;(with_reducible refine (spec_l1Rd_pick.calls k2 g564 a6 aw 2 ay bO w _ ?side1 ?side2 A37.out).mono ?_);(case side1=>exact iq173 a1.out);(case side2=>exact bq173 HB.out a1.out);rintro e w43 ⟨rfl,hi,hb,hk⟩;refine ⟨_,rfl,?_⟩;refine Ya6 (ra173 (iq173 a1.out) (kr a4.out) hk) (ra173 (iq173 a1.out) (kr a5.out) hk) (kx hk a2 ag) (kx hk a3 ai) (hb) (hi) ?_;clear a4 a5 a2 a3 HB a1;intro a4 a5 a2 a3 HB a1;(try clear hb);(try clear hb2);(try clear hk);(try clear hi);have q44:((ae):Int)≤((a9.length:Int):Int):=oda;obtain ⟨i044,hi044,_,hsz44,_⟩:=info_parts info9;have hcut44:=cut_to (P:=Tryd.prog) 42 9 .i64 Tryd.underlying42 hi044 bP a9.length bQ (ae) (oda) q44 (Kd.R_reads' a4.out).2.1;have hr44:=Kd.R_take (m:=((ae):Int).toNat) a4.out (by omega)
          have bw:bu.length=((ae):Int).toNat:=(by rw [bv.out,List.length_take];omega)
          rw [←bv.out] at hr44
          rw [←bw] at hr44 hcut44
          clear bw hi044 hsz44 a4;have bS:=Aside0.mk hr44;clear hr44;replace q44:=eq_true q44;refine hK.out _ _ (bc a3 0) (fun hHeld => ?_);clear hK K;refine nm 44 ?_;refine pu 4 45 (fb 8 31) HT_ ?_;refine pu 5 46 (fb 8 63) HT_ ?_;refine o1 6 none (fb 8 127) HT_ (fun K hK => ?_);have ⟨hs45,hfs45⟩:=Yc1 a2.out;have bT:=aV.out;have bU:=aU.out;refine skip_ (w1:=?_) (by rfl) rfl ?_ ?_;rotate_left
          ·go_simp;rfl
          refine hK.out _ _ (((cell_far (p:=⟨ac,_,none⟩) aV.out _).trans (hHeld))) (fun hHeld => ?_);clear hK K;refine pu 7 3 (fb 8 255) HT_ ?_;refine done_ (done_of HT_.out (by kernel_rfl)) ?_
          try go_wp2
          refine bodyPost_ret (results_ct rfl _ _ ac 25 #[.slice aa a7.length ab] (0,0) _ rfl (bp a2.out) Tryd.underlying25 rfl (by kernel_rfl)) rfl ?_;exact ⟨_,_,by first|rfl|(simp [errW_none,errW_some] <;> rfl)|(simp only [←aM];first|rfl|(simp [errW_none,errW_some] <;> rfl))|(simp [*,errW_none,errW_some] <;> rfl),by (with_reducible repeat (first|apply Kd.R_alloc|apply Kd.R_drewN|apply Kd.R_drew));exact Kd.R_mono (Kd.R_far (p:=⟨ac,0,none⟩) (Kd.R_types a5.out a2.out (by decide)) (fun _ hk=>hk.2) (.slice aa a7.length ab)) (fun _ hk=>trivial),by (with_reducible repeat (first|apply Kd.R_alloc|apply Kd.R_drewN|apply Kd.R_drew));exact Kd.R_mono (Kd.R_far (p:=⟨ac,0,none⟩) (Kd.R_types bS.out a2.out (by decide)) (fun _ hk=>hk.2) (.slice aa a7.length ab)) (fun _ hk=>trivial),bq173 HB.out a1.out⟩
         ·rw [if_neg aQ] at H
          exact absurd H (by simp)
        ·rw [if_neg aN] at H
         exact absurd H (by simp)
    ·rw [if_neg ao] at H
     have bm:(an==0)=false:=beq_eq_false_iff_ne.mpr ao;have bn:(an != 0)=true:=bne_iff_ne.mpr ao;simp only [Option.some.injEq,Prod.mk.injEq] at H;obtain ⟨rfl,rfl⟩:=H
     go_wp2_with (first|((with_reducible refine gc 66 rfl ?_);refine gl (some 33) _ (#[.pointer (some ⟨g564,0,none⟩),.int .i64 16]) Tryd.func66 ?_;(with_reducible refine (spec_l1Rd_pick.calls k1 g564 a6 ar 16 an aw w _ ?side1 ?side2 aA.out).mono ?_);(case side1=>exact iq173 a1.out);(case side2=>exact bq173 HB.out a1.out);rintro e w46 ⟨rfl,hi,hb,hk⟩;refine ⟨_,rfl,?_⟩;refine Ya6 (ra173 (iq173 a1.out) (kr a4.out) hk) (ra173 (iq173 a1.out) (kr a5.out) hk) (kx hk a2 ag) (kx hk a3 ai) (hb) (hi) ?_;clear a4 a5 a2 a3 HB a1;intro a4 a5 a2 a3 HB a1;(try clear hb);(try clear hb2);(try clear hk);(try clear hi);have hnb47:=aV.out;have hnc47:=aU.out;have hnb48:=ai.out;have hnc48:=b4.out;have ⟨bV,bW⟩:=Yc1 a3.out;have hnb50:=ag.out;have hnc50:=bz.out;have ⟨bX,bY⟩:=Yc1 a2.out))
     refine bodyPost_ret (results_ct rfl _ _ ac 25 #[.slice aa a7.length ab] (0,0) _ rfl (bp a2.out) Tryd.underlying25 rfl (by kernel_rfl)) rfl ?_;exact ⟨_,_,Ye2,by (with_reducible repeat (first|apply Kd.R_alloc|apply Kd.R_drewN|apply Kd.R_drew));exact Kd.R_mono (Kd.R_far (p:=⟨ac,0,none⟩) (Kd.R_types a5.out a2.out (by decide)) (fun _ hk=>hk.2) (.slice aa a7.length ab)) (fun _ hk=>trivial),by (with_reducible repeat (first|apply Kd.R_alloc|apply Kd.R_drewN|apply Kd.R_drew));exact Kd.R_mono (Kd.R_far (p:=⟨ac,0,none⟩) (Kd.R_types a4.out a2.out (by decide)) (fun _ hk=>hk.2) (.slice aa a7.length ab)) (fun _ hk=>trivial),bq173 HB.out a1.out⟩

end Go.Proofs.YtknagppkeodggaaDoor.P

